/- Laws and walks; conditions stand in each theorem. -/
import Derived.Test.YtdlcglndhhndpaaGreatP21
import Derived.Test.YtdlcglndhhndpaaGreatP36
import Derived.Test.YtdlcglndhhndpaaGreatP40
set_option linter.unusedSimpArgs false
set_option linter.unusedVariables false
set_option maxHeartbeats 8000000
set_option maxRecDepth 100000
namespace Go.Proofs.YtdlcglndhhndpaaGreat
open Go.RowKit
theorem jkZ (A A':Option Addr) (n cap m cap':Nat) (l:List Fv) (ls:List Rv) (w:World) (hl:RdF w w.heap.size A n cap l) (hr:RdR w w.heap.size A' m cap' ls) (hn:n≤20) (hm:m≤40) (hno:(l.all Fv.ok&&ls.all (rowF n))=false) :
 Calls Tryz.prog 23 #[.agg #[.slice A n cap,.slice A' m cap']] w fun e w'=>e=.returned (.tuple #[.slice none 0 0,.slice none 0 0,.int .i64 1])∧Below w.heap.size w w':=by
 have HR:=jmT (fun W (h:Below w.heap.size w W)=>jcg A A' n cap m cap' l ls W (hl.up jan h) (hr.up ja7 h) hn hm);rw [hno] at HR;have K:=St.start w;clear hl hr hno;go_enter Tryz.func23,Tryz.ntmps23
 go_wp2_with (first|(first|(apply K.box;rfl;rfl;rfl;clear K;intro W b0 K;have c0:=(K.blk (b:=b0) (cs:=#[.slice A n cap,.slice A' m cap']) (t:=38) List.mem_cons_self).cell (j:=0) rfl;have c1:=(K.blk (b:=b0) (cs:=#[.slice A n cap,.slice A' m cap']) (t:=38) List.mem_cons_self).cell (j:=1) rfl))|(go_at_call 26;refine (HR.out _ K.1).mono ?_;rintro e W' ⟨rfl,hb⟩;replace K:=K.keep hb))
 exact bodyPost_ret (v:=.tuple #[.slice none 0 0,.slice none 0 0,.int .i64 1]) (by simp [results,Tryz.results23,go_sem]) rfl ⟨rfl,K.1⟩
theorem jcE (A A':Option Addr) (n cap m cap':Nat) (l:List Fv) (ls:List Rv) (w:World) (hl:RdF w w.heap.size A n cap l) (hr:RdR w w.heap.size A' m cap' ls) (hn:n≤20) (hm:m≤40) (hok:(l.all Fv.ok&&ls.all (rowF n))=true) :
 Calls Tryz.prog 23 #[.agg #[.slice A n cap,.slice A' m cap']] w (SolP w m n l ls):=by
 have HR:=jmT (fun W (h:Below w.heap.size w W)=>jcg A A' n cap m cap' l ls W (hl.up jan h) (hr.up ja7 h) hn hm);rw [hok] at HR;rw [Bool.and_eq_true] at hok;have hrow:∀(k:Nat) (X:Rv),ls[k]?=some X→rowF n X=true:=fun k X h=>List.all_eq_true.1 hok.2 _ (List.mem_of_getElem? h)
 have hlen:=hl.len;have hcap:=hl.caps;have hcap':=hr.caps;obtain ⟨vg,hvg,K⟩:=(St.start w).fxOld hl
 have hc:∀j,j<n→isQ (vg j) (fvR l j):=fun j hj=>by
  have h1:=hvg j hj;have h2:(vg j).fv.ok=true:=List.all_eq_true.1 hok.1 _ (List.mem_of_getElem? h1);exact ZQ115
 have HC:=jmT hc;have HOp:=jmT (fun W L D B cg v c (K:St w L D W) hg hc=>jhn w W L D A A' B n cap m cap' cg ls v c K hr hrow hg hc ZO ZO);clear hl hok hc hvg hlen hrow;go_enter Tryz.func23,Tryz.ntmps23
 go_upto_region 4 with (first|(first|(apply K.box;rfl;rfl;rfl;clear K;intro W b0 K;have c0:=(K.blk (b:=b0) (cs:=#[.slice A n cap,.slice A' m cap']) (t:=38) List.mem_cons_self).cell (j:=0) rfl;have c1:=(K.blk (b:=b0) (cs:=#[.slice A n cap,.slice A' m cap']) (t:=38) List.mem_cons_self).cell (j:=1) rfl))|(go_at_call 26;refine (HR.out _ K.1).mono ?_;rintro e W' ⟨rfl,hb⟩;replace K:=K.keep hb;clear c0 c1;have c0:=(K.blk (b:=b0) (cs:=#[.slice A n cap,.slice A' m cap']) (t:=38) List.mem_cons_self).cell (j:=0) rfl;have c1:=(K.blk (b:=b0) (cs:=#[.slice A n cap,.slice A' m cap']) (t:=38) List.mem_cons_self).cell (j:=1) rfl))
 clear c0 c1 HR;have K0:=K.drew;have HZ1:=jmT (fun V L D (h:St w L D V)=>jcH n w V L D h ZO);have HSA:=jmT (fun V L D (h:St w L D V) (hm:((b0,#[.slice A n cap,.slice A' m cap'],38):Blk)∈L)=>(⟨(h.blk hm).cell (j:=0) rfl,(h.blk hm).cell (j:=1) rfl⟩:V.cell? ⟨b0,0,none⟩=some (.slice A n cap)∧V.cell? ⟨b0,1,none⟩=some (.slice A' m cap')));have s0:=HSA.out _ _ _ K0 List.mem_cons_self;clear K hb;refine jah 100 (fun V=>V.cell? ⟨b0,0,none⟩=some (.slice A n cap)∧V.cell? ⟨b0,1,none⟩=some (.slice A' m cap')) Zb9 s0 (fun hSh=>?_);clear s0;refine jaa.tkA 0 rfl ?_;refine jaa.tkA 1 rfl ?_;refine jaa.on 2 rfl fun KK hKK=>?_
 go_simp;go_at_call 61;refine (HZ1.out _ _ _ K0).mono ?_;rintro e w3 ⟨gz,vz,rfl,hvz,k1⟩;go_wp2_with fail;refine hKK.out _ _ ?_ (fun hSh=>?_)
 ·exact HSA.out _ _ _ k1 ZMB
 clear hKK KK;refine ZPT ?_;have k2:=k1.fxOwn ZO;refine jaa.on 3 rfl fun KK hKK=>?_
 go_simp;go_at_call 60;refine (HOp.out _ _ _ _ _ _ _ k2 List.mem_cons_self hvz.out).mono ?_;rintro e w4 ⟨db1,Ld1,Dd1,rfl,hD1,k3⟩;go_wp2_with fail;refine hKK.out _ _ ?_ (fun hSh=>?_)
 ·exact HSA.out _ _ _ k3 (List.mem_append_right _ List.mem_cons_self)
 clear hKK KK;refine ZPT ?_;refine jaa.tkA 4 rfl ?_;refine jaa.done Zb9 ?_;have K:=k3;clear k3 k2 k1 K0 hSh HZ1 hvz;obtain ⟨G0,hG0⟩:∃G0,G0=opnD n (rwA2 ls) (rwB2 ls false) (fun _=>0):=⟨_,rfl⟩;have hOk0:G0.Ok m n:=by rw [hG0];exact jgX m n _ _ _
 have HG0:=jmT hG0
 change Hid (DicL m n db1 false (opnD n (rwA2 ls) (rwB2 ls false) (fun _=>0)) Ld1 Dd1) at hD1
 rw [←hG0] at hD1;clear hG0;have HS1:=jmT (jeF w _ _ _ m n db1 G0 Ld1 Dd1 hD1.out K hOk0 ZO ZO);go_upto_region 6 with (go_at_call 62;refine HS1.out.mono ?_;rintro e w5 ⟨r1,s1,b1,G1,Ld2,Dd2,rfl,hD2,hS,k4⟩)
 have K:=k4;clear k4 HS1;obtain ⟨R1,hR1,hfl⟩:=hD2.out.flag (w0:=w) (L:=Ld2++[(b0,#[.slice A n cap,.slice A' m cap'],38)]) Zb20;have cf:=hfl _ _ K;clear hR1;cases b1
 ·obtain ⟨hq1,hq2⟩:=hS.out.2 rfl;have HOk1:=jmT (hq1.like hOk0 _ rfl).1;rw [HG0.out] at hq1;have HQ1:=jmT hq1;rcases jmb hq2 with ⟨i,hp,rfl⟩|⟨hp,rfl⟩
  ·
   have him:i<m:=(Dc.pick_contra hp).1;have hi0:((i:Nat):Int)≥0:=by omega
   have hi1:decide (((i:Nat):Int)≥0)=true:=decide_eq_true hi0;have HCo:=jmT (jdv (L1:=[(b0,#[.slice A n cap,.slice A' m cap'],38)]) hD2.out K HOk1.out ZO ZO him);have HE:=jmT (jbw.none (c:=fvR l) HQ1.out hp);clear hS hq1 hq2 hp hfl K
   go_wp2_with (go_at_call 63;refine HCo.out.mono ?_;rintro e w6 ⟨g,v,rfl,hv,k5⟩)
   have HP:=jmT (show SolP w m n l ls (.returned (.tuple #[.slice none 0 0,.slice (some ⟨g,0,none⟩) m m,.int .i64 4])) w6 from ⟨_,HE.out,⟨_,_,rfl,k5.rdOwn List.mem_cons_self ZO hv.out,fun i hi=>(hv.out i hi).2⟩,k5.1⟩);clear k5 hv HE HCo;go_wp2_with fail;exact bodyPost_ret (v:=.tuple #[.slice none 0 0,.slice (some ⟨g,0,none⟩) m m,.int .i64 4]) (by simp [results,Tryz.results23,go_sem]) rfl HP.out
  ·have HNC:=jmT hp;have K2:=(K.part (L':=[(b0,#[.slice A n cap,.slice A' m cap'],38)]) (List.sublist_append_right _ _)).less (D':=[⟨fxP A n cap vg,fxS A n vg⟩]) (fun x hx=>List.mem_append_right _ (List.mem_cons_of_mem _ (by simpa using hx)));have c0:=(K2.blk (b:=b0) (cs:=#[.slice A n cap,.slice A' m cap']) (t:=38) List.mem_cons_self).cell (j:=0) rfl;have c1:=(K2.blk (b:=b0) (cs:=#[.slice A n cap,.slice A' m cap']) (t:=38) List.mem_cons_self).cell (j:=1) rfl;have HO2:=jmT (HOp.out _ _ _ _ _ _ _ K2 List.mem_cons_self HC.out);obtain ⟨G3,hG3⟩:∃G3,G3=opnD n (rwA2 ls) (rwB2 ls false) (fvR l):=⟨_,rfl⟩;have hOk3:G3.Ok m n:=by rw [hG3];exact jgX m n _ _ _
   have HG3:=jmT hG3;clear hS hq1 hq2 hp hfl K;go_upto_region 11 with (go_at_call 60;refine HO2.out.mono ?_;rintro e w6 ⟨db3,Ld3,Dd3,rfl,hD3,k5⟩)
   rw [←HG3.out] at hD3;have HS2:=jmT (jeF w _ _ _ m n db3 G3 Ld3 Dd3 hD3.out k5 hOk3 ZO ZO);clear k5 K2 c0 c1 cf HO2 HOp;go_upto_region 12 with (go_at_call 62;refine HS2.out.mono ?_;rintro e w7 ⟨r4,s4,b4,G4,Ld4,Dd4,rfl,hD4,hS4,k6⟩)
   have K:=k6;clear k6 HS2;obtain ⟨R4,hR4,hfl4⟩:=hD4.out.flag (w0:=w) (L:=Ld4++[(b0,#[.slice A n cap,.slice A' m cap'],38)]) Zb20;have cf:=hfl4 _ _ K;clear hR4 hfl4;cases b4
   ·obtain ⟨hq4,hq5⟩:=hS4.out.2 rfl;have HOk4:=jmT (hq4.like hOk3 _ rfl).1;rw [HG3.out] at hq4;have HE:=jmT (jbw.fin HQ1.out HNC.out hq4);rcases jma hq5 with ⟨j,hp,rfl,he⟩|⟨rfl,he⟩
    ·
     rw [he] at HE;have hjn:j<n:=(Dc.pick_endless hp).1;have hj0:((j:Nat):Int)≥0:=by omega
     have hj1:decide (((j:Nat):Int)≥0)=true:=decide_eq_true hj0;have hj2:¬((j:Nat):Int)<0:=by omega
     have hj3:decide (((j:Nat):Int)<0)=false:=decide_eq_false hj2;have HRa:=jmT (jmP (L1:=[(b0,#[.slice A n cap,.slice A' m cap'],38)]) hD4.out K HOk4.out ZO ZO hjn);clear hS4 hq4 hq5 hp he K
     go_wp2_with (go_at_call 65;refine HRa.out.mono ?_;rintro e w8 ⟨g,v,rfl,hv,k7⟩;obtain ⟨R8,-,hfl8⟩:=hD4.out.flag (w0:=w) (L:=((g,rwA n v [],50)::(Ld4++[(b0,#[.slice A n cap,.slice A' m cap'],38)]))) Zb20;have c8:=hfl8 _ _ k7;clear hfl8)
     have HP:=jmT (show SolP w m n l ls (.returned (.tuple #[.slice (some ⟨g,0,none⟩) n n,.slice none 0 0,.int .i64 3])) w8 from ⟨_,HE.out,⟨_,_,rfl,k7.rdOwn List.mem_cons_self ZO hv.out,fun i hi=>(hv.out i hi).2⟩,k7.1⟩);clear k7 hv HE HRa;go_wp2_with fail;exact bodyPost_ret (v:=.tuple #[.slice (some ⟨g,0,none⟩) n n,.slice none 0 0,.int .i64 3]) (by simp [results,Tryz.results23,go_sem]) rfl HP.out
    ·rw [he] at HE;have HBe:=jmT (jj6 (L1:=[(b0,#[.slice A n cap,.slice A' m cap'],38)]) hD4.out K HOk4.out ZO ZO);clear hS4 hq4 hq5 he K
     go_wp2_with (go_at_call 64;refine HBe.out.mono ?_;rintro e w8 ⟨gx,gy,vx,vy,rfl,hvx,hvy,k7⟩;obtain ⟨R8,-,hfl8⟩:=hD4.out.flag (w0:=w) (L:=((gy,rwA m vy [],50)::(gx,rwA n vx [],50)::(Ld4++[(b0,#[.slice A n cap,.slice A' m cap'],38)]))) Zb20;have c8:=hfl8 _ _ k7;clear hfl8)
     have HP:=jmT (show SolP w m n l ls (.returned (.tuple #[.slice (some ⟨gx,0,none⟩) n n,.slice (some ⟨gy,0,none⟩) m m,.int .i64 0])) w8 from ⟨_,HE.out,⟨_,_,_,_,rfl,(k7.part (List.sublist_cons_self _ _)).rdOwn (List.mem_cons_of_mem _ List.mem_cons_self) ZO hvx.out,k7.rdOwn List.mem_cons_self ZO hvy.out,fun i hi=>(hvx.out i hi).2,fun i hi=>(hvy.out i hi).2⟩,k7.1⟩);clear k7 hvx hvy HE HBe;go_wp2_with fail;exact bodyPost_ret (v:=.tuple #[.slice (some ⟨gx,0,none⟩) n n,.slice (some ⟨gy,0,none⟩) m m,.int .i64 0]) (by simp [results,Tryz.results23,go_sem]) rfl HP.out
   ·obtain ⟨hq4,rfl,rfl⟩:=hS4.out.1 rfl;rw [HG3.out] at hq4;have HP:=jmT (show SolP w m n l ls (.returned (.tuple #[.slice none 0 0,.slice none 0 0,.int .i64 6])) w7 from ⟨_,jbw.full2 HQ1.out HNC.out hq4,rfl,K.1⟩);clear hS4 hq4 K;exact ZQ134
 ·obtain ⟨hq1,rfl,rfl⟩:=hS.out.1 rfl;rw [HG0.out] at hq1;have HP:=jmT (show SolP w m n l ls (.returned (.tuple #[.slice none 0 0,.slice none 0 0,.int .i64 6])) w5 from ⟨_,jbw.full1 hq1,rfl,K.1⟩);clear hS hq1 K;exact ZQ134
theorem solA (A A':Option Addr) (cap cap':Nat) (w:World) (hl:RdF w w.heap.size A 2 cap (fvJ [1,1])) (hr:RdR w w.heap.size A' 2 cap' pA):Calls Tryz.prog 23 #[.agg #[.slice A 2 cap,.slice A' 2 cap']] w fun e w'=>∃A1 c1 A2 c2,e=.returned (.tuple #[.slice A1 2 c1,.slice A2 2 c2,.int .i64 0])∧RdF w' w'.heap.size A1 2 c1 [fvQ (Rat.divInt 8 5),fvQ (Rat.divInt 6 5)]∧RdF w' w'.heap.size A2 2 c2 [fvQ (Rat.divInt 2 5),fvQ (Rat.divInt 1 5)]∧Below w.heap.size w w':=by
 refine (jcE A A' 2 cap 2 cap' _ _ w hl hr Zb4 Zb4 Zb24).mono ?_;rintro e w' ⟨E,hE,hO,hb⟩;have he:=hE.det (jg6 exA1 exA3 exA2);subst he;unfold jf8 at hO;rw [exA4] at hO;obtain ⟨A1,c1,A2,c2,h0,h1,h2,-,-⟩:=hO;rw [exA5] at h1;rw [exA6] at h2;exact ⟨A1,c1,A2,c2,h0,h1,h2,hb⟩
theorem solB (A A':Option Addr) (cap cap':Nat) (w:World) (hl:RdF w w.heap.size A 1 cap (fvJ [1])) (hr:RdR w w.heap.size A' 2 cap' pB):Calls Tryz.prog 23 #[.agg #[.slice A 1 cap,.slice A' 2 cap']] w fun e w'=>∃A2 c2,e=.returned (.tuple #[.slice none 0 0,.slice A2 2 c2,.int .i64 4])∧RdF w' w'.heap.size A2 2 c2 [fvQ ((1:Int):Rat),fvQ ((1:Int):Rat)]∧Below w.heap.size w w':=by
 refine (jcE A A' 1 cap 2 cap' _ _ w hl hr Zb4 Zb4 Zb24).mono ?_;rintro e w' ⟨E,hE,hO,hb⟩;have he:=hE.det (jfT exB1 exB2);subst he;obtain ⟨A2,c2,h0,h2,-⟩:=hO;rw [exB3] at h2;exact ⟨A2,c2,h0,h2,hb⟩
theorem solC (A A':Option Addr) (cap cap':Nat) (w:World) (hl:RdF w w.heap.size A 2 cap (fvJ [1,1])) (hr:RdR w w.heap.size A' 1 cap' pC):Calls Tryz.prog 23 #[.agg #[.slice A 2 cap,.slice A' 1 cap']] w fun e w'=>∃A2 c2,e=.returned (.tuple #[.slice A2 2 c2,.slice none 0 0,.int .i64 3])∧RdF w' w'.heap.size A2 2 c2 [fvQ ((1:Int):Rat),fvQ ((1:Int):Rat)]∧Below w.heap.size w w':=by
 refine (jcE A A' 2 cap 1 cap' _ _ w hl hr Zb4 Zb4 Zb24).mono ?_;rintro e w' ⟨E,hE,hO,hb⟩;have he:=hE.det (jg6 exC1 exC2 exC3);subst he;unfold jf8 at hO;rw [exC4] at hO;obtain ⟨A2,c2,h0,h2,-⟩:=hO;rw [exC5] at h2;exact ⟨A2,c2,h0,h2,hb⟩
theorem solD (A':Option Addr) (cap':Nat) (w:World) (hr:RdR w w.heap.size A' 1 cap' pD):Calls Tryz.prog 23 #[.agg #[.slice none 0 0,.slice A' 1 cap']] w fun e w'=>∃A2 c2,e=.returned (.tuple #[.slice none 0 0,.slice A2 1 c2,.int .i64 4])∧RdF w' w'.heap.size A2 1 c2 [fvQ ((1:Int):Rat)]∧Below w.heap.size w w':=by
 refine (jcE none A' 0 0 1 cap' [] _ w Rd.nil hr Zb4 Zb4 Zb24).mono ?_;rintro e w' ⟨E,hE,hO,hb⟩;have he:=hE.det (jfT exD1 exD2);subst he;obtain ⟨A2,c2,h0,h2,-⟩:=hO;rw [exD3] at h2;exact ⟨A2,c2,h0,h2,hb⟩
theorem je8 (x:Rw) (p q:Int) (z:Rat) (w:World) (h1:RdI w w.heap.size x.A x.n x.c x.l) (h2:RdI w w.heap.size x.B x.m x.d x.k) (hO:∀W,Calls Tryz.prog 35 #[.int .i64 p,.int .i64 q] W (FrE W (some z) 0)) (hx:x.fv=fvQ z) :
 Calls Tryz.prog 59 #[.agg #[.int .i64 x.s,.slice x.A x.n x.c,.int .i64 x.t,.slice x.B x.m x.d],.int .i64 p,.int .i64 q] w fun e w'=>e=.returned (.bool true)∧Below w.heap.size w w':=by
 have:=jmA x p q z w h1 h2 hO;rw [decide_eq_true hx] at this;exact this
theorem of_85 (W:World):Calls Tryz.prog 35 #[.int .i64 8,.int .i64 5] W (FrE W (some (Rat.divInt 8 5)) 0):=by
 have h:=jd2 8 5 W Zb4 Zb4;exact jjT
theorem of_65 (W:World):Calls Tryz.prog 35 #[.int .i64 6,.int .i64 5] W (FrE W (some (Rat.divInt 6 5)) 0):=by
 have h:=jd2 6 5 W Zb4 Zb4;exact jjT
theorem of_25 (W:World):Calls Tryz.prog 35 #[.int .i64 2,.int .i64 5] W (FrE W (some (Rat.divInt 2 5)) 0):=by
 have h:=jd2 2 5 W Zb4 Zb4;exact jjT
theorem of_15 (W:World):Calls Tryz.prog 35 #[.int .i64 1,.int .i64 5] W (FrE W (some (Rat.divInt 1 5)) 0):=by
 have h:=jd2 1 5 W Zb4 Zb4;exact jjT
theorem jed (a:List Fv) (A A2:Option Addr) (n cap n2 cap2:Nat) (w:World) (ha:RdF w w.heap.size A n cap a) (hb:RdF w w.heap.size A2 n2 cap2 a):Calls Tryz.prog 25 #[.slice A n cap,.slice A2 n2 cap2] w fun e w'=>e=.returned (.bool true)∧Below w.heap.size w w':=by
 have:=jec A A2 n cap n2 cap2 a a w ha hb;rw [decide_eq_true rfl] at this;exact this
theorem St.fxNew {w W:World} {D:List Hl} {A:Option Addr} {n cap:Nat} {l:List Fv} (K:St w [] D W) (h:RdF W W.heap.size A n cap l):∃v:Nat→Rw,(∀i,i<n→l[i]?=some (v i).fv)∧St w [] (⟨fxP A n cap v,fxS A n v⟩::D) W:=by
 obtain ⟨v,h1,h2,h3⟩:=jjm h;exact ⟨v,h3,K.fxAdd ⟨h1,fun i hi=>h2 i hi⟩ fun b hS p hp=>by cases hp⟩
theorem jhc (w:World):Calls Tryz.prog 20 #[] w fun e w'=>e=.returned (.bool true)∧Below w.heap.size w w':=by
 have K:=St.start w;go_enter Tryz.func20,Tryz.ntmps20
 go_wp2_with fail;replace K:=(K.keep ((Below.refl _ _).alloc (Nat.le_refl _) _)).addI (Rd.litG jaq 3 [1,1] #[.int .i64 1,.int .i64 1] 2 _ rfl rfl rfl Zb4);refine (jb0 _ 2 _ [1,1] _ ?qa Zb4 Zb4).mono ?_
 case qa=>exact K.rd ZMB
 rintro e W' ⟨A20,c20,rfl,hf,hb⟩;have hcap20:=hf.now.caps;replace K:=(K.keep hb).addF (show RdF _ _ A20 2 c20 (fvJ [1,1]) from hf.now);clear hf hb;go_wp2_with fail;replace K:=(K.keep ((Below.refl _ _).alloc (Nat.le_refl _) _)).addI (Rd.litG jaq 3 [1,2] #[.int .i64 1,.int .i64 2] 2 _ rfl rfl rfl Zb4);refine (jcX _ 2 _ [1,2] 4 _ ?qa Zb4 Zb4 Zb4).mono ?_
 case qa=>exact K.rd ZMB
 rintro e W' ⟨x1,rfl,hn1,ho,hv1,hb⟩;replace K:=(K.keep hb).addRow ho;clear ho hb;go_wp2_with fail;replace K:=(K.keep ((Below.refl _ _).alloc (Nat.le_refl _) _)).addI (Rd.litG jaq 3 [3,1] #[.int .i64 3,.int .i64 1] 2 _ rfl rfl rfl Zb4);refine (jcX _ 2 _ [3,1] 6 _ ?qa Zb4 Zb4 Zb4).mono ?_
 case qa=>exact K.rd ZMB
 rintro e W' ⟨x2,rfl,hn2,ho,hv2,hb⟩;replace K:=(K.keep hb).addRow ho;clear ho hb;go_wp2_with fail
 have hlit:=litR [x1,x2] 56 #[.slice x1.A 2 x1.c,.int .i64 x1.y.s,.slice x1.y.A x1.y.n x1.y.c,.int .i64 x1.y.t,.slice x1.y.B x1.y.m x1.y.d,.slice x2.A 2 x2.c,.int .i64 x2.y.s,.slice x2.y.A x2.y.n x2.y.c,.int .i64 x2.y.t,.slice x2.y.B x2.y.m x2.y.d] (by
  have K1:=K.keep ((Below.refl _ _).alloc (Nat.le_refl _) (.cells #[.slice x1.A 2 x1.c,.int .i64 x1.y.s,.slice x1.y.A x1.y.n x1.y.c,.int .i64 x1.y.t,.slice x1.y.B x1.y.m x1.y.d,.slice x2.A 2 x2.c,.int .i64 x2.y.s,.slice x2.y.A x2.y.n x2.y.c,.int .i64 x2.y.t,.slice x2.y.B x2.y.m x2.y.d] 56));intro x hx;simp only [List.mem_cons,List.not_mem_nil,or_false] at hx
  rcases hx with rfl|rfl <;> exact K1.getRow ZMB) (by simp only [List.flatMap_cons,List.flatMap_nil,List.append_nil,List.cons_append,List.nil_append,Rr.cs,Rw.cs,hn1,hn2]) 2 _ rfl rfl Zb4
 have elit:[x1,x2].map Rr.rv=pA:=by simp only [List.map_cons,List.map_nil,hv1,hv2];rfl
 rw [elit] at hlit;replace K:=(K.keep ((Below.refl _ _).alloc (Nat.le_refl _) _)).addR hlit;clear hlit elit;refine (solA _ _ _ _ _ ?qa ?qb).mono ?_
 case qa=>exact K.getQ ZMB
 case qb=>exact K.getR ZMB
 rintro e W ⟨A3,c3,A4,c4,rfl,hx,hy,hb⟩;have hcap3:=hx.caps;have hcap4:=hy.caps;replace K:=K.keep hb;obtain ⟨vx,hvx,K2⟩:=K.fxNew hx;obtain ⟨vy,hvy,K3⟩:=K2.fxNew hy;obtain ⟨b3,o3,rfl⟩:=K3.fxAt (A:=A3) (n:=2) (cap:=c3) (v:=vx) ZMB Zb4;obtain ⟨b4,o4,rfl⟩:=K3.fxAt (A:=A4) (n:=2) (cap:=c4) (v:=vy) ZMB Zb4;have HX0:=jmT (show (vx 0).fv=fvQ (Rat.divInt 8 5) from (Option.some.inj (hvx 0 Zb4)).symm);have HX1:=jmT (show (vx 1).fv=fvQ (Rat.divInt 6 5) from (Option.some.inj (hvx 1 Zb4)).symm);have HY0:=jmT (show (vy 0).fv=fvQ (Rat.divInt 2 5) from (Option.some.inj (hvy 0 Zb4)).symm);have HY1:=jmT (show (vy 1).fv=fvQ (Rat.divInt 1 5) from (Option.some.inj (hvy 1 Zb4)).symm);replace K:=K3;clear K2 K3 hx hy hb hvx hvy;have q0:=trivial;have q1:=trivial;have q2:=trivial;have q3:=trivial;clear q0 q1 q2 q3;have q0:=K.fxCell (b:=b3) (off:=o3) (n:=2) (cap:=c3) (v:=vx) ZMB (i:=0) Zb4
 have q1:=K.fxCell (b:=b3) (off:=o3) (n:=2) (cap:=c3) (v:=vx) ZMB (i:=1) Zb4;have q2:=K.fxCell (b:=b4) (off:=o4) (n:=2) (cap:=c4) (v:=vy) ZMB (i:=0) Zb4;have q3:=K.fxCell (b:=b4) (off:=o4) (n:=2) (cap:=c4) (v:=vy) ZMB (i:=1) Zb4;simp only [Nat.zero_mul,Nat.one_mul,Nat.add_zero] at q0 q1 q2 q3;go_wp2_with fail;refine (je8 (vx 0) 8 5 _ _ ((K.fxRd (n:=2) (v:=vx) (i:=0) ZMB Zb4).rd ZMB) ((K.fxRd (n:=2) (v:=vx) (i:=0) ZMB Zb4).rd ZMB) of_85 HX0.out).mono ?_;rintro e W ⟨rfl,hb⟩;replace K:=K.keep hb;clear hb;clear q0 q1 q2 q3;have q0:=K.fxCell (b:=b3) (off:=o3) (n:=2) (cap:=c3) (v:=vx) ZMB (i:=0) Zb4;have q1:=K.fxCell (b:=b3) (off:=o3) (n:=2) (cap:=c3) (v:=vx) ZMB (i:=1) Zb4;have q2:=K.fxCell (b:=b4) (off:=o4) (n:=2) (cap:=c4) (v:=vy) ZMB (i:=0) Zb4;have q3:=K.fxCell (b:=b4) (off:=o4) (n:=2) (cap:=c4) (v:=vy) ZMB (i:=1) Zb4;simp only [Nat.zero_mul,Nat.one_mul,Nat.add_zero] at q0 q1 q2 q3
 go_wp2_with fail;refine (je8 (vx 1) 6 5 _ _ ((K.fxRd (n:=2) (v:=vx) (i:=1) ZMB Zb4).rd ZMB) ((K.fxRd (n:=2) (v:=vx) (i:=1) ZMB Zb4).rd ZMB) of_65 HX1.out).mono ?_;rintro e W ⟨rfl,hb⟩;replace K:=K.keep hb;clear hb;clear q0 q1 q2 q3;have q0:=K.fxCell (b:=b3) (off:=o3) (n:=2) (cap:=c3) (v:=vx) ZMB (i:=0) Zb4;have q1:=K.fxCell (b:=b3) (off:=o3) (n:=2) (cap:=c3) (v:=vx) ZMB (i:=1) Zb4;have q2:=K.fxCell (b:=b4) (off:=o4) (n:=2) (cap:=c4) (v:=vy) ZMB (i:=0) Zb4;have q3:=K.fxCell (b:=b4) (off:=o4) (n:=2) (cap:=c4) (v:=vy) ZMB (i:=1) Zb4;simp only [Nat.zero_mul,Nat.one_mul,Nat.add_zero] at q0 q1 q2 q3;go_wp2_with fail;refine (je8 (vy 0) 2 5 _ _ ((K.fxRd (n:=2) (v:=vy) (i:=0) ZMB Zb4).rd ZMB) ((K.fxRd (n:=2) (v:=vy) (i:=0) ZMB Zb4).rd ZMB) of_25 HY0.out).mono ?_;rintro e W ⟨rfl,hb⟩;replace K:=K.keep hb;clear hb;clear q0 q1 q2 q3
 have q0:=K.fxCell (b:=b3) (off:=o3) (n:=2) (cap:=c3) (v:=vx) ZMB (i:=0) Zb4;have q1:=K.fxCell (b:=b3) (off:=o3) (n:=2) (cap:=c3) (v:=vx) ZMB (i:=1) Zb4;have q2:=K.fxCell (b:=b4) (off:=o4) (n:=2) (cap:=c4) (v:=vy) ZMB (i:=0) Zb4;have q3:=K.fxCell (b:=b4) (off:=o4) (n:=2) (cap:=c4) (v:=vy) ZMB (i:=1) Zb4;simp only [Nat.zero_mul,Nat.one_mul,Nat.add_zero] at q0 q1 q2 q3;go_wp2_with fail;refine (je8 (vy 1) 1 5 _ _ ((K.fxRd (n:=2) (v:=vy) (i:=1) ZMB Zb4).rd ZMB) ((K.fxRd (n:=2) (v:=vy) (i:=1) ZMB Zb4).rd ZMB) of_15 HY1.out).mono ?_;rintro e W ⟨rfl,hb⟩;replace K:=K.keep hb;clear hb;clear q0 q1 q2 q3;have q0:=K.fxCell (b:=b3) (off:=o3) (n:=2) (cap:=c3) (v:=vx) ZMB (i:=0) Zb4;have q1:=K.fxCell (b:=b3) (off:=o3) (n:=2) (cap:=c3) (v:=vx) ZMB (i:=1) Zb4;have q2:=K.fxCell (b:=b4) (off:=o4) (n:=2) (cap:=c4) (v:=vy) ZMB (i:=0) Zb4
 have q3:=K.fxCell (b:=b4) (off:=o4) (n:=2) (cap:=c4) (v:=vy) ZMB (i:=1) Zb4;simp only [Nat.zero_mul,Nat.one_mul,Nat.add_zero] at q0 q1 q2 q3;clear q0 q1 q2 q3;go_wp2_with fail;replace K:=(K.keep ((Below.refl _ _).alloc (Nat.le_refl _) _)).addI (Rd.litG jaq 3 [1] #[.int .i64 1] 1 _ rfl rfl rfl Zb4);refine (jb0 _ 1 _ [1] _ ?qa Zb4 Zb4).mono ?_
 case qa=>exact K.rd ZMB
 rintro e W' ⟨A30,c30,rfl,hf,hb⟩;have hcap30:=hf.now.caps;replace K:=(K.keep hb).addF (show RdF _ _ A30 1 c30 (fvJ [1]) from hf.now);clear hf hb;go_wp2_with fail;replace K:=(K.keep ((Below.refl _ _).alloc (Nat.le_refl _) _)).addI (Rd.litG jaq 3 [-1] #[.int .i64 (-1)] 1 _ rfl rfl rfl Zb4);refine (jcX _ 1 _ [-1] (-3) _ ?qa Zb4 Zb4 Zb4).mono ?_
 case qa=>exact K.rd ZMB
 rintro e W' ⟨x3,rfl,hn3,ho,hv3,hb⟩;replace K:=(K.keep hb).addRow ho;clear ho hb;go_wp2_with fail;replace K:=(K.keep ((Below.refl _ _).alloc (Nat.le_refl _) _)).addI (Rd.litG jaq 3 [1] #[.int .i64 1] 1 _ rfl rfl rfl Zb4);refine (jcX _ 1 _ [1] 2 _ ?qa Zb4 Zb4 Zb4).mono ?_
 case qa=>exact K.rd ZMB
 rintro e W' ⟨x4,rfl,hn4,ho,hv4,hb⟩;replace K:=(K.keep hb).addRow ho;clear ho hb;go_wp2_with fail
 have hlit:=litR [x3,x4] 56 #[.slice x3.A 1 x3.c,.int .i64 x3.y.s,.slice x3.y.A x3.y.n x3.y.c,.int .i64 x3.y.t,.slice x3.y.B x3.y.m x3.y.d,.slice x4.A 1 x4.c,.int .i64 x4.y.s,.slice x4.y.A x4.y.n x4.y.c,.int .i64 x4.y.t,.slice x4.y.B x4.y.m x4.y.d] (by
  have K1:=K.keep ((Below.refl _ _).alloc (Nat.le_refl _) (.cells #[.slice x3.A 1 x3.c,.int .i64 x3.y.s,.slice x3.y.A x3.y.n x3.y.c,.int .i64 x3.y.t,.slice x3.y.B x3.y.m x3.y.d,.slice x4.A 1 x4.c,.int .i64 x4.y.s,.slice x4.y.A x4.y.n x4.y.c,.int .i64 x4.y.t,.slice x4.y.B x4.y.m x4.y.d] 56));intro x hx;simp only [List.mem_cons,List.not_mem_nil,or_false] at hx
  rcases hx with rfl|rfl <;> exact K1.getRow ZMB) (by simp only [List.flatMap_cons,List.flatMap_nil,List.append_nil,List.cons_append,List.nil_append,Rr.cs,Rw.cs,hn3,hn4]) 2 _ rfl rfl Zb4
 have elit:[x3,x4].map Rr.rv=pB:=by simp only [List.map_cons,List.map_nil,hv3,hv4];rfl
 rw [elit] at hlit;replace K:=(K.keep ((Below.refl _ _).alloc (Nat.le_refl _) _)).addR hlit;clear hlit elit;refine (solB _ _ _ _ _ ?qa ?qb).mono ?_
 case qa=>exact K.getQ ZMB
 case qb=>exact K.getR ZMB
 rintro e W ⟨A31,c31,rfl,hy,hb⟩;have hcap31:=hy.caps;replace K:=(K.keep hb).addF hy;clear hy hb;go_wp2_with fail;replace K:=(K.keep ((Below.refl _ _).alloc (Nat.le_refl _) _)).addI (Rd.litG jaq 3 [1,1] #[.int .i64 1,.int .i64 1] 2 _ rfl rfl rfl Zb4);refine (jb0 _ 2 _ [1,1] _ ?qa Zb4 Zb4).mono ?_
 case qa=>exact K.rd ZMB
 rintro e W' ⟨A40,c40,rfl,hf,hb⟩;have hcap40:=hf.now.caps;replace K:=(K.keep hb).addF (show RdF _ _ A40 2 c40 (fvJ [1,1]) from hf.now);clear hf hb;go_wp2_with fail;replace K:=(K.keep ((Below.refl _ _).alloc (Nat.le_refl _) _)).addI (Rd.litG jaq 3 [1,-1] #[.int .i64 1,.int .i64 (-1)] 2 _ rfl rfl rfl Zb4);refine (jcX _ 2 _ [1,-1] 1 _ ?qa Zb4 Zb4 Zb4).mono ?_
 case qa=>exact K.rd ZMB
 rintro e W' ⟨x5,rfl,hn5,ho,hv5,hb⟩;replace K:=(K.keep hb).addRow ho;clear ho hb;go_wp2_with fail
 have hlit:=litR [x5] 56 #[.slice x5.A 2 x5.c,.int .i64 x5.y.s,.slice x5.y.A x5.y.n x5.y.c,.int .i64 x5.y.t,.slice x5.y.B x5.y.m x5.y.d] (by
  have K1:=K.keep ((Below.refl _ _).alloc (Nat.le_refl _) (.cells #[.slice x5.A 2 x5.c,.int .i64 x5.y.s,.slice x5.y.A x5.y.n x5.y.c,.int .i64 x5.y.t,.slice x5.y.B x5.y.m x5.y.d] 56));intro x hx;rw [List.mem_singleton.1 hx]
  exact K1.getRow ZMB) (by simp only [List.flatMap_cons,List.flatMap_nil,List.append_nil,Rr.cs,Rw.cs,hn5]) 1 _ rfl rfl Zb4
 have elit:[x5].map Rr.rv=pC:=by simp only [List.map_cons,List.map_nil,hv5];rfl
 rw [elit] at hlit;replace K:=(K.keep ((Below.refl _ _).alloc (Nat.le_refl _) _)).addR hlit;clear hlit elit;refine (solC _ _ _ _ _ ?qa ?qb).mono ?_
 case qa=>exact K.getQ ZMB
 case qb=>exact K.getR ZMB
 rintro e W ⟨A41,c41,rfl,hy,hb⟩;have hcap41:=hy.caps;replace K:=(K.keep hb).addF hy;clear hy hb;go_wp2_with fail;refine (jcX none 0 0 [] (-1) _ Rd.nil Zb4 Zb4 Zb4).mono ?_;rintro e W' ⟨x6,rfl,hn6,ho,hv6,hb⟩;replace K:=(K.keep hb).addRow ho;clear ho hb;go_wp2_with fail
 have hlit:=litR [x6] 56 #[.slice x6.A 0 x6.c,.int .i64 x6.y.s,.slice x6.y.A x6.y.n x6.y.c,.int .i64 x6.y.t,.slice x6.y.B x6.y.m x6.y.d] (by
  have K1:=K.keep ((Below.refl _ _).alloc (Nat.le_refl _) (.cells #[.slice x6.A 0 x6.c,.int .i64 x6.y.s,.slice x6.y.A x6.y.n x6.y.c,.int .i64 x6.y.t,.slice x6.y.B x6.y.m x6.y.d] 56));intro x hx;rw [List.mem_singleton.1 hx]
  exact K1.getRow ZMB) (by simp only [List.flatMap_cons,List.flatMap_nil,List.append_nil,Rr.cs,Rw.cs,hn6]) 1 _ rfl rfl Zb4
 have elit:[x6].map Rr.rv=pD:=by simp only [List.map_cons,List.map_nil,hv6];rfl
 rw [elit] at hlit;replace K:=(K.keep ((Below.refl _ _).alloc (Nat.le_refl _) _)).addR hlit;clear hlit elit;refine (solD _ _ _ ?qb).mono ?_
 case qb=>exact K.getR ZMB
 rintro e W ⟨A51,c51,rfl,hy,hb⟩;have hcap51:=hy.caps;replace K:=(K.keep hb).addF hy;clear hy hb;go_wp2_with fail;replace K:=(K.keep ((Below.refl _ _).alloc (Nat.le_refl _) _)).addI (Rd.litG jaq 3 [1,1] #[.int .i64 1,.int .i64 1] 2 _ rfl rfl rfl Zb4);refine (jb0 _ 2 _ [1,1] _ ?qa Zb4 Zb4).mono ?_
 case qa=>exact K.rd ZMB
 rintro e W' ⟨A60,c60,rfl,hf,hb⟩;have hcap60:=hf.now.caps;replace K:=(K.keep hb).addF (show RdF _ _ A60 2 c60 (fvJ [1,1]) from hf.now);clear hf hb;go_wp2_with fail;refine (jed [fvQ ((1:Int):Rat),fvQ ((1:Int):Rat)] _ _ _ _ _ _ _ ?qa ?qb).mono ?_
 case qa=>exact K.getQ ZMB
 case qb=>exact (K.getQ (l:=fvJ [1,1]) ZMB)
 rintro e W ⟨rfl,hb⟩;replace K:=K.keep hb;clear hb;go_wp2_with fail;replace K:=(K.keep ((Below.refl _ _).alloc (Nat.le_refl _) _)).addI (Rd.litG jaq 3 [1,1] #[.int .i64 1,.int .i64 1] 2 _ rfl rfl rfl Zb4);refine (jb0 _ 2 _ [1,1] _ ?qa Zb4 Zb4).mono ?_
 case qa=>exact K.rd ZMB
 rintro e W' ⟨A61,c61,rfl,hf,hb⟩;have hcap61:=hf.now.caps;replace K:=(K.keep hb).addF (show RdF _ _ A61 2 c61 (fvJ [1,1]) from hf.now);clear hf hb;go_wp2_with fail;refine (jed [fvQ ((1:Int):Rat),fvQ ((1:Int):Rat)] _ _ _ _ _ _ _ ?qa ?qb).mono ?_
 case qa=>exact K.getQ ZMB
 case qb=>exact (K.getQ (l:=fvJ [1,1]) ZMB)
 rintro e W ⟨rfl,hb⟩;replace K:=K.keep hb;clear hb;go_wp2_with fail;replace K:=(K.keep ((Below.refl _ _).alloc (Nat.le_refl _) _)).addI (Rd.litG jaq 3 [1] #[.int .i64 1] 1 _ rfl rfl rfl Zb4);refine (jb0 _ 1 _ [1] _ ?qa Zb4 Zb4).mono ?_
 case qa=>exact K.rd ZMB
 rintro e W' ⟨A62,c62,rfl,hf,hb⟩;have hcap62:=hf.now.caps;replace K:=(K.keep hb).addF (show RdF _ _ A62 1 c62 (fvJ [1]) from hf.now);clear hf hb;go_wp2_with fail;refine (jed [fvQ ((1:Int):Rat)] _ _ _ _ _ _ _ ?qa ?qb).mono ?_
 case qa=>exact K.getQ ZMB
 case qb=>exact (K.getQ (l:=fvJ [1]) ZMB)
 rintro e W ⟨rfl,hb⟩;replace K:=K.keep hb;clear hb;go_wp2_with fail;go_ret;exact ⟨rfl,K.1⟩
end Go.Proofs.YtdlcglndhhndpaaGreat
