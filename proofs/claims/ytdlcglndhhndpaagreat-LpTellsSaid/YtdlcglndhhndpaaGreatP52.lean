/- Laws and walks; conditions stand in each theorem. -/
import Derived.Test.YtdlcglndhhndpaaGreatP50
import Derived.Test.YtdlcglndhhndpaaGreatP43
import Derived.Test.YtdlcglndhhndpaaGreatP51
import Derived.Test.YtdlcglndhhndpaaGreatP46
set_option linter.unusedSimpArgs false
set_option linter.unusedVariables false
set_option maxHeartbeats 8000000
set_option maxRecDepth 100000
namespace Go.Proofs.YtdlcglndhhndpaaGreat
open Go.RowKit
def lpX (n:Nat):jfY→List Fv
 | .full=>[]
 | .none _=>[]
 | .ray x=>ofF n fun i=>fvQ (x i)
 | .best x _=>ofF n fun i=>fvQ (x i)
def lpY (m:Nat):jfY→List Fv
 | .full=>[]
 | .none y=>ofF m fun i=>fvQ (y i)
 | .ray _=>[]
 | .best _ y=>ofF m fun i=>fvQ (y i)
def lpC9:jfY→Int
 | .full=>6
 | .none _=>4
 | .ray _=>3
 | .best _ _=>0
section
variable {m n:Nat} {l:List Fv} {ls:List Rv} {xs ys xs' ys':List Fv} {c c':Int} {w w':World} {e:Ending}
def TelS (m n:Nat) (l:List Fv) (ls:List Rv) (xs ys:List Fv) (c:Int):Prop :=
 ((l.all Fv.ok&&ls.all (rowF n))=false∧xs=[]∧ys=[]∧c=1)∨((l.all Fv.ok&&ls.all (rowF n))=true∧∃E,jbw m n (rwA2 ls) (rwB2 ls false) (fvR l) E∧xs=lpX n E∧ys=lpY m E∧c=lpC9 E)
theorem TelS.det (h:TelS m n l ls xs ys c) (h':TelS m n l ls xs' ys' c'):xs'=xs∧ys'=ys∧c'=c:=by
 rcases h with ⟨h1,rfl,rfl,rfl⟩|⟨h1,E,h2,rfl,rfl,rfl⟩ <;> rcases h' with ⟨h3,rfl,rfl,rfl⟩|⟨h3,E',h4,rfl,rfl,rfl⟩
 ·exact ⟨rfl,rfl,rfl⟩
 ·rw [h1] at h3;cases h3
 ·rw [h1] at h3;cases h3
 ·rw [h2.det h4];exact ⟨rfl,rfl,rfl⟩
def TelP (w:World) (m n:Nat) (l:List Fv) (ls:List Rv) (e:Ending) (w':World):Prop :=
 ∃xs ys c A1 n1 c1 A2 n2 c2,TelS m n l ls xs ys c∧e=.returned (.tuple #[.slice A1 n1 c1,.slice A2 n2 c2,.int .i64 c])∧RdF w' w'.heap.size A1 n1 c1 xs∧RdF w' w'.heap.size A2 n2 c2 ys∧Below w.heap.size w w'
theorem TelP.no (h:(l.all Fv.ok&&ls.all (rowF n))=false) (he:e=.returned (.tuple #[.slice none 0 0,.slice none 0 0,.int .i64 1])∧Below w.heap.size w w'):TelP w m n l ls e w' :=
 ⟨_,_,_,_,_,_,_,_,_,Or.inl ⟨h,rfl,rfl,rfl⟩,he.1,Rd.nil,Rd.nil,he.2⟩
theorem TelP.yes (h:(l.all Fv.ok&&ls.all (rowF n))=true) (hs:SolP w m n l ls e w'):TelP w m n l ls e w':=by
 obtain ⟨E,h1,h2,h3⟩:=hs;have h4:TelS m n l ls (lpX n E) (lpY m E) (lpC9 E):=Or.inr ⟨h,E,h1,rfl,rfl,rfl⟩;cases E with
 | full=>exact ⟨_,_,_,_,_,_,_,_,_,h4,h2,Rd.nil,Rd.nil,h3⟩
 | none y =>
  obtain ⟨A,k,he,hr,-⟩:=h2;exact ⟨_,_,_,_,_,_,_,_,_,h4,he,Rd.nil,hr,h3⟩
 | ray x =>
  obtain ⟨A,k,he,hr,-⟩:=h2;exact ⟨_,_,_,_,_,_,_,_,_,h4,he,hr,Rd.nil,h3⟩
 | best x y =>
  obtain ⟨A,k,A2,k2,he,hr,hr2,-⟩:=h2;exact ⟨_,_,_,_,_,_,_,_,_,h4,he,hr,hr2,h3⟩
def ckT (m n:Nat) (l:List Fv) (ls:List Rv) (x y:List Fv) (er:Int):Bool:=(l.all Fv.ok&&ls.all (rowF n))&&chkF n m l ls x y er
end
theorem jhT {l:List Fv} {ls:List Rv} (h:fewP l ls=true):l.length≤4∧ls.length≤4:=by
 unfold fewP jdG at h;rw [Bool.and_eq_true,Bool.and_eq_true,Bool.and_eq_true,decide_eq_true_eq,decide_eq_true_eq] at h;exact ⟨by omega,h.1⟩
section
variable (A A':Option Addr) (n cap m cap':Nat) (l:List Fv) (ls:List Rv) (w:World) (hl:RdF w w.heap.size A n cap l) (hr:RdR w w.heap.size A' m cap' ls) (hn:n≤20) (hm:m≤40)
include hl hr hn hm
theorem jhs:Calls Tryz.prog 23 #[.agg #[.slice A n cap,.slice A' m cap']] w (TelP w m n l ls):=by
 cases h:(l.all Fv.ok&&ls.all (rowF n))
 ·exact (jkZ A A' n cap m cap' l ls w hl hr hn hm h).mono fun e w' he=>TelP.no h he
 ·exact (jcE A A' n cap m cap' l ls w hl hr hn hm h).mono fun e w' he=>TelP.yes h he
theorem jgp:Calls Tryz.prog 24 #[.agg #[.slice A n cap,.slice A' m cap']] w (TelP w m n l ls):=by
 cases h:(l.all Fv.ok&&ls.all (rowF n))
 ·exact (jjF A A' n cap m cap' l ls w hl hr hn hm h).mono fun e w' he=>TelP.no h he
 ·exact (jhr A A' n cap m cap' l ls w hl hr hn hm h).mono fun e w' he=>TelP.yes h he
theorem jet (X Y:Option Addr) (nx cx ny cy:Nat) (x y:List Fv) (er:Int) (hx:RdF w w.heap.size X nx cx x) (hy:RdF w w.heap.size Y ny cy y) :
 Calls Tryz.prog 28 #[.agg #[.slice A n cap,.slice A' m cap'],.slice X nx cx,.slice Y ny cy,.int .i64 er] w fun e w'=>e=.returned (.bool (ckT m n l ls x y er))∧Below w.heap.size w w':=by
 unfold ckT;cases h:(l.all Fv.ok&&ls.all (rowF n))
 ·exact jke A A' X Y n cap m cap' nx cx ny cy l ls er w hl hr hn hm h
 ·exact jhH A A' X Y n cap m cap' nx cx ny cy l ls x y er w hl hr hx hy hn hm h
theorem jdU (X Y:Option Addr) (nx cx ny cy:Nat) (x y:List Fv) (er:Int) (hx:RdF w w.heap.size X nx cx x) (hy:RdF w w.heap.size Y ny cy y) :
 Calls Tryz.prog 29 #[.agg #[.slice A n cap,.slice A' m cap'],.slice X nx cx,.slice Y ny cy,.int .i64 er] w fun e w'=>e=.returned (.bool (ckT m n l ls x y er))∧Below w.heap.size w w':=by
 unfold ckT;cases h:(l.all Fv.ok&&ls.all (rowF n))
 ·exact jhG A A' X Y n cap m cap' nx cx ny cy l ls er w hl hr hn hm h
 ·exact jhg A A' X Y n cap m cap' nx cx ny cy l ls x y er w hl hr hx hy hn hm h
end
theorem jht (A A' U Z:Option Addr) (n cap m cap' nu cu nz cz:Nat) (l:List Fv) (ls:List Rv) (u z:List Fv) (er:Int) (w:World) (hl:RdF w w.heap.size A n cap l) (hr:RdR w w.heap.size A' m cap' ls) (hu:RdF w w.heap.size U nu cu u) (hz:RdF w w.heap.size Z nz cz z) :
 Calls Tryz.prog 4 #[.agg #[.slice A n cap,.slice A' m cap'],.slice U nu cu,.slice Z nz cz,.int .i64 er] w fun e w'=>e=.returned (.bool true)∧Below w.heap.size w w':=by
 have hcap:=hl.caps;have hcap':=hr.caps;have hcu:=hu.caps;have hcz:=hz.caps;have hlen:=hl.len;have hlenr:=hr.len;have K:=St.start w;have HFew:=jmT (fun W (h:Below w.heap.size w W)=>jkA A A' n cap m cap' l ls W (hl.up jan h) (hr.up ja7 h));have HSm:=jmT jhc;have HSo1:=jmT (fun W (h:Below w.heap.size w W)=>jcZ 4 U nu cu u W (hu.up jan h));have HSo2:=jmT (fun W (h:Below w.heap.size w W)=>jcZ 4 Z nz cz z W (hz.up jan h));have HGo:=jmT (fun W (h:Below w.heap.size w W)=>hl.up jan h);have HRo:=jmT (fun W (h:Below w.heap.size w W)=>hr.up ja7 h);have HUo:=jmT (fun W (h:Below w.heap.size w W)=>hu.up jan h);have HZo:=jmT (fun W (h:Below w.heap.size w W)=>hz.up jan h);clear hl hr hu hz;cases hf:fewP l ls
 case false =>
  rw [hf] at HFew;clear hf hlen hlenr;exact ZQ16
 rw [hf] at HFew;cases hfu:jdG 4 1 u
 case false =>
  rw [hfu] at HSo1;clear hf hfu hlen hlenr HSo2;exact ZQ16
 rw [hfu] at HSo1;cases hfz:jdG 4 1 z
 case false =>
  rw [hfz] at HSo2;clear hf hfu hfz hlen hlenr;exact ZQ16
 rw [hfz] at HSo2;obtain ⟨hn4,hm4⟩:=jhT hf;rw [hlen] at hn4;rw [hlenr] at hm4;have HSl:=jmT (fun W (h:Below w.heap.size w W)=>jhs A A' n cap m cap' l ls W (HGo.out W h) (HRo.out W h) ZO ZO);have HSl9:=jmT (fun W (h:Below w.heap.size w W)=>jgp A A' n cap m cap' l ls W (HGo.out W h) (HRo.out W h) ZO ZO);clear hf hfu hfz hlen hlenr;go_enter Tryz.func4,Tryz.ntmps4
 go_wp2_with (first
  | (apply K.box;rfl;rfl;rfl;clear K;intro W b0 K;have c0:=(K.blk (b:=b0) (cs:=#[.slice A n cap,.slice A' m cap']) (t:=38) ZMB).cell (j:=0) rfl;have c1:=(K.blk (b:=b0) (cs:=#[.slice A n cap,.slice A' m cap']) (t:=38) ZMB).cell (j:=1) rfl)
  | (go_at_call 20;refine (HSm.out _).mono ?_;rintro e W ⟨rfl,hb1⟩;replace K:=K.keep hb1;clear c0 c1 hb1;have c0:=(K.blk (b:=b0) (cs:=#[.slice A n cap,.slice A' m cap']) (t:=38) ZMB).cell (j:=0) rfl;have c1:=(K.blk (b:=b0) (cs:=#[.slice A n cap,.slice A' m cap']) (t:=38) ZMB).cell (j:=1) rfl)
  | (go_at_call 21;refine (HFew.out _ K.1).mono ?_;rintro e W ⟨rfl,hb1⟩;replace K:=K.keep hb1;clear c0 c1 hb1;have c0:=(K.blk (b:=b0) (cs:=#[.slice A n cap,.slice A' m cap']) (t:=38) ZMB).cell (j:=0) rfl;have c1:=(K.blk (b:=b0) (cs:=#[.slice A n cap,.slice A' m cap']) (t:=38) ZMB).cell (j:=1) rfl)
  | (go_at_call 22;(first | ((with_reducible show Calls _ _ #[.slice U _ _,_] _ _);refine (HSo1.out _ K.1).mono ?_) | refine (HSo2.out _ K.1).mono ?_);rintro e W ⟨rfl,hb1⟩;replace K:=K.keep hb1;clear c0 c1 hb1;have c0:=(K.blk (b:=b0) (cs:=#[.slice A n cap,.slice A' m cap']) (t:=38) ZMB).cell (j:=0) rfl;have c1:=(K.blk (b:=b0) (cs:=#[.slice A n cap,.slice A' m cap']) (t:=38) ZMB).cell (j:=1) rfl))
 refine (HSl.out _ K.1).mono ?_;rintro e W ⟨xs,ys,c,X1,k1,g1,X2,k2,g2,hT,rfl,hx,hy,hb1⟩;replace K:=K.keep hb1;clear c0 c1 hb1;have c0:=(K.blk (b:=b0) (cs:=#[.slice A n cap,.slice A' m cap']) (t:=38) ZMB).cell (j:=0) rfl;have c1:=(K.blk (b:=b0) (cs:=#[.slice A n cap,.slice A' m cap']) (t:=38) ZMB).cell (j:=1) rfl;have HT:=jmT hT;have HX1:=jmT hx;have HY1:=jmT hy;have hs1:=hx.caps;have hs2:=hy.caps;clear hT hx hy HFew HSm HSo1 HSo2 HSl;go_wp2_with fail;refine (HSl9.out _ K.1).mono ?_;rintro e W7 ⟨xs',ys',c',X3,k3,g3,X4,k4,g4,hT,rfl,hx,hy,hb1⟩;obtain ⟨rfl,rfl,rfl⟩:=HT.out.det hT;have hs3:=hx.caps;have hs4:=hy.caps;have HX3:=jmT hx;have HY3:=jmT hy;replace HX1:=jmT (HX1.out.up jan hb1);replace HY1:=jmT (HY1.out.up jan hb1)
 replace K:=K.keep hb1;clear c0 c1 hb1;have c0:=(K.blk (b:=b0) (cs:=#[.slice A n cap,.slice A' m cap']) (t:=38) ZMB).cell (j:=0) rfl;have c1:=(K.blk (b:=b0) (cs:=#[.slice A n cap,.slice A' m cap']) (t:=38) ZMB).cell (j:=1) rfl;have HB7:=jmT K.1
 have HC0:=jmT (show ∀V,Below W7.heap.size W7 V→V.cell? ⟨b0,0,none⟩=some (.slice A n cap)∧V.cell? ⟨b0,1,none⟩=some (.slice A' m cap') from fun V h=>by
  have hB:=(K.blk (b:=b0) (cs:=#[.slice A n cap,.slice A' m cap']) (t:=38) ZMB)
  exact ⟨(h.cell (p:=⟨b0,0,none⟩) hB.lt).trans (hB.cell (j:=0) rfl),(h.cell (p:=⟨b0,1,none⟩) hB.lt).trans (hB.cell (j:=1) rfl)⟩)
 have HUp:=jmT (show ∀V,Below W7.heap.size W7 V→Below w.heap.size w V from fun V h=>HB7.out.trans (h.mono HB7.out.size));have HS1:=jmT (fun V (h:Below W7.heap.size W7 V)=>jec X1 X3 k1 g1 k3 g3 xs' xs' V (HX1.out.up jan h) (HX3.out.up jan h));have HS2:=jmT (fun V (h:Below W7.heap.size W7 V)=>jec X2 X4 k2 g2 k4 g4 ys' ys' V (HY1.out.up jan h) (HY3.out.up jan h));have HR1:=jmT (fun V (h:Below W7.heap.size W7 V)=>jcg A A' n cap m cap' l ls V (HGo.out V (HUp.out V h)) (HRo.out V (HUp.out V h)) ZO ZO);have HR2:=jmT (fun V (h:Below W7.heap.size W7 V)=>jch A A' n cap m cap' l ls V (HGo.out V (HUp.out V h)) (HRo.out V (HUp.out V h)) ZO ZO);have HK1:=jmT (fun V (h:Below W7.heap.size W7 V)=>jet A A' n cap m cap' l ls V (HGo.out V (HUp.out V h)) (HRo.out V (HUp.out V h)) ZO ZO U Z nu cu nz cz u z er (HUo.out V (HUp.out V h)) (HZo.out V (HUp.out V h)))
 have HK2:=jmT (fun V (h:Below W7.heap.size W7 V)=>jdU A A' n cap m cap' l ls V (HGo.out V (HUp.out V h)) (HRo.out V (HUp.out V h)) ZO ZO U Z nu cu nz cz u z er (HUo.out V (HUp.out V h)) (HZo.out V (HUp.out V h)));have HK3:=jmT (fun V (h:Below W7.heap.size W7 V) (c:Int)=>jet A A' n cap m cap' l ls V (HGo.out V (HUp.out V h)) (HRo.out V (HUp.out V h)) ZO ZO X3 X4 k3 g3 k4 g4 xs' ys' c (HX3.out.up jan h) (HY3.out.up jan h));have HK4:=jmT (fun V (h:Below W7.heap.size W7 V) (c:Int)=>jdU A A' n cap m cap' l ls V (HGo.out V (HUp.out V h)) (HRo.out V (HUp.out V h)) ZO ZO X3 X4 k3 g3 k4 g4 xs' ys' c (HX3.out.up jan h) (HY3.out.up jan h));rw [decide_eq_true rfl] at HS1 HS2;obtain ⟨rb,hrb⟩:∃rb,rb=(l.all Fv.ok&&ls.all (rowF n)):=⟨_,rfl⟩;rw [←hrb] at HR1 HR2;obtain ⟨q1,hq1⟩:∃q1,q1=ckT m n l ls u z er:=⟨_,rfl⟩;rw [←hq1] at HK1 HK2;obtain ⟨ck,hck⟩:∃ck:Int→Bool,ck=fun c=>ckT m n l ls xs' ys' c:=⟨_,rfl⟩
 replace HK3:Hid (∀V,Below W7.heap.size W7 V→∀c:Int,Calls Tryz.prog 28 #[.agg #[.slice A n cap,.slice A' m cap'],.slice X3 k3 g3,.slice X4 k4 g4,.int .i64 c] V fun e w'=>e=.returned (.bool (ck c))∧Below V.heap.size V w'):=by rw [hck];exact HK3
 replace HK4:Hid (∀V,Below W7.heap.size W7 V→∀c:Int,Calls Tryz.prog 29 #[.agg #[.slice A n cap,.slice A' m cap'],.slice X3 k3 g3,.slice X4 k4 g4,.int .i64 c] V fun e w'=>e=.returned (.bool (ck c))∧Below V.heap.size V w'):=by rw [hck];exact HK4
 have K9:=St.start W7;clear K hrb hq1 hck HX1 HX3 HY1 HY3 HGo HRo HUo HZo HT hT hx hy HSl9;have K:=K9;clear K9;have hcc:(c' !=c')=false:=by simp
 go_upto_region 6 with fail;have K0:=K.drew;have s0:=HC0.out _ K0.1;clear K c0 c1;refine jah 100 (fun V=>V.cell? ⟨b0,0,none⟩=some (.slice A n cap)∧V.cell? ⟨b0,1,none⟩=some (.slice A' m cap')) Zb9 s0 (fun hSh=>?_);clear s0;generalize World.drew _=V0 at K0 hSh ⊢;refine jaa.tkB 0 rfl ?_;refine jaa.tkB 1 rfl ?_;refine jaa.tkB 2 rfl ?_;refine jaa.tkB 3 rfl ?_;refine jaa.tkB 4 rfl ?_;refine jaa.tkB 5 rfl ?_;refine jaa.onW 6 rfl fun KK hKK=>?_
 go_simp;go_at_call 25;refine (HS1.out _ K0.1).mono ?_;rintro e V0 ⟨rfl,hb⟩;replace K0:=K0.keep hb;clear hb;go_wp2_with fail;refine hKK.out _ _ (HC0.out _ K0.1) (fun hSh=>?_);clear hKK KK;refine ZPT ?_;refine jaa.tkB 7 rfl ?_;refine jaa.tkB 8 rfl ?_;refine jaa.tkB 9 rfl ?_;refine jaa.tkB 10 rfl ?_;refine jaa.tkB 11 rfl ?_;refine jaa.onW 12 rfl fun KK hKK=>?_
 go_simp;go_at_call 25;refine (HS2.out _ K0.1).mono ?_;rintro e V0 ⟨rfl,hb⟩;replace K0:=K0.keep hb;clear hb;go_wp2_with fail;refine hKK.out _ _ (HC0.out _ K0.1) (fun hSh=>?_);clear hKK KK;refine ZPT ?_;refine jaa.tkB 13 rfl ?_;refine jaa.tkB 14 rfl ?_;refine jaa.tkB 15 rfl ?_;refine jaa.tkB 16 rfl ?_;refine jaa.tkB 18 rfl ?_;refine jaa.onW 17 rfl fun KK hKK=>?_
 go_simp;go_at_call 26;refine (HR1.out _ K0.1).mono ?_;rintro e V0 ⟨rfl,hb⟩;replace K0:=K0.keep hb;clear hb;go_wp2_with fail;refine hKK.out _ _ (HC0.out _ K0.1) (fun hSh=>?_);clear hKK KK;refine ZPT ?_;refine jaa.onW 19 rfl fun KK hKK=>?_
 go_simp;go_at_call 27;refine (HR2.out _ K0.1).mono ?_;rintro e V0 ⟨rfl,hb⟩;replace K0:=K0.keep hb;clear hb;go_wp2_with fail;refine hKK.out _ _ (HC0.out _ K0.1) (fun hSh=>?_);clear hKK KK;refine ZPT ?_;refine jaa.tkB 20 rfl ?_;refine jaa.tkB 21 rfl ?_;refine jaa.done Zb9 ?_;clear hSh;have K:=K0;clear K0;obtain ⟨c0,c1⟩:=HC0.out _ K.1;go_upto_region 8 with fail;have K0:=K.drew;have s0:=HC0.out _ K0.1;clear K c0 c1;refine jah 100 (fun V=>V.cell? ⟨b0,0,none⟩=some (.slice A n cap)∧V.cell? ⟨b0,1,none⟩=some (.slice A' m cap')) Zb9 s0 (fun hSh=>?_);clear s0;generalize World.drew _=V0 at K0 hSh ⊢;refine jaa.tkB 0 rfl ?_;refine jaa.tkB 1 rfl ?_;refine jaa.tkB 2 rfl ?_;refine jaa.tkB 3 rfl ?_;refine jaa.tkB 5 rfl ?_;refine jaa.tkB 6 rfl ?_;refine jaa.tkB 7 rfl ?_;refine jaa.tkB 8 rfl ?_;refine jaa.onW 4 rfl fun KK hKK=>?_
 go_simp;go_at_call 28;refine (HK1.out _ K0.1).mono ?_;rintro e V0 ⟨rfl,hb⟩;replace K0:=K0.keep hb;clear hb;go_wp2_with fail;refine hKK.out _ _ (HC0.out _ K0.1) (fun hSh=>?_);clear hKK KK;refine ZPT ?_;refine jaa.onW 9 rfl fun KK hKK=>?_
 go_simp;go_at_call 29;refine (HK2.out _ K0.1).mono ?_;rintro e V0 ⟨rfl,hb⟩;replace K0:=K0.keep hb;clear hb;go_wp2_with fail;refine hKK.out _ _ (HC0.out _ K0.1) (fun hSh=>?_);clear hKK KK;refine ZPT ?_;refine jaa.tkB 10 rfl ?_;refine jaa.tkB 11 rfl ?_;refine jaa.done Zb9 ?_;clear hSh;have K:=K0;clear K0;obtain ⟨c0,c1⟩:=HC0.out _ K.1;go_upto_region 9 with fail;have K0:=K.drew;have s0:=HC0.out _ K0.1;clear K c0 c1;refine jah 100 (fun V=>V.cell? ⟨b0,0,none⟩=some (.slice A n cap)∧V.cell? ⟨b0,1,none⟩=some (.slice A' m cap')) Zb9 s0 (fun hSh=>?_);clear s0;generalize World.drew _=V0 at K0 hSh ⊢;refine jaa.tkB 0 rfl ?_;refine jaa.tkB 1 rfl ?_;refine jaa.tkB 2 rfl ?_;refine jaa.tkB 3 rfl ?_;refine jaa.tkB 4 rfl ?_;refine jaa.tkB 5 rfl ?_;refine jaa.tkB 6 rfl ?_;refine jaa.tkB 7 rfl ?_;refine jaa.tkB 8 rfl ?_;refine jaa.tkB 10 rfl ?_;refine jaa.tkB 11 rfl ?_;refine jaa.tkB 12 rfl ?_
 refine jaa.tkB 13 rfl ?_;refine jaa.onW 9 rfl fun KK hKK=>?_
 go_simp;go_at_call 28;refine (HK3.out _ K0.1 er).mono ?_;rintro e V0 ⟨rfl,hb⟩;replace K0:=K0.keep hb;clear hb;go_wp2_with fail;refine hKK.out _ _ (HC0.out _ K0.1) (fun hSh=>?_);clear hKK KK;refine ZPT ?_;refine jaa.onW 14 rfl fun KK hKK=>?_
 go_simp;go_at_call 29;refine (HK4.out _ K0.1 er).mono ?_;rintro e V0 ⟨rfl,hb⟩;replace K0:=K0.keep hb;clear hb;go_wp2_with fail;refine hKK.out _ _ (HC0.out _ K0.1) (fun hSh=>?_);clear hKK KK;refine ZPT ?_;refine jaa.tkB 15 rfl ?_;refine jaa.tkB 16 rfl ?_;refine jaa.tkB 17 rfl ?_;refine jaa.tkB 18 rfl ?_;refine jaa.tkB 19 rfl ?_;refine jaa.tkB 20 rfl ?_;refine jaa.tkB 21 rfl ?_;refine jaa.tkB 23 rfl ?_;refine jaa.tkB 24 rfl ?_;refine jaa.tkB 25 rfl ?_;refine jaa.tkB 26 rfl ?_;refine jaa.onW 22 rfl fun KK hKK=>?_
 go_simp;go_at_call 28;refine (HK3.out _ K0.1 c').mono ?_;rintro e V0 ⟨rfl,hb⟩;replace K0:=K0.keep hb;clear hb;go_wp2_with fail;refine hKK.out _ _ (HC0.out _ K0.1) (fun hSh=>?_);clear hKK KK;refine ZPT ?_;refine jaa.onW 27 rfl fun KK hKK=>?_
 go_simp;go_at_call 29;refine (HK4.out _ K0.1 c').mono ?_;rintro e V0 ⟨rfl,hb⟩;replace K0:=K0.keep hb;clear hb;go_wp2_with fail;refine hKK.out _ _ (HC0.out _ K0.1) (fun hSh=>?_);clear hKK KK;refine ZPT ?_;refine jaa.tkB 28 rfl ?_;refine jaa.tkB 29 rfl ?_;refine jaa.tkB 30 rfl ?_;refine jaa.done Zb9 ?_;clear hSh;have K:=K0;clear K0;obtain ⟨c0,c1⟩:=HC0.out _ K.1;go_wp2_with fail;go_ret;exact ⟨rfl,HUp.out _ K.1⟩
end Go.Proofs.YtdlcglndhhndpaaGreat
