/- Laws and walks; conditions stand in each theorem. -/
import Derived.Test.YtdlcglndhhndpaaGreatP42
import Derived.Test.YtdlcglndhhndpaaGreatP44
set_option linter.unusedSimpArgs false
set_option linter.unusedVariables false
set_option maxHeartbeats 16000000
set_option maxRecDepth 100000
namespace Go.Proofs.YtdlcglndhhndpaaGreat
open Go.RowKit
theorem val_at {m n:Nat} {ls:List Rv} (hlen:ls.length=m) (hrow:∀(i:Nat) (X:Rv),ls[i]?=some X→rowF n X=true):(ofF m (rbF ls)).all Fv.ok=true∧∀i,i<m→fvR (ofF m (rbF ls)) i=rwB2 ls false i:=by
 have h:∀i,i<m→(rbF ls i).ok=true∧(rbF ls i).rat=rwB2 ls false i:=fun i hi=>by
  have h1:=List.getElem?_eq_getElem (l:=ls) (i:=i) ZO;have h2:=jbV (hrow i _ h1);rw [jjv h1];unfold rbF;rw [h1,Option.map_some,Option.getD_some];exact ⟨h2.2.1,rfl⟩
 exact ⟨jfP fun i hi=>(h i hi).1,fun i hi=>by rw [jhX hi];exact (h i hi).2⟩
theorem jhG (A A' X Y:Option Addr) (n cap m cap' nx cx ny cy:Nat) (l:List Fv) (ls:List Rv) (er:Int) (w:World) (hl:RdF w w.heap.size A n cap l) (hr:RdR w w.heap.size A' m cap' ls) (hn:n≤20) (hm:m≤40) (hok:(l.all Fv.ok&&ls.all (rowF n))=false) :
 Calls Tryz.prog 29 #[.agg #[.slice A n cap,.slice A' m cap'],.slice X nx cx,.slice Y ny cy,.int .i64 er] w fun e w'=>e=.returned (.bool false)∧Below w.heap.size w w':=by
 have HRt:=jmT (fun W (h:Below w.heap.size w W)=>jch A A' n cap m cap' l ls W (hl.up jan h) (hr.up ja7 h) hn hm);rw [hok] at HRt;have hcap:=hl.caps;have hcap':=hr.caps;have K:=St.start w;have r:=K.raw;clear hl hr hok;go_enter Tryz.func29,Tryz.ntmps29
 go_wp2_with (first|(apply K.box;rfl;rfl;rfl;clear K r;intro W b0 K;have r:=K.rawS)|((first|(go_at_call 27;refine (HRt.out _ K.1).mono ?_)|(go_at_call 77;(first|((with_reducible show Calls _ _ #[.slice X _ cx,_] _ _);refine (HLx.out _ K.1).mono ?_)|refine (HLy.out _ K.1).mono ?_))|(go_at_call 78;refine (HBe.out _ K.1).mono ?_)|(go_at_call 79;refine (HCv.out _ K.1).mono ?_));rintro e W ⟨rfl,hb⟩;replace K:=K.keep hb;clear hb r;have r:=K.rawS))
 go_ret;exact ⟨rfl,K.1⟩
theorem jhg (A A' X Y:Option Addr) (n cap m cap' nx cx ny cy:Nat) (l:List Fv) (ls:List Rv) (x y:List Fv) (er:Int) (w:World) (hl:RdF w w.heap.size A n cap l) (hr:RdR w w.heap.size A' m cap' ls) (hx:RdF w w.heap.size X nx cx x) (hy:RdF w w.heap.size Y ny cy y) (hn:n≤20) (hm:m≤40) (hok:(l.all Fv.ok&&ls.all (rowF n))=true) :
 Calls Tryz.prog 29 #[.agg #[.slice A n cap,.slice A' m cap'],.slice X nx cx,.slice Y ny cy,.int .i64 er] w fun e w'=>e=.returned (.bool (chkF n m l ls x y er))∧Below w.heap.size w w':=by
 have HRt:=jmT (fun W (h:Below w.heap.size w W)=>jch A A' n cap m cap' l ls W (hl.up jan h) (hr.up ja7 h) hn hm);rw [hok] at HRt;have HLx:=jmT (fun W (h:Below w.heap.size w W)=>jey X nx cx n x W (hx.up jan h));have HLy:=jmT (fun W (h:Below w.heap.size w W)=>jey Y ny cy m y W (hy.up jan h));have HGo:=jmT (fun W (h:Below w.heap.size w W)=>hl.up jan h);have HRo:=jmT (fun W (h:Below w.heap.size w W)=>hr.up ja7 h);have HXo:=jmT (fun W (h:Below w.heap.size w W)=>hx.up jan h);have HYo:=jmT (fun W (h:Below w.heap.size w W)=>hy.up jan h);rw [Bool.and_eq_true] at hok;have HOk:=jmT hok.1;have HRow:=jmT (show ∀(k:Nat) (X:Rv),ls[k]?=some X→rowF n X=true from fun k X h=>List.all_eq_true.1 hok.2 _ (List.mem_of_getElem? h));have HVo:=jmT (val_at hr.len HRow.out);have hcap:=hl.caps;have hcap':=hr.caps;have hcx:=hx.caps;have hcy:=hy.caps;have hlx:=hx.len;have hly:=hy.len
 have HVa:=jmT (fun W (h:Below w.heap.size w W)=>jgv A A' n cap m cap' ls W hcap (hr.up ja7 h) ZO);have K:=St.start w;have r:=K.raw;clear hl hr hx hy hok;obtain ⟨R,hR⟩:∃R,R=chkF n m l ls x y er:=⟨_,rfl⟩;rw [←hR];by_cases he0:er=0
 ·subst he0;have HC:=jmT (show R=chkO n m l ls x y from hR);clear hR;cases hbx:decide (x.length=n)&&x.all fnF
  ·rw [hbx] at HLx;have HN:=jmT (show _=false from (show chkO n m l ls x y=false by unfold chkO;rw [hbx];simp));exact ZQ7
  cases hby:decide (y.length=m)&&y.all fnF
  ·rw [hbx] at HLx;rw [hby] at HLy;have HN:=jmT (show _=false from (show chkO n m l ls x y=false by unfold chkO;rw [hby];simp));exact ZQ7
  have HCO:=jmT (show chkO n m l ls x y=(belB m n (rwA2 ls) (rwB2 ls false) (fvR x)&&covB m n (rwA2 ls) (fvR l) (fvR y)&&prdK (fvR y) (rwB2 ls false) m&&prdK (fvR l) (fvR x) n&&decide (smQ (fun i=>fvR y i*rwB2 ls false i) m=smQ (fun j=>fvR l j*fvR x j) n)) by unfold chkO;rw [hbx,hby];simp only [Bool.true_and]);rw [hbx] at HLx;rw [hby] at HLy;rw [Bool.and_eq_true,decide_eq_true_eq] at hbx hby;have hnx:n=nx:=by omega
  have hny:m=ny:=by omega
  subst hnx hny;have HOx:=jmT (jd1 hbx.2);have HOy:=jmT (jd1 hby.2);clear hbx hby;have HBe:=jmT (fun W (h:Below w.heap.size w W)=>jhf A A' X n cap m cap' cx ls x W (HRo.out W h) (HXo.out W h) HRow.out HOx.out ZO);have HCv:=jmT (fun W (h:Below w.heap.size w W)=>jf5 A A' Y n cap m cap' cy l ls y W (HGo.out W h) (HRo.out W h) (HYo.out W h) HRow.out HOk.out HOy.out ZO ZO);cases hbe:belB m n (rwA2 ls) (rwB2 ls false) (fvR x)
  ·rw [hbe] at HBe;have HN:=jmT (show _=false from (show chkO n m l ls x y=false by rw [HCO.out,hbe];simp));exact ZQ7
  cases hcv:covB m n (rwA2 ls) (fvR l) (fvR y)
  ·rw [hbe] at HBe;rw [hcv] at HCv;have HN:=jmT (show _=false from (show chkO n m l ls x y=false by rw [HCO.out,hcv];simp));exact ZQ7
  rw [hbe] at HBe;rw [hcv] at HCv;rw [hbe,hcv] at HCO;clear hbe hcv;go_enter Tryz.func29,Tryz.ntmps29
  go_wp2_with (first|(apply K.box;rfl;rfl;rfl;clear K r;intro W b0 K;have r:=K.rawS)|((first|(go_at_call 27;refine (HRt.out _ K.1).mono ?_)|(go_at_call 77;(first|((with_reducible show Calls _ _ #[.slice X _ cx,_] _ _);refine (HLx.out _ K.1).mono ?_)|refine (HLy.out _ K.1).mono ?_))|(go_at_call 78;refine (HBe.out _ K.1).mono ?_)|(go_at_call 79;refine (HCv.out _ K.1).mono ?_));rintro e W ⟨rfl,hb⟩;replace K:=K.keep hb;clear hb r;have r:=K.rawS))
  refine (HVa.out _ K.1).mono ?_;rintro e W5 ⟨A5,c5,rfl,hr5,hb5⟩;replace K:=K.keep hb5;have hcap5:=hr5.caps;have Hr5:=jmT hr5;clear hb5 hr5 r;have r:=K.rawS;go_wp2_with fail;refine (jca Y A5 m cy c5 y (ofF m (rbF ls)) _ (HYo.out _ K.1) Hr5.out ZO HOy.out HVo.out.1).mono ?_;rintro e W6 ⟨q1,o1,rfl,ho1,hq1,⟨ra,rb⟩,⟨fa,fb⟩,hb6⟩;replace K:=K.retF hb6 ra rb fa fb;rw [jb1 (y':=rwB2 ls false) fun i hi=>HVo.out.2 i hi] at ho1;rw [ja1 (g:=fun i=>fvR y i*rwB2 ls false i) fun i hi=>by rw [HVo.out.2 i hi]] at hq1;have HP1:=jmT ho1;have HQ1:=jmT hq1;clear ra rb fa fb hb6 r ho1 hq1 Hr5;have r:=K.rawS
  go_wp2_with (first|(apply K.alloc;rfl;rfl;exact jaj;clear K r;(first|((fail_if_success revert b0);intro W b0 K)|intro W b K);have r:=K.rawS)|(apply K.storeA;rfl;rfl;rfl;rfl;rfl;(exact ZUP);exact jae;rfl;rfl;rfl;clear K r;intro W K;have r:=K.rawS))
  refine (jca A X n cap cx l x _ (HGo.out _ K.1) (HXo.out _ K.1) ZO HOk.out HOx.out).mono ?_;rintro e W6 ⟨q2,o2,rfl,ho2,hq2,⟨ra,rb⟩,⟨fa,fb⟩,hb6⟩;replace K:=K.retF hb6 ra rb fa fb;have HP2:=jmT ho2;have HQ2:=jmT hq2;clear ra rb fa fb hb6 r ho2 hq2;have r:=K.rawS;cases o1
  ·have HN:=jmT (show _=_ from (show chkO n m l ls x y=false by rw [HCO.out,←HP1.out];simp));exact ZQ26
  cases o2
  ·have HN:=jmT (show _=_ from (show chkO n m l ls x y=false by rw [HCO.out,←HP2.out];simp));exact ZQ26
  have HZ1:=jmT (HQ1.out Zb0);have HZ2:=jmT (HQ2.out Zb0);rw [←HP1.out,←HP2.out] at HCO;clear HQ1 HQ2 HP1 HP2
  go_wp2_with (first|(apply K.alloc;rfl;rfl;exact jaj;clear K r;(first|((fail_if_success revert b0);intro W b0 K)|intro W b K);have r:=K.rawS)|(apply K.storeA;rfl;rfl;rfl;rfl;rfl;(exact ZUP);exact jae;rfl;rfl;rfl;clear K r;intro W K;have r:=K.rawS))
  refine (jda K HZ1.out HZ2.out ZMB ZMB ZMB ZMB).mono ?_;rintro e W7 ⟨rfl,k6⟩;replace K:=k6;clear k6 r;have r:=K.rawS;by_cases hz:smQ (fun i=>fvR y i*rwB2 ls false i) m=smQ (fun j=>fvR l j*fvR x j) n
  ·have HN:=jmT (show chkO n m l ls x y=true by rw [HCO.out,decide_eq_true hz];rfl);have hcd:(cmpQ (smQ (fun i=>fvR y i*rwB2 ls false i) m) (smQ (fun j=>fvR l j*fvR x j) n)==0)=true:=by rw [beq_iff_eq];exact jdb.2 hz
   exact ZQ149
  ·have HN:=jmT (show chkO n m l ls x y=false by rw [HCO.out,decide_eq_false hz];simp);have hcd:(cmpQ (smQ (fun i=>fvR y i*rwB2 ls false i) m) (smQ (fun j=>fvR l j*fvR x j) n)==0)=false:=by rw [beq_eq_false_iff_ne];exact fun e=>hz (jdb.1 e)
   exact ZQ149
 have hd0:(er==0)=false:=by rw [beq_eq_false_iff_ne];exact he0
 by_cases he4:er=4
 ·subst he4;have HC:=jmT (show R=chkN n m ls x y from hR);clear hR he0 hd0;by_cases hx0:nx=0
  case neg =>
   have hxi:¬(nx:Int)=0:=by omega
   have hxb:((nx:Int) !=0)=true:=by rw [bne_iff_ne];exact hxi
   have HN:=jmT (show _=false from (show chkN n m ls x y=false by unfold chkN;rw [decide_eq_false ZO];simp));exact ZQ7
  subst hx0;cases hby:decide (y.length=m)&&y.all fnF
  ·rw [hby] at HLy;have HN:=jmT (show _=false from (show chkN n m ls x y=false by unfold chkN;rw [hby];simp));exact ZQ7
  have HCO:=jmT (show chkN n m ls x y=(covB m n (rwA2 ls) jbu (fvR y)&&prdK (fvR y) (rwB2 ls false) m&&decide (smQ (fun i=>fvR y i*rwB2 ls false i) m<0)) by unfold chkN;rw [hby,decide_eq_true hlx];simp only [Bool.true_and]);rw [hby] at HLy;rw [Bool.and_eq_true,decide_eq_true_eq] at hby;have hny:m=ny:=by omega
  subst hny;have HOy:=jmT (jd1 hby.2);clear hby;have HCv:=jmT (fun W (h:Below w.heap.size w W)=>jfu A A' Y n cap m cap' cy l ls y W (HGo.out W h) (HRo.out W h) (HYo.out W h) HRow.out HOk.out HOy.out ZO ZO);cases hcv:covB m n (rwA2 ls) jbu (fvR y)
  ·rw [hcv] at HCv;have HN:=jmT (show _=false from (show chkN n m ls x y=false by rw [HCO.out,hcv];simp));exact ZQ7
  rw [hcv] at HCv HCO;clear hcv;go_enter Tryz.func29,Tryz.ntmps29
  go_wp2_with (first|(apply K.box;rfl;rfl;rfl;clear K r;intro W b0 K;have r:=K.rawS)|((first|(go_at_call 27;refine (HRt.out _ K.1).mono ?_)|(go_at_call 77;(first|((with_reducible show Calls _ _ #[.slice X _ cx,_] _ _);refine (HLx.out _ K.1).mono ?_)|refine (HLy.out _ K.1).mono ?_))|(go_at_call 78;refine (HBe.out _ K.1).mono ?_)|(go_at_call 79;refine (HCv.out _ K.1).mono ?_));rintro e W ⟨rfl,hb⟩;replace K:=K.keep hb;clear hb r;have r:=K.rawS))
  refine (HVa.out _ K.1).mono ?_;rintro e W5 ⟨A5,c5,rfl,hr5,hb5⟩;replace K:=K.keep hb5;have hcap5:=hr5.caps;have Hr5:=jmT hr5;clear hb5 hr5 r;have r:=K.rawS;go_wp2_with fail;refine (jca Y A5 m cy c5 y (ofF m (rbF ls)) _ (HYo.out _ K.1) Hr5.out ZO HOy.out HVo.out.1).mono ?_;rintro e W6 ⟨q1,o1,rfl,ho1,hq1,⟨ra,rb⟩,⟨fa,fb⟩,hb6⟩;replace K:=K.retF hb6 ra rb fa fb;rw [jb1 (y':=rwB2 ls false) fun i hi=>HVo.out.2 i hi] at ho1;rw [ja1 (g:=fun i=>fvR y i*rwB2 ls false i) fun i hi=>by rw [HVo.out.2 i hi]] at hq1;have HP1:=jmT ho1;have HQ1:=jmT hq1;clear ra rb fa fb hb6 r ho1 hq1 Hr5;have r:=K.rawS;cases o1
  ·have HN:=jmT (show _=_ from (show chkN n m ls x y=false by rw [HCO.out,←HP1.out];simp));exact ZQ26
  have hd:=(HQ1.out Zb0).neg_iff;have HN:=jmT (show chkN n m ls x y=decide (q1.s<0) by rw [HCO.out,←HP1.out,hd];simp);clear HQ1 HP1 HCO hd;exact ZQ26
 have hd4:(er==4)=false:=by rw [beq_eq_false_iff_ne];exact he4
 by_cases he3:er=3
 ·subst he3;have HC:=jmT (show R=chkR n m l ls x y from hR);clear hR he0 hd0 he4 hd4;by_cases hy0:ny=0
  case neg =>
   have hyi:¬(ny:Int)=0:=by omega
   have hyb:((ny:Int) !=0)=true:=by rw [bne_iff_ne];exact hyi
   have HN:=jmT (show _=false from (show chkR n m l ls x y=false by unfold chkR;rw [decide_eq_false ZO];simp));exact ZQ7
  subst hy0;cases hbx:decide (x.length=n)&&x.all fnF
  ·rw [hbx] at HLx;have HN:=jmT (show _=false from (show chkR n m l ls x y=false by unfold chkR;rw [hbx];simp));exact ZQ7
  have HCO:=jmT (show chkR n m l ls x y=(belB m n (rwA2 ls) (rwB2 ls true) (fvR x)&&prdK (fvR l) (fvR x) n&&decide (0<smQ (fun j=>fvR l j*fvR x j) n)) by unfold chkR;rw [hbx,decide_eq_true hly];simp only [Bool.true_and]);rw [hbx] at HLx;rw [Bool.and_eq_true,decide_eq_true_eq] at hbx;have hnx:n=nx:=by omega
  subst hnx;have HOx:=jmT (jd1 hbx.2);clear hbx;have HBe:=jmT (fun W (h:Below w.heap.size w W)=>jfZ A A' X n cap m cap' cx ls x W (HRo.out W h) (HXo.out W h) HRow.out HOx.out ZO);cases hbe:belB m n (rwA2 ls) (rwB2 ls true) (fvR x)
  ·rw [hbe] at HBe;have HN:=jmT (show _=false from (show chkR n m l ls x y=false by rw [HCO.out,hbe];simp));exact ZQ7
  rw [hbe] at HBe HCO;clear hbe;go_enter Tryz.func29,Tryz.ntmps29
  go_wp2_with (first|(apply K.box;rfl;rfl;rfl;clear K r;intro W b0 K;have r:=K.rawS)|((first|(go_at_call 27;refine (HRt.out _ K.1).mono ?_)|(go_at_call 77;(first|((with_reducible show Calls _ _ #[.slice X _ cx,_] _ _);refine (HLx.out _ K.1).mono ?_)|refine (HLy.out _ K.1).mono ?_))|(go_at_call 78;refine (HBe.out _ K.1).mono ?_)|(go_at_call 79;refine (HCv.out _ K.1).mono ?_));rintro e W ⟨rfl,hb⟩;replace K:=K.keep hb;clear hb r;have r:=K.rawS))
  refine (jca A X n cap cx l x _ (HGo.out _ K.1) (HXo.out _ K.1) ZO HOk.out HOx.out).mono ?_;rintro e W6 ⟨q2,o2,rfl,ho2,hq2,⟨ra,rb⟩,⟨fa,fb⟩,hb6⟩;replace K:=K.retF hb6 ra rb fa fb;have HP2:=jmT ho2;have HQ2:=jmT hq2;clear ra rb fa fb hb6 r ho2 hq2;have r:=K.rawS;cases o2
  ·have HN:=jmT (show _=_ from (show chkR n m l ls x y=false by rw [HCO.out,←HP2.out];simp));exact ZQ26
  have hd:=(HQ2.out Zb0).pos_iff;have HN:=jmT (show chkR n m l ls x y=decide (q2.s>0) by rw [HCO.out,←HP2.out,hd];simp);clear HQ2 HP2 HCO hd;exact ZQ26
 have hd3:(er==3)=false:=by rw [beq_eq_false_iff_ne];exact he3
 have HC:=jmT (show R=false by rw [hR];unfold chkF;rw [if_neg he0,if_neg he4,if_neg he3]);clear hR;go_enter Tryz.func29,Tryz.ntmps29
 go_wp2_with (first|(apply K.box;rfl;rfl;rfl;clear K r;intro W b0 K;have r:=K.rawS)|((first|(go_at_call 27;refine (HRt.out _ K.1).mono ?_)|(go_at_call 77;(first|((with_reducible show Calls _ _ #[.slice X _ cx,_] _ _);refine (HLx.out _ K.1).mono ?_)|refine (HLy.out _ K.1).mono ?_))|(go_at_call 78;refine (HBe.out _ K.1).mono ?_)|(go_at_call 79;refine (HCv.out _ K.1).mono ?_));rintro e W ⟨rfl,hb⟩;replace K:=K.keep hb;clear hb r;have r:=K.rawS))
 go_ret;exact ⟨by rw [HC.out];first|done|rfl,K.1⟩
end Go.Proofs.YtdlcglndhhndpaaGreat
