/- Laws and walks laid together; the conditions stand in each theorem. -/
import Derived.Deep.RegionHeld3
import Derived.Outline
import Derived.OrdersHeld
import Derived.BigRegion
import Derived.Maps.RangeWalk
import Derived.Deep.QuietTactic
import Derived.BigQuiet
import Derived.Laws.BitsAllLaws
import Derived.Laws.BitsLemmas
import Derived.Test.YtdlcglndhhndpaaU07
import Derived.Test.YtdlcglndhhndpaaU04
import Derived.Test.YtdlcglndhhndpaaU02
import Derived.Test.YtdlcglndhhndpaaU01
import Derived.Test.YtdlcglndhhndpaaT33
import Derived.Test.YtdlcglndhhndpaaT21
import Derived.Test.YtdlcglndhhndpaaT40
import Derived.Test.YtdlcglndhhndpaaT07
import Derived.Test.YtdlcglndhhndpaaT09
set_option linter.unusedSimpArgs false
set_option linter.unusedVariables false
namespace Go.Proofs.Ytdlcglndhhndpaa
open Go.RowKit
theorem ZU0 {p : Prop} (h : p := by first | ((dsimp only [lpC1]; go_wp2_with (go_at_call 40; (first | ((with_reducible show Calls _ _ #[_, .slice X nx cx, .slice Y ny cy, _] _ _); refine (HC3.out _ (K.1)).mono ?_) | ((with_reducible show Calls _ _ #[_, .slice X nx cx, _, _] _ _); refine (HC2.out _ (K.1)).mono ?_) | refine (HC1.out _ (K.1)).mono ?_); rintro e W ⟨rfl, hb1⟩; replace K := K.keep hb1; clear c0 c1 hb1; have c0 := (K.blk (b := b0) (cs := #[.slice A n cap, .slice A' m cap']) (t := 58) ZMB).cell (j := 0) rfl; have c1 := (K.blk (b := b0) (cs := #[.slice A n cap, .slice A' m cap']) (t := 58) ZMB).cell (j := 1) rfl); go_ret; exact ⟨rfl, K.1⟩)) | fail) : p := h
theorem ZU2 {p : Prop} (h : p := by
  first
    | (go_enter Try.func9, Try.ntmps9
       go_wp2_with (first
         | (apply K.box; rfl; rfl; rfl; clear K; intro W b0 K; have c0 := (K.blk (b := b0) (cs := #[.slice A n cap, .slice A' m cap']) (t := 58) ZMB).cell (j := 0) rfl; have c1 := (K.blk (b := b0) (cs := #[.slice A n cap, .slice A' m cap']) (t := 58) ZMB).cell (j := 1) rfl)
         | (go_at_call 28; refine (HSm.out _).mono ?_; rintro e W ⟨rfl, hb1⟩; replace K := K.keep hb1; clear c0 c1 hb1; have c0 := (K.blk (b := b0) (cs := #[.slice A n cap, .slice A' m cap']) (t := 58) ZMB).cell (j := 0) rfl; have c1 := (K.blk (b := b0) (cs := #[.slice A n cap, .slice A' m cap']) (t := 58) ZMB).cell (j := 1) rfl)
         | (go_at_call 29; refine (HFew.out _ K.1).mono ?_; rintro e W ⟨rfl, hb1⟩; replace K := K.keep hb1; clear c0 c1 hb1; have c0 := (K.blk (b := b0) (cs := #[.slice A n cap, .slice A' m cap']) (t := 58) ZMB).cell (j := 0) rfl; have c1 := (K.blk (b := b0) (cs := #[.slice A n cap, .slice A' m cap']) (t := 58) ZMB).cell (j := 1) rfl)
         | (go_at_call 39; (first | ((with_reducible show Calls _ _ #[.slice X nx cx, _] _ _); refine (HSx.out _ K.1).mono ?_) | refine (HSy.out _ K.1).mono ?_); rintro e W ⟨rfl, hb1⟩; replace K := K.keep hb1; clear c0 c1 hb1; have c0 := (K.blk (b := b0) (cs := #[.slice A n cap, .slice A' m cap']) (t := 58) ZMB).cell (j := 0) rfl; have c1 := (K.blk (b := b0) (cs := #[.slice A n cap, .slice A' m cap']) (t := 58) ZMB).cell (j := 1) rfl))
       go_ret
       exact ⟨rfl, K.1⟩)
    | fail) : p := h
theorem ZU4 {p : Prop} (h : p := by
  first
    | (go_upto_region 13 with (first
         | (apply K.alloc; rfl; rfl; exact frac_zero; clear K; intro W b9 K)
         | (apply K.storeA; rfl; rfl; rfl; rfl; rfl; (exact ZUP); exact frac_size; rfl; rfl; rfl; clear K; intro W K))
       have hBb8 := K.blk (b := b8) (cs := #[.int .i64 z1.s, .slice z1.A z1.n z1.c, .int .i64 z1.t, .slice z1.B z1.m z1.d]) (t := 40) ZMB
       have e0b8 := hBb8.cell (j := 0) rfl
       have e1b8 := hBb8.cell (j := 1) rfl
       have e2b8 := hBb8.cell (j := 2) rfl
       have e3b8 := hBb8.cell (j := 3) rfl
       clear hBb8
       have hBb9 := K.blk (b := b9) (cs := #[.int .i64 z2.s, .slice z2.A z2.n z2.c, .int .i64 z2.t, .slice z2.B z2.m z2.d]) (t := 40) ZMB
       have e0b9 := hBb9.cell (j := 0) rfl
       have e1b9 := hBb9.cell (j := 1) rfl
       have e2b9 := hBb9.cell (j := 2) rfl
       have e3b9 := hBb9.cell (j := 3) rfl
       clear hBb9
       go_wp2_with (fail)
       go_ret
       exact ⟨rfl, HBe.out.trans (K.1.mono HBe.out.size)⟩)
    | fail) : p := h
theorem callSameR {w0 W : World} {L : List Blk} {D : List Hl} {Y Z : Rw} {q : Rat} (K : St w0 L D W) (hY : isQ Y q) (hZ : isQ Z q) (m1 : (⟨rdP Y.A Y.n Y.c Y.l, rdS Y.A Y.n⟩ : Hl) ∈ D) (m2 : (⟨rdP Y.B Y.m Y.d Y.k, rdS Y.B Y.m⟩ : Hl) ∈ D) (m3 : (⟨rdP Z.A Z.n Z.c Z.l, rdS Z.A Z.n⟩ : Hl) ∈ D) (m4 : (⟨rdP Z.B Z.m Z.d Z.k, rdS Z.B Z.m⟩ : Hl) ∈ D) :
    Calls Try.prog 25 #[.agg #[.int .i64 Y.s, .slice Y.A Y.n Y.c, .int .i64 Y.t, .slice Y.B Y.m Y.d], .agg #[.int .i64 Z.s, .slice Z.A Z.n Z.c, .int .i64 Z.t, .slice Z.B Z.m Z.d]] W fun e W' => e = .returned (.bool true) ∧ St w0 L D W' := by
  have h := gsame_any Y.s Y.t Z.s Z.t Y.A Y.B Z.A Z.B Y.n Y.c Y.m Y.d Z.n Z.c Z.m Z.d Y.l Y.k Z.l Z.k W (K.rd m1) (K.rd m2) (K.rd m3) (K.rd m4)
  have e : sameF Y.s Y.l Y.t Y.k Z.s Z.l Z.t Z.k = true := by
    have h3 : Y.fv = Z.fv := hY.fv.trans hZ.fv.symm
    unfold Rw.fv at h3
    injection h3 with a1 a2 a3 a4
    unfold sameF sameB
    rw [decide_eq_true ⟨a1, a2⟩, decide_eq_true ⟨a3, a4⟩]
    rfl
  rw [e] at h
  exact h.mono fun e W' ⟨he, hb⟩ => ⟨he, K.keep hb⟩
def lpC1 : LpEnd → Int
  | .full => 6
  | .none _ => 4
  | .ray _ => 3
  | .best _ _ => 0
theorem solO.form1 {w' : World} {m n : Nat} {e : Ending} {E : LpEnd} (h : solO w' m n e E) : ∃ A1 n1 c1 A2 n2 c2, e = .returned (.tuple #[.slice A1 n1 c1, .slice A2 n2 c2, .int .i64 (lpC1 E)]) ∧ ∀ x y, E = .best x y → n1 = n ∧ RdF w' w'.heap.size A1 n c1 (ofF n fun i => fvQ (x i)) ∧ ∀ i, i < n → fitsF (x i) = true := by
  cases E with
  | full => exact ⟨_, _, _, _, _, _, h, fun x y e => by cases e⟩
  | none y => obtain ⟨A, c, he, -⟩ := h; exact ⟨_, _, _, _, _, _, he, fun x y e => by cases e⟩
  | ray x => obtain ⟨A, c, he, -⟩ := h; exact ⟨_, _, _, _, _, _, he, fun x y e => by cases e⟩
  | best x y => obtain ⟨A, c, A', c', he, hr, -, hf, -⟩ := h; exact ⟨_, _, _, _, _, _, he, fun x2 y2 e => by cases e; exact ⟨rfl, hr, hf⟩⟩
theorem fvR_of1 {n i : Nat} {f : Nat → Fv} (hi : i < n) : fvR (ofF n f) i = (f i).rat := by
  unfold fvR
  rw [ofF_get hi, Option.map_some, Option.getD_some]
theorem ofF_all1 {α : Type} {p : α → Bool} {n : Nat} {f : Nat → α} (h : ∀ i, i < n → p (f i) = true) : (ofF n f).all p = true := List.all_eq_true.2 fun x hx => by
  obtain ⟨i, hi, rfl⟩ := List.mem_iff_getElem.1 hx
  have hi' : i < n := by rw [ofF_len] at hi; exact hi
  have := ofF_get (f := f) hi'
  rw [List.getElem?_eq_getElem hi] at this
  rw [Option.some.inj this]
  exact h i hi'
theorem fewP_len1 {l : List Fv} {ls : List Rv} (h : fewP l ls = true) : l.length ≤ 4 ∧ ls.length ≤ 4 := by
  unfold fewP few6L at h
  rw [Bool.and_eq_true, Bool.and_eq_true, Bool.and_eq_true, decide_eq_true_eq, decide_eq_true_eq] at h
  exact ⟨by omega, h.1⟩
theorem fnF_ok {x : List Fv} (h : x.all fnF = true) : x.all Fv.ok = true := List.all_eq_true.2 fun y hy => by
  have := List.all_eq_true.1 h y hy
  unfold fnF at this
  rw [Bool.and_eq_true] at this
  exact this.1
set_option maxRecDepth 100000 in
set_option maxHeartbeats 8000000 in
theorem one9_any (A A' X Y : Option Addr) (n cap m cap' nx cx ny cy : Nat) (l : List Fv) (ls : List Rv) (a b : List Fv) (w : World) (hl : RdF w w.heap.size A n cap l) (hr : RdR w w.heap.size A' m cap' ls) (hx : RdF w w.heap.size X nx cx a) (hy : RdF w w.heap.size Y ny cy b) :
    Calls Try.prog 9 #[.agg #[.slice A n cap, .slice A' m cap'], .slice X nx cx, .slice Y ny cy] w fun e w' => e = .returned (.bool true) ∧ Below w.heap.size w w' := by
  have hcap := hl.caps
  have hcap' := hr.caps
  have hcx := hx.caps
  have hcy := hy.caps
  have hlx := hx.len
  have hlen := hl.len
  have hlenr := hr.len
  have K := St.start w
  have HFew := Lib.hid (fun W (h : Below w.heap.size w W) => few9_any A A' n cap m cap' l ls W (hl.up fE_lasts h) (hr.up rE_lasts h))
  have HSm := Lib.hid alive9_any
  have HSx := Lib.hid (fun W (h : Below w.heap.size w W) => small9_any 4 X nx cx a W (hx.up fE_lasts h))
  have HSy := Lib.hid (fun W (h : Below w.heap.size w W) => small9_any 4 Y ny cy b W (hy.up fE_lasts h))
  have HGo := Lib.hid (fun W (h : Below w.heap.size w W) => hl.up fE_lasts h)
  have HRo := Lib.hid (fun W (h : Below w.heap.size w W) => hr.up rE_lasts h)
  have HXo := Lib.hid (fun W (h : Below w.heap.size w W) => hx.up fE_lasts h)
  have HYo := Lib.hid (fun W (h : Below w.heap.size w W) => hy.up fE_lasts h)
  clear hl hr hx hy
  cases hf : fewP l ls
  case false =>
    rw [hf] at HFew
    clear hf hlx hlen hlenr
    exact ZU2
  rw [hf] at HFew
  cases hfa : few6L 4 1 a
  case false =>
    rw [hfa] at HSx
    clear hf hfa hlx hlen hlenr
    exact ZU2
  rw [hfa] at HSx
  cases hfb : few6L 4 1 b
  case false =>
    rw [hfb] at HSy
    clear hf hfa hfb hlx hlen hlenr
    exact ZU2
  rw [hfb] at HSy
  obtain ⟨hn4, hm4⟩ := fewP_len1 hf
  rw [hlen] at hn4
  rw [hlenr] at hm4
  clear hf hfa hfb
  cases hok : (l.all Fv.ok && ls.all (rowF n))
  case false =>
    have HSo := Lib.hid (fun W (h : Below w.heap.size w W) => solve_no A A' n cap m cap' l ls W (HGo.out W h) (HRo.out W h) (by omega) (by omega) hok)
    have HCn := Lib.hid (fun X nx cx Y ny cy er W (h : Below w.heap.size w W) => check_no A A' X Y n cap m cap' nx cx ny cy l ls er W (HGo.out W h) (HRo.out W h) (by omega) (by omega) hok)
    clear hok hlx hlen hlenr
    go_enter Try.func9, Try.ntmps9
    go_wp2_with (first
      | (apply K.box; rfl; rfl; rfl; clear K; intro W b0 K; have c0 := (K.blk (b := b0) (cs := #[.slice A n cap, .slice A' m cap']) (t := 58) ZMB).cell (j := 0) rfl; have c1 := (K.blk (b := b0) (cs := #[.slice A n cap, .slice A' m cap']) (t := 58) ZMB).cell (j := 1) rfl)
      | (go_at_call 28; refine (HSm.out _).mono ?_; rintro e W ⟨rfl, hb1⟩; replace K := K.keep hb1; clear c0 c1 hb1; have c0 := (K.blk (b := b0) (cs := #[.slice A n cap, .slice A' m cap']) (t := 58) ZMB).cell (j := 0) rfl; have c1 := (K.blk (b := b0) (cs := #[.slice A n cap, .slice A' m cap']) (t := 58) ZMB).cell (j := 1) rfl)
      | (go_at_call 29; refine (HFew.out _ K.1).mono ?_; rintro e W ⟨rfl, hb1⟩; replace K := K.keep hb1; clear c0 c1 hb1; have c0 := (K.blk (b := b0) (cs := #[.slice A n cap, .slice A' m cap']) (t := 58) ZMB).cell (j := 0) rfl; have c1 := (K.blk (b := b0) (cs := #[.slice A n cap, .slice A' m cap']) (t := 58) ZMB).cell (j := 1) rfl)
      | (go_at_call 39; (first | ((with_reducible show Calls _ _ #[.slice X nx cx, _] _ _); refine (HSx.out _ K.1).mono ?_) | refine (HSy.out _ K.1).mono ?_); rintro e W ⟨rfl, hb1⟩; replace K := K.keep hb1; clear c0 c1 hb1; have c0 := (K.blk (b := b0) (cs := #[.slice A n cap, .slice A' m cap']) (t := 58) ZMB).cell (j := 0) rfl; have c1 := (K.blk (b := b0) (cs := #[.slice A n cap, .slice A' m cap']) (t := 58) ZMB).cell (j := 1) rfl))
    go_wp2_with (first
      | (go_at_call 32; refine (HSo.out _ K.1).mono ?_; rintro e W ⟨rfl, hb1⟩; replace K := K.keep hb1; clear c0 c1 hb1; have c0 := (K.blk (b := b0) (cs := #[.slice A n cap, .slice A' m cap']) (t := 58) ZMB).cell (j := 0) rfl; have c1 := (K.blk (b := b0) (cs := #[.slice A n cap, .slice A' m cap']) (t := 58) ZMB).cell (j := 1) rfl)
      | (go_at_call 40; refine (HCn.out _ _ _ _ _ _ _ _ K.1).mono ?_; rintro e W ⟨rfl, hb1⟩; replace K := K.keep hb1; clear c0 c1 hb1; have c0 := (K.blk (b := b0) (cs := #[.slice A n cap, .slice A' m cap']) (t := 58) ZMB).cell (j := 0) rfl; have c1 := (K.blk (b := b0) (cs := #[.slice A n cap, .slice A' m cap']) (t := 58) ZMB).cell (j := 1) rfl))
    go_ret
    exact ⟨rfl, K.1⟩
  have HSo := Lib.hid (fun W (h : Below w.heap.size w W) => solve_any A A' n cap m cap' l ls W (HGo.out W h) (HRo.out W h) (by omega) (by omega) hok)
  have HC1 := Lib.hid (fun W (h : Below w.heap.size w W) => (show Calls Try.prog 40 #[.agg #[.slice A n cap, .slice A' m cap'], .slice none 0 0, .slice Y ny cy, .int .i64 4] W (fun e w' => e = .returned (.bool (chkN n m ls [] b)) ∧ Below W.heap.size W w') from check_any A A' none Y n cap m cap' 0 0 ny cy l ls [] b 4 W (HGo.out W h) (HRo.out W h) Rd.nil (HYo.out W h) (by omega) (by omega) hok))
  have HC2 := Lib.hid (fun W (h : Below w.heap.size w W) => (show Calls Try.prog 40 #[.agg #[.slice A n cap, .slice A' m cap'], .slice X nx cx, .slice none 0 0, .int .i64 3] W (fun e w' => e = .returned (.bool (chkR n m l ls a [])) ∧ Below W.heap.size W w') from check_any A A' X none n cap m cap' nx cx 0 0 l ls a [] 3 W (HGo.out W h) (HRo.out W h) (HXo.out W h) Rd.nil (by omega) (by omega) hok))
  have HC3 := Lib.hid (fun W (h : Below w.heap.size w W) => (show Calls Try.prog 40 #[.agg #[.slice A n cap, .slice A' m cap'], .slice X nx cx, .slice Y ny cy, .int .i64 0] W (fun e w' => e = .returned (.bool (chkO n m l ls a b)) ∧ Below W.heap.size W w') from check_any A A' X Y n cap m cap' nx cx ny cy l ls a b 0 W (HGo.out W h) (HRo.out W h) (HXo.out W h) (HYo.out W h) (by omega) (by omega) hok))
  have HOk := Lib.hid (Bool.and_eq_true .. ▸ hok : _ ∧ _).1
  clear hok hlen hlenr
  go_enter Try.func9, Try.ntmps9
  go_wp2_with (first
    | (apply K.box; rfl; rfl; rfl; clear K; intro W b0 K; have c0 := (K.blk (b := b0) (cs := #[.slice A n cap, .slice A' m cap']) (t := 58) ZMB).cell (j := 0) rfl; have c1 := (K.blk (b := b0) (cs := #[.slice A n cap, .slice A' m cap']) (t := 58) ZMB).cell (j := 1) rfl)
    | (go_at_call 28; refine (HSm.out _).mono ?_; rintro e W ⟨rfl, hb1⟩; replace K := K.keep hb1; clear c0 c1 hb1; have c0 := (K.blk (b := b0) (cs := #[.slice A n cap, .slice A' m cap']) (t := 58) ZMB).cell (j := 0) rfl; have c1 := (K.blk (b := b0) (cs := #[.slice A n cap, .slice A' m cap']) (t := 58) ZMB).cell (j := 1) rfl)
    | (go_at_call 29; refine (HFew.out _ K.1).mono ?_; rintro e W ⟨rfl, hb1⟩; replace K := K.keep hb1; clear c0 c1 hb1; have c0 := (K.blk (b := b0) (cs := #[.slice A n cap, .slice A' m cap']) (t := 58) ZMB).cell (j := 0) rfl; have c1 := (K.blk (b := b0) (cs := #[.slice A n cap, .slice A' m cap']) (t := 58) ZMB).cell (j := 1) rfl)
    | (go_at_call 39; (first | ((with_reducible show Calls _ _ #[.slice X nx cx, _] _ _); refine (HSx.out _ K.1).mono ?_) | refine (HSy.out _ K.1).mono ?_); rintro e W ⟨rfl, hb1⟩; replace K := K.keep hb1; clear c0 c1 hb1; have c0 := (K.blk (b := b0) (cs := #[.slice A n cap, .slice A' m cap']) (t := 58) ZMB).cell (j := 0) rfl; have c1 := (K.blk (b := b0) (cs := #[.slice A n cap, .slice A' m cap']) (t := 58) ZMB).cell (j := 1) rfl))
  refine (HSo.out _ K.1).mono ?_
  rintro e W ⟨E, hE, hsol, hb1⟩
  obtain ⟨X1, k1, g1, X2, k2, g2, rfl, HX⟩ := hsol.form1
  have hbB := hb1
  replace K := K.keep hb1; clear c0 c1 hb1; have c0 := (K.blk (b := b0) (cs := #[.slice A n cap, .slice A' m cap']) (t := 58) ZMB).cell (j := 0) rfl; have c1 := (K.blk (b := b0) (cs := #[.slice A n cap, .slice A' m cap']) (t := 58) ZMB).cell (j := 1) rfl
  clear hsol HSo HFew HSm HSx HSy HRo HYo
  cases E with
  | full =>
    dsimp only [lpC1]
    go_wp2_with fail
    go_ret
    exact ⟨rfl, K.1⟩
  | none y1 =>
    have h3 : chkO n m l ls a b = false := by
      cases h : chkO n m l ls a b
      · rfl
      · obtain ⟨u, v, e⟩ := one_best hE (fun e => by cases e) (chkO_cer h)
        cases e
    rw [h3] at HC3
    clear HX hE hlx hbB h3
    cases h1 : chkN n m ls [] b
    · rw [h1] at HC1
      cases h2 : chkR n m l ls a []
      · rw [h2] at HC2
        exact ZU0
      · rw [h2] at HC2
        exact ZU0
    · rw [h1] at HC1
      cases h2 : chkR n m l ls a []
      · rw [h2] at HC2
        exact ZU0
      · rw [h2] at HC2
        exact ZU0
  | ray x1 =>
    have h3 : chkO n m l ls a b = false := by
      cases h : chkO n m l ls a b
      · rfl
      · obtain ⟨u, v, e⟩ := one_best hE (fun e => by cases e) (chkO_cer h)
        cases e
    have h1 : chkN n m ls [] b = false := by
      cases h : chkN n m ls [] b
      · rfl
      · obtain ⟨u, e⟩ := one_none hE (fun e => by cases e) (chkN_cer h)
        cases e
    rw [h3] at HC3
    rw [h1] at HC1
    clear HX hE hlx hbB h1 h3
    cases h2 : chkR n m l ls a []
    · rw [h2] at HC2
      exact ZU0
    · rw [h2] at HC2
      exact ZU0
  | best x1 x2 =>
    have h1 : chkN n m ls [] b = false := by
      cases h : chkN n m ls [] b
      · rfl
      · obtain ⟨u, e⟩ := one_none hE (fun e => by cases e) (chkN_cer h)
        cases e
    have h2 : chkR n m l ls a [] = false := by
      cases h : chkR n m l ls a []
      · rfl
      · exact (one_ray hE (chkR_cer h)).elim
    rw [h1] at HC1
    rw [h2] at HC2
    clear h1 h2
    cases h3 : chkO n m l ls a b
    · rw [h3] at HC3
      clear HX hE hlx hbB h3
      exact ZU0
    · rw [h3] at HC3
      have hval := one_value (chkO_cer h3) hE.isB
      have hc3 := h3
      unfold chkO at hc3
      simp only [Bool.and_eq_true, decide_eq_true_eq] at hc3
      have han : n = nx := by have := hc3.1.1.1.1.1.1.1; omega
      have hao := fnF_ok hc3.1.1.1.1.1.1.2
      subst han
      obtain ⟨e1, hx, hfx⟩ := HX x1 x2 rfl
      have e1 := e1.symm
      subst e1
      have HX1 := Lib.hid hx
      have HFx := Lib.hid hfx
      have HB1 := Lib.hid K.1
      have HVal := Lib.hid hval
      clear HX hE hlx h3 hc3 hval hx hfx
      dsimp only [lpC1]
      have HW6 := Lib.hid (Below.refl W.heap.size W)
      obtain ⟨W6, hW6⟩ : ∃ W6, W6 = W := ⟨_, rfl⟩
      rw [← hW6] at HX1 HB1 HW6
      have K9 : St W6 [] [] W := by rw [hW6]; exact St.start W
      have HC0 := Lib.hid (show ∀ V, Below W6.heap.size W6 V → V.cell? ⟨b0, 0, none⟩ = some (.slice A n cap) ∧ V.cell? ⟨b0, 1, none⟩ = some (.slice A' m cap') from fun V h => by
        have hB := (K.blk (b := b0) (cs := #[.slice A n cap, .slice A' m cap']) (t := 58) ZMB)
        rw [← hW6] at hB
        exact ⟨(h.cell (p := ⟨b0, 0, none⟩) hB.lt).trans (hB.cell (j := 0) rfl), (h.cell (p := ⟨b0, 1, none⟩) hB.lt).trans (hB.cell (j := 1) rfl)⟩)
      clear hbB hW6
      replace K := K9
      clear K9 c0 c1
      obtain ⟨c0, c1⟩ := HC0.out _ K.1
      go_upto_region 11 with (go_at_call 40; (first | ((with_reducible show Calls _ _ #[_, .slice X n cx, .slice Y ny cy, _] _ _); refine (HC3.out _ (HB1.out.trans (K.1.mono HB1.out.size))).mono ?_) | ((with_reducible show Calls _ _ #[_, .slice X n cx, _, _] _ _); refine (HC2.out _ (HB1.out.trans (K.1.mono HB1.out.size))).mono ?_) | refine (HC1.out _ (HB1.out.trans (K.1.mono HB1.out.size))).mono ?_); rintro e W ⟨rfl, hb1⟩; replace K := K.keep hb1; clear c0 c1 hb1; obtain ⟨c0, c1⟩ := HC0.out _ K.1)
      have HBe := Lib.hid HB1.out
      have HLe := Lib.hid (show smQ (fun i => fvR l i * fvR a i) n = smQ (fun i => fvR l i * fvR (ofF n fun i => fvQ (x1 i)) i) n from by
        rw [smQ_congr (f := fun i => fvR l i * fvR (ofF n fun i => fvQ (x1 i)) i) (g := fun j => fvR l j * x1 j) (fun i hi => by rw [fvR_of1 hi, fvQ_rat])]
        exact HVal.out)
      go_wp2_with fail
      refine (sum9_any A X1 n cap g1 l (ofF n fun i => fvQ (x1 i)) _ (HGo.out _ (HB1.out.trans (K.1.mono HB1.out.size))) (HX1.out.up fE_lasts K.1) (by omega) HOk.out (ofF_all1 fun i hi => fvQ_ok (HFx.out i hi))).mono ?_
      rintro e W11 ⟨z1, o1, rfl, -, hz1, ⟨ra, rb⟩, ⟨fa, fb⟩, hb11⟩
      have hz1 := Lib.hid hz1
      replace K := K.retF hb11 ra rb fa fb
      clear c0 c1 ra rb fa fb hb11
      obtain ⟨c0, c1⟩ := HC0.out _ K.1
      go_wp2_with (first
        | (apply K.alloc; rfl; rfl; exact frac_zero; clear K c0 c1; intro W b8 K; obtain ⟨c0, c1⟩ := HC0.out _ K.1)
        | (apply K.storeA; rfl; rfl; rfl; rfl; rfl; (exact ZUP); exact frac_size; rfl; rfl; rfl; clear K c0 c1; intro W K; obtain ⟨c0, c1⟩ := HC0.out _ K.1))
      refine (sum9_any A X n cap cx l a W (HGo.out W (HB1.out.trans (K.1.mono HB1.out.size))) (HXo.out W (HB1.out.trans (K.1.mono HB1.out.size))) (by omega) HOk.out hao).mono ?_
      rintro e W12 ⟨z2, o2, rfl, -, hz2, ⟨ra, rb⟩, ⟨fa, fb⟩, hb12⟩
      have hz2 := Lib.hid hz2
      replace K := K.retF hb12 ra rb fa fb
      clear c0 c1 ra rb fa fb hb12
      cases o1
      · exact ZU4
      · cases o2
        · exact ZU4
        · have HZ1 := Lib.hid (hz1.out (by simp))
          have HZ2 := Lib.hid (hz2.out (by simp))
          rw [HLe.out] at HZ2
          go_upto_region 13 with (first
            | (apply K.alloc; rfl; rfl; exact frac_zero; clear K; intro W b9 K)
            | (apply K.storeA; rfl; rfl; rfl; rfl; rfl; (exact ZUP); exact frac_size; rfl; rfl; rfl; clear K; intro W K))
          have hBb8 := K.blk (b := b8) (cs := #[.int .i64 z1.s, .slice z1.A z1.n z1.c, .int .i64 z1.t, .slice z1.B z1.m z1.d]) (t := 40) ZMB
          have e0b8 := hBb8.cell (j := 0) rfl
          have e1b8 := hBb8.cell (j := 1) rfl
          have e2b8 := hBb8.cell (j := 2) rfl
          have e3b8 := hBb8.cell (j := 3) rfl
          clear hBb8
          have hBb9 := K.blk (b := b9) (cs := #[.int .i64 z2.s, .slice z2.A z2.n z2.c, .int .i64 z2.t, .slice z2.B z2.m z2.d]) (t := 40) ZMB
          have e0b9 := hBb9.cell (j := 0) rfl
          have e1b9 := hBb9.cell (j := 1) rfl
          have e2b9 := hBb9.cell (j := 2) rfl
          have e3b9 := hBb9.cell (j := 3) rfl
          clear hBb9
          go_wp2_with ((go_at_call 25; refine (callSameR K HZ1.out HZ2.out ZMB ZMB ZMB ZMB).mono ?_; rintro e W ⟨rfl, K2⟩; replace K := K2; clear K2))
          go_ret
          exact ⟨rfl, HBe.out.trans (K.1.mono HBe.out.size)⟩
end Go.Proofs.Ytdlcglndhhndpaa
namespace Go.Proofs.Ytdlcglndhhndpaa
open Go.ChangeShapes Go.WideShapes Go.ChangeAt Go.RowKit Go.Deep
theorem ZU10 {p : Prop} (h : p := by
  first
    | (intro fuel cs y h1 h2
       obtain ⟨a, x, b, _⟩ := h fuel cs y h1 h2
       exact ⟨a, x, b, trivial⟩)
    | fail) : p := h
theorem Rd.mapC {α β : Type} {sz : Nat} {R : Enc α} {S : Enc β} {w : World} {B : Nat} {A : Option Addr} {n cap : Nat} {l : List α} (f : α → β) (h : Rd sz R w B A n cap l) (hc : ∀ x cs, cs.length = sz → R w B x cs → S w B (f x) cs) : Rd sz S w B A n cap (l.map f) := by
  refine ⟨by rw [List.length_map]; exact h.1, h.2.1, h.2.2.1, fun hn => ?_⟩
  obtain ⟨b, off, rfl, hb, hk⟩ := h.2.2.2 hn
  refine ⟨b, off, rfl, hb, fun k hk' => ?_⟩
  have hl : k < l.length := by simpa using hk'
  obtain ⟨cs, hr, hl2, hj⟩ := hk k hl
  refine ⟨cs, ?_, hl2, hj⟩
  rw [List.getElem_map]
  exact hc _ _ hl2 hr
section
variable {H : Type} {enc : TypeId × Value → H} {w : World}
set_option maxRecDepth 100000 in
theorem op_bigc : Opens enc Try.prog w 38 2 (prE 1 (flat fun x => [.int .i64 x]) (slE 1 (flat fun x => [.int .i64 x]))) (fun _ : Int × List Int => True) := by
  have h := opens_struct (enc := enc) (w := w) Try.underlying38 (sz := 2) (by kernel_rfl)
    (opens_fields (s := 1) (s' := 1) (opens_int Try.underlying3) rfl (by kernel_rfl) (opens_field (opens_slice (opens_int Try.underlying3) Try.underlying36 (by kernel_rfl) (by omega) (by decide +kernel)) rfl (by kernel_rfl)))
  exact ZU10
set_option maxRecDepth 100000 in
theorem op_fracc : Opens enc Try.prog w 40 4 (prE 2 (prE 1 (flat fun x => [.int .i64 x]) (slE 1 (flat fun x => [.int .i64 x]))) (prE 1 (flat fun x => [.int .i64 x]) (slE 1 (flat fun x => [.int .i64 x])))) (fun _ : (Int × List Int) × (Int × List Int) => True) := by
  have h := opens_struct (enc := enc) (w := w) Try.underlying40 (sz := 4) (by kernel_rfl)
    (opens_fields (s := 2) (s' := 2) op_bigc rfl (by kernel_rfl) (opens_field op_bigc rfl (by kernel_rfl)))
  exact ZU10
set_option maxRecDepth 100000 in
theorem op_fracsc : Opens enc Try.prog w 23 1 (slE 4 (prE 2 (prE 1 (flat fun x => [.int .i64 x]) (slE 1 (flat fun x => [.int .i64 x]))) (prE 1 (flat fun x => [.int .i64 x]) (slE 1 (flat fun x => [.int .i64 x]))))) (fun l => ∀ x ∈ l, True) :=
  opens_slice op_fracc Try.underlying23 (by kernel_rfl) (by omega) (by decide +kernel)
theorem bgc_cells {W : World} {B : Nat} {x : Int × List Int} {cs : List Value} (h : prE 1 (flat fun x => [.int .i64 x]) (slE 1 (flat fun x => [.int .i64 x])) W B x cs) : ∃ A n cap, cs = [.int .i64 x.1, .slice A n cap] ∧ RdI W B A n cap x.2 := by
  obtain ⟨h1, A, n, cap, h2, h3⟩ := h
  refine ⟨A, n, cap, ?_, h3⟩
  have h1 : cs.take 1 = [.int .i64 x.1] := h1
  rw [← List.take_append_drop 1 cs, h1, h2]
  rfl
theorem fv_cells {W : World} {B : Nat} (x : (Int × List Int) × (Int × List Int)) (cs : List Value) (hl : cs.length = 4) (h : prE 2 (prE 1 (flat fun x => [.int .i64 x]) (slE 1 (flat fun x => [.int .i64 x]))) (prE 1 (flat fun x => [.int .i64 x]) (slE 1 (flat fun x => [.int .i64 x]))) W B x cs) : fE W B ⟨x.1.1, x.1.2, x.2.1, x.2.2⟩ cs := by
  obtain ⟨h1, h2⟩ := h
  obtain ⟨A, n, cap, e1, r1⟩ := bgc_cells h1
  obtain ⟨A', n', cap', e2, r2⟩ := bgc_cells h2
  refine ⟨A, n, cap, A', n', cap', ?_, r1, r2⟩
  rw [← List.take_append_drop 2 cs, e1, e2]
  rfl
variable {r : Reach} {b0 : Nat} {v : Value} {d : DataW H} {p : List MemPlace}
set_option maxRecDepth 100000 in
theorem arg_fracs (hv : Value.okWide Try.prog w r b0 23 v) (hd : DataW.Trod enc Try.prog w 0 (fun _ => true) true 23 v d p) (hw : ∀ n ∈ d.weights Try.prog 23, n ≤ reachBytes) :
    ∃ A n cap l, v = .slice A n cap ∧ RdF w w.heap.size A n cap l := by
  obtain ⟨A, n, cap, l, rfl, hr, h⟩ := opens_arg_slice op_fracsc Try.underlying23 hv hd hw
  exact ⟨A, n, cap, _, rfl, hr.mapC _ fv_cells⟩
end
end Go.Proofs.Ytdlcglndhhndpaa
namespace Go.Proofs.Ytdlcglndhhndpaa
open Go.ChangeShapes Go.WideShapes Go.ChangeAt Go.RowKit Go.Deep
section
variable {H : Type} {enc : TypeId × Value → H} {w : World}
abbrev bgcE : Enc (Int × List Int) := prE 1 (flat fun x => [.int .i64 x]) (slE 1 (flat fun x => [.int .i64 x]))
abbrev fcE : Enc ((Int × List Int) × (Int × List Int)) := prE 2 bgcE bgcE
set_option maxRecDepth 100000 in
theorem op_rowc : Opens enc Try.prog w 45 5 (prE 1 (slE 4 fcE) fcE) (fun _ : List ((Int × List Int) × (Int × List Int)) × ((Int × List Int) × (Int × List Int)) => True) := by
  have h := opens_struct (enc := enc) (w := w) Try.underlying45 (sz := 5) (by kernel_rfl)
    (opens_fields (s := 1) (s' := 4) op_fracsc rfl (by kernel_rfl) (opens_field op_fracc rfl (by kernel_rfl)))
  exact ZU10
set_option maxRecDepth 100000 in
theorem op_rowsc : Opens enc Try.prog w 22 1 (slE 5 (prE 1 (slE 4 fcE) fcE)) (fun l => ∀ x ∈ l, True) :=
  opens_slice op_rowc Try.underlying22 (by kernel_rfl) (by omega) (by decide +kernel)
def fvT (x : (Int × List Int) × (Int × List Int)) : Fv := ⟨x.1.1, x.1.2, x.2.1, x.2.2⟩
theorem rv_cells {W : World} {B : Nat} (x : List ((Int × List Int) × (Int × List Int)) × ((Int × List Int) × (Int × List Int))) (cs : List Value) (hl : cs.length = 5) (h : prE 1 (slE 4 fcE) fcE W B x cs) : rE W B ⟨x.1.map fvT, fvT x.2⟩ cs := by
  obtain ⟨h1, h2⟩ := h
  obtain ⟨A, n, cap, e1, r1⟩ := h1
  have h3 := fv_cells x.2 (cs.drop 1) (by rw [List.length_drop, hl]) h2
  refine ⟨A, n, cap, cs.drop 1, ?_, r1.mapC _ fv_cells, h3⟩
  rw [← List.take_append_drop 1 cs, e1]
  rfl
variable {r : Reach} {b0 : Nat} {v : Value} {d : DataW H} {p : List MemPlace}
end
end Go.Proofs.Ytdlcglndhhndpaa
namespace Go.Proofs.Ytdlcglndhhndpaa
open Go.ChangeShapes Go.WideShapes Go.ChangeAt Go.RowKit Go.Deep
section
variable {H : Type} {enc : TypeId × Value → H} {w : World}
set_option maxRecDepth 100000 in
theorem op_progc : Opens enc Try.prog w 58 2 (prE 1 (slE 4 fcE) (slE 5 (prE 1 (slE 4 fcE) fcE))) (fun _ : List ((Int × List Int) × (Int × List Int)) × List (List ((Int × List Int) × (Int × List Int)) × ((Int × List Int) × (Int × List Int))) => True) := by
  have h := opens_struct (enc := enc) (w := w) Try.underlying58 (sz := 2) (by kernel_rfl)
    (opens_fields (s := 1) (s' := 1) op_fracsc rfl (by kernel_rfl) (opens_field op_rowsc rfl (by kernel_rfl)))
  exact ZU10
variable {r : Reach} {b0 : Nat} {v : Value} {d : DataW H} {p : List MemPlace}
set_option maxRecDepth 100000 in
theorem arg_prog (hv : Value.okWide Try.prog w r b0 58 v) (hd : DataW.Trod enc Try.prog w 0 (fun _ => true) true 58 v d p) (hw : ∀ n ∈ d.weights Try.prog 58, n ≤ reachBytes) :
    ∃ A n cap l A' m cap' ls, v = .agg #[.slice A n cap, .slice A' m cap'] ∧ RdF w w.heap.size A n cap l ∧ RdR w w.heap.size A' m cap' ls := by
  obtain ⟨cs, x, rfl, hr, _⟩ := opens_arg_struct op_progc Try.underlying58 hv hd hw
  obtain ⟨h1, h2⟩ := hr
  obtain ⟨A, n, cap, e1, r1⟩ := h1
  obtain ⟨A', m, cap', e2, r2⟩ := h2
  refine ⟨A, n, cap, _, A', m, cap', _, ?_, r1.mapC _ fv_cells, r2.mapC _ rv_cells⟩
  have e : cs.toList = [.slice A n cap, .slice A' m cap'] := by
    rw [← List.take_append_drop 1 cs.toList, e1, e2]
    rfl
  cases cs
  simp only at e
  subst e
  rfl
end
end Go.Proofs.Ytdlcglndhhndpaa
