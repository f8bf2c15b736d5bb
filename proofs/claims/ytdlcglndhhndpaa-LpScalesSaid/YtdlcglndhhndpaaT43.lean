/- Laws and walks laid together; the conditions stand in each theorem. -/
import Derived.Test.YtdlcglndhhndpaaT40
import Derived.Test.YtdlcglndhhndpaaT41
import Derived.Test.YtdlcglndhhndpaaT42
import Derived.Test.YtdlcglndhhndpaaT33
import Derived.Test.YtdlcglndhhndpaaT36
import Derived.Test.YtdlcglndhhndpaaT07
import Derived.Test.YtdlcglndhhndpaaT09
set_option linter.unusedSimpArgs false
set_option linter.unusedVariables false
namespace Go.Proofs.Ytdlcglndhhndpaa
open Go.RowKit
theorem ZQ20 {p : Prop} (h : p := by
  first
    | (have r := K.rawS
       go_wp2_with (first
         | (apply K.alloc; rfl; rfl; exact frac_zero; clear K r; intro W b8 K; have r := K.rawS)
         | (apply K.storeA; rfl; rfl; rfl; rfl; rfl; (repeat (first | with_reducible apply Upd.head | with_reducible apply Upd.tail)); exact frac_size; rfl; rfl; rfl; clear K r; intro W K; have r := K.rawS))
       go_ret
       exact ⟨rfl, hb7'.trans (K.1.mono hb7'.size)⟩)
    | fail) : p := h
theorem ZQ26 {p : Prop} (h : p := by
  first
    | (dsimp only [lpC]
       go_wp2_with fail
       go_ret
       exact ⟨rfl, hb0.trans (K.1.mono hb0.size)⟩)
    | fail) : p := h
theorem fits_negF {q : Rat} (h : fitsF q = true) : fitsF (-q) = true := by
  unfold fitsF at h ⊢
  rw [Bool.and_eq_true] at h
  rw [Rat.neg_num, Rat.neg_den, fits_neg h.1, h.2]
  rfl
theorem ofF_allP {α : Type} {p : α → Bool} {n : Nat} {f : Nat → α} (h : ∀ i, i < n → p (f i) = true) : (ofF n f).all p = true := List.all_eq_true.2 fun x hx => by
  exact ZQ65
def trG (ls : List Rv) (m : Nat) : List Fv := ofF m fun i => fvQ (- rwB2 ls false i)
def trR (l : List Fv) (ls : List Rv) (m n : Nat) : List Rv := ofF n fun j => ⟨ofF m fun i => fvQ (- rwA2 ls i j), fvQ (- fvR l j)⟩
theorem turn_ok {l : List Fv} {ls : List Rv} {n m : Nat} (hl : l.length = n) (hr : ls.length = m) (hok : (l.all Fv.ok && ls.all (rowF n)) = true) : ((trG ls m).all Fv.ok && (trR l ls m n).all (rowF m)) = true := by
  rw [Bool.and_eq_true] at hok
  have hrow : ∀ i (hi : i < ls.length), (ls[i]).a.length = n ∧ (ls[i]).b.ok = true ∧ (ls[i]).a.all Fv.ok = true := fun i hi => by
    have h := List.all_eq_true.1 hok.2 _ (List.getElem_mem hi)
    unfold rowF at h
    rw [Bool.and_eq_true, Bool.and_eq_true, decide_eq_true_eq] at h
    exact ⟨by omega, h.1.2, h.2⟩
  rw [Bool.and_eq_true]
  refine ⟨ofF_allP fun i hi => fvQ_ok (fits_negF ?_), ofF_allP fun j hj => ?_⟩
  · have hi2 : i < ls.length := by omega
    unfold rwB2
    rw [if_neg (by decide), List.getElem?_eq_getElem hi2, Option.map_some, Option.getD_some]
    exact (fv_std (hrow i hi2).2.1).2
  · unfold rowF
    rw [Bool.and_eq_true, Bool.and_eq_true, decide_eq_true_eq]
    refine ⟨⟨by rw [ofF_len], fvQ_ok (fits_negF ?_)⟩, ofF_allP fun i hi => fvQ_ok (fits_negF ?_)⟩
    · have hj2 : j < l.length := by omega
      unfold fvR
      rw [List.getElem?_eq_getElem hj2, Option.map_some, Option.getD_some]
      exact (fv_std (List.all_eq_true.1 hok.1 _ (List.getElem_mem hj2))).2
    · have hi2 : i < ls.length := by omega
      have hj2 : j < (ls[i]).a.length := by rw [(hrow i hi2).1]; exact hj
      unfold rwA2
      rw [List.getElem?_eq_getElem hi2, Option.bind_some, List.getElem?_eq_getElem hj2, Option.map_some, Option.getD_some]
      exact (fv_std (List.all_eq_true.1 (hrow i hi2).2.2 _ (List.getElem_mem hj2))).2
theorem turn_cer {l : List Fv} {ls : List Rv} {n m : Nat} {E : LpEnd} (h : LpSays n m (rwA2 (trR l ls m n)) (rwB2 (trR l ls m n) false) (fvR (trG ls m)) E) : CerE n m (fun k i => - rwA2 ls i k) (fun k => - fvR l k) (fun i => - rwB2 ls false i) E :=
  h.cer.congr (fun k i hk hi => by
    unfold rwA2 trR
    rw [ofF_get hk, Option.bind_some, ofF_get hi, Option.map_some, Option.getD_some, fvQ_rat]
    rfl) (fun k hk => by
    unfold rwB2 trR
    rw [if_neg (by decide), ofF_get hk, Option.map_some, Option.getD_some, fvQ_rat]) (fun i hi => by
    unfold trG
    rw [fvR_ofF hi, fvQ_rat])
theorem isQ.sign0 {x : Rw} (h : isQ x 0) : x.s = 0 := by
  have h1 := h.neg_iff
  have h2 := h.pos_iff
  have h3 : decide ((0 : Rat) < 0) = false := by decide
  rw [h3] at h1 h2
  have h4 := of_decide_eq_false h1
  have h5 := of_decide_eq_false h2
  omega
theorem callAddT {w0 W : World} {L : List Blk} {D : List Hl} {Y Z : Rw} {f q : Rat} {o1 o2 : Bool} (K : St w0 L D W) (hY : o1 = true → isQ Y f) (hZ : o2 = true → isQ Z q) (h0 : f + q = 0) (m1 : (⟨rdP Y.A Y.n Y.c Y.l, rdS Y.A Y.n⟩ : Hl) ∈ D) (m2 : (⟨rdP Y.B Y.m Y.d Y.k, rdS Y.B Y.m⟩ : Hl) ∈ D) (m3 : (⟨rdP Z.A Z.n Z.c Z.l, rdS Z.A Z.n⟩ : Hl) ∈ D) (m4 : (⟨rdP Z.B Z.m Z.d Z.k, rdS Z.B Z.m⟩ : Hl) ∈ D) :
    Calls Try.prog 24 #[.agg #[.int .i64 Y.s, .slice Y.A Y.n Y.c, .int .i64 Y.t, .slice Y.B Y.m Y.d], .agg #[.int .i64 Z.s, .slice Z.A Z.n Z.c, .int .i64 Z.t, .slice Z.B Z.m Z.d]] W (FrT w0 L D fun y er => o1 = true → o2 = true → er = 0 → y.s = 0) := by
  by_cases hb : o1 = true ∧ o2 = true
  · exact (callAdd K (hY hb.1) (hZ hb.2) m1 m2 m3 m4).mono fun e W' ⟨y, er, he, hg, k⟩ => ⟨y, er, he, Lib.hid fun _ _ h => by
      have := hg.out.1 h
      rw [h0] at this
      exact this.sign0, k⟩
  · have h := fAdd_any Y.s Y.t Z.s Z.t Y.A Y.B Z.A Z.B Y.n Y.c Y.m Y.d Z.n Z.c Z.m Z.d Y.l Y.k Z.l Z.k W (K.rd m1) (K.rd m2) (K.rd m3) (K.rd m4)
    exact h.mono fun e W' ⟨s31, A31, n31, c31, l31, t31, B31, m31, d31, k31, he, ⟨hra, hrb⟩, hop, ⟨hfa, hfb⟩, hbb⟩ => ⟨⟨s31, A31, n31, c31, l31, t31, B31, m31, d31, k31⟩, _, he, Lib.hid fun h1 h2 => absurd ⟨h1, h2⟩ hb, K.retF hbb hra hrb hfa hfb⟩
def lpC : LpEnd → Int
  | .full => 6
  | .none _ => 4
  | .ray _ => 3
  | .best _ _ => 0
theorem solO.form {w' : World} {m n : Nat} {e : Ending} {E : LpEnd} (h : solO w' m n e E) : ∃ A1 n1 c1 A2 n2 c2, e = .returned (.tuple #[.slice A1 n1 c1, .slice A2 n2 c2, .int .i64 (lpC E)]) ∧ ∀ x y, E = .best x y → n1 = n ∧ RdF w' w'.heap.size A1 n c1 (ofF n fun i => fvQ (x i)) ∧ ∀ i, i < n → fitsF (x i) = true := by
  cases E with
  | full => exact ⟨_, _, _, _, _, _, h, fun x y e => by cases e⟩
  | none y => obtain ⟨A, c, he, -⟩ := h; exact ⟨_, _, _, _, _, _, he, fun x y e => by cases e⟩
  | ray x => obtain ⟨A, c, he, -⟩ := h; exact ⟨_, _, _, _, _, _, he, fun x y e => by cases e⟩
  | best x y => obtain ⟨A, c, A', c', he, hr, -, hf, -⟩ := h; exact ⟨_, _, _, _, _, _, he, fun x2 y2 e => by cases e; exact ⟨rfl, hr, hf⟩⟩
set_option maxRecDepth 100000 in
set_option maxHeartbeats 8000000 in
theorem turns9_any (A A' : Option Addr) (n cap m cap' : Nat) (l : List Fv) (ls : List Rv) (w : World) (hl : RdF w w.heap.size A n cap l) (hr : RdR w w.heap.size A' m cap' ls) :
    Calls Try.prog 7 #[.agg #[.slice A n cap, .slice A' m cap']] w fun e w' => e = .returned (.bool true) ∧ Below w.heap.size w w' := by
  have hcap := hl.caps
  have hcap' := hr.caps
  have HFew := Lib.hid (fun W (h : Below w.heap.size w W) => few9_any A A' n cap m cap' l ls W (hl.up fE_lasts h) (hr.up rE_lasts h))
  have HSm := Lib.hid alive9_any
  have K := St.start w
  cases hf : fewP l ls
  · rw [hf] at HFew
    clear hl hr hf
    go_enter Try.func7, Try.ntmps7
    go_wp2_with (first
      | (apply K.box; rfl; rfl; rfl; clear K; intro W b0 K; have c0 := (K.blk (b := b0) (cs := #[.slice A n cap, .slice A' m cap']) (t := 58) ZMB).cell (j := 0) rfl; have c1 := (K.blk (b := b0) (cs := #[.slice A n cap, .slice A' m cap']) (t := 58) ZMB).cell (j := 1) rfl)
      | (go_at_call 28; refine (HSm.out _).mono ?_; rintro e W1 ⟨rfl, hb1⟩; replace K := K.keep hb1; clear c0 c1 hb1; have c0 := (K.blk (b := b0) (cs := #[.slice A n cap, .slice A' m cap']) (t := 58) ZMB).cell (j := 0) rfl; have c1 := (K.blk (b := b0) (cs := #[.slice A n cap, .slice A' m cap']) (t := 58) ZMB).cell (j := 1) rfl)
      | (go_at_call 29; refine (HFew.out _ K.1).mono ?_; rintro e W2 ⟨rfl, hb2⟩; replace K := K.keep hb2; clear c0 c1 hb2; have c0 := (K.blk (b := b0) (cs := #[.slice A n cap, .slice A' m cap']) (t := 58) ZMB).cell (j := 0) rfl; have c1 := (K.blk (b := b0) (cs := #[.slice A n cap, .slice A' m cap']) (t := 58) ZMB).cell (j := 1) rfl))
    go_ret
    exact ⟨rfl, K.1⟩
  · rw [hf] at HFew
    have hfew := hf
    unfold fewP few6L at hfew
    simp only [Bool.and_eq_true, decide_eq_true_eq] at hfew
    have hn : n ≤ 20 := by have := hl.len; omega
    have hm : m ≤ 40 := by have := hr.len; omega
    have HRt := Lib.hid (fun W (h : Below w.heap.size w W) => pright_any A A' n cap m cap' l ls W (hl.up fE_lasts h) (hr.up rE_lasts h) hn hm)
    cases hok : (l.all Fv.ok && ls.all (rowF n))
    · rw [hok] at HRt
      clear hl hr hf hfew hok
      go_enter Try.func7, Try.ntmps7
      go_wp2_with (first
        | (apply K.box; rfl; rfl; rfl; clear K; intro W b0 K; have c0 := (K.blk (b := b0) (cs := #[.slice A n cap, .slice A' m cap']) (t := 58) ZMB).cell (j := 0) rfl; have c1 := (K.blk (b := b0) (cs := #[.slice A n cap, .slice A' m cap']) (t := 58) ZMB).cell (j := 1) rfl)
        | (go_at_call 28; refine (HSm.out _).mono ?_; rintro e W1 ⟨rfl, hb1⟩; replace K := K.keep hb1; clear c0 c1 hb1; have c0 := (K.blk (b := b0) (cs := #[.slice A n cap, .slice A' m cap']) (t := 58) ZMB).cell (j := 0) rfl; have c1 := (K.blk (b := b0) (cs := #[.slice A n cap, .slice A' m cap']) (t := 58) ZMB).cell (j := 1) rfl)
        | (go_at_call 29; refine (HFew.out _ K.1).mono ?_; rintro e W2 ⟨rfl, hb2⟩; replace K := K.keep hb2; clear c0 c1 hb2; have c0 := (K.blk (b := b0) (cs := #[.slice A n cap, .slice A' m cap']) (t := 58) ZMB).cell (j := 0) rfl; have c1 := (K.blk (b := b0) (cs := #[.slice A n cap, .slice A' m cap']) (t := 58) ZMB).cell (j := 1) rfl)
        | (go_at_call 30; refine (HRt.out _ K.1).mono ?_; rintro e W2 ⟨rfl, hb2⟩; replace K := K.keep hb2; clear c0 c1 hb2; have c0 := (K.blk (b := b0) (cs := #[.slice A n cap, .slice A' m cap']) (t := 58) ZMB).cell (j := 0) rfl; have c1 := (K.blk (b := b0) (cs := #[.slice A n cap, .slice A' m cap']) (t := 58) ZMB).cell (j := 1) rfl))
      go_ret
      exact ⟨rfl, K.1⟩
    · rw [hok] at HRt
      have HTu := Lib.hid (fun W (h : Below w.heap.size w W) => turned9_any A A' n cap m cap' l ls W (hl.up fE_lasts h) (hr.up rE_lasts h) hn hm hok)
      have HGo := Lib.hid (fun W (h : Below w.heap.size w W) => hl.up fE_lasts h)
      have HSo := Lib.hid (fun W (h : Below w.heap.size w W) => solve_any A A' n cap m cap' l ls W (hl.up fE_lasts h) (hr.up rE_lasts h) hn hm hok)
      have hlen := hl.len
      have hlenr := hr.len
      have hm2 : m ≤ 20 := by omega
      have hn2 : n ≤ 40 := by omega
      clear hl hr hf hfew
      go_enter Try.func7, Try.ntmps7
      go_wp2_with (first
        | (apply K.box; rfl; rfl; rfl; clear K; intro W b0 K; have c0 := (K.blk (b := b0) (cs := #[.slice A n cap, .slice A' m cap']) (t := 58) ZMB).cell (j := 0) rfl; have c1 := (K.blk (b := b0) (cs := #[.slice A n cap, .slice A' m cap']) (t := 58) ZMB).cell (j := 1) rfl)
        | (go_at_call 28; refine (HSm.out _).mono ?_; rintro e W1 ⟨rfl, hb1⟩; replace K := K.keep hb1; clear c0 c1 hb1; have c0 := (K.blk (b := b0) (cs := #[.slice A n cap, .slice A' m cap']) (t := 58) ZMB).cell (j := 0) rfl; have c1 := (K.blk (b := b0) (cs := #[.slice A n cap, .slice A' m cap']) (t := 58) ZMB).cell (j := 1) rfl)
        | (go_at_call 29; refine (HFew.out _ K.1).mono ?_; rintro e W2 ⟨rfl, hb2⟩; replace K := K.keep hb2; clear c0 c1 hb2; have c0 := (K.blk (b := b0) (cs := #[.slice A n cap, .slice A' m cap']) (t := 58) ZMB).cell (j := 0) rfl; have c1 := (K.blk (b := b0) (cs := #[.slice A n cap, .slice A' m cap']) (t := 58) ZMB).cell (j := 1) rfl)
        | (go_at_call 30; refine (HRt.out _ K.1).mono ?_; rintro e W2 ⟨rfl, hb2⟩; replace K := K.keep hb2; clear c0 c1 hb2; have c0 := (K.blk (b := b0) (cs := #[.slice A n cap, .slice A' m cap']) (t := 58) ZMB).cell (j := 0) rfl; have c1 := (K.blk (b := b0) (cs := #[.slice A n cap, .slice A' m cap']) (t := 58) ZMB).cell (j := 1) rfl))
      refine (HTu.out _ K.1).mono ?_
      rintro e W5 ⟨A2, c2, A3, c3, rfl, hq1, hq2, hb5⟩
      replace K := K.keep hb5
      clear c0 c1
      have hcap2 := hq1.caps
      have hcap3 := hq2.caps
      have c0 := (K.blk (b := b0) (cs := #[.slice A n cap, .slice A' m cap']) (t := 58) ZMB).cell (j := 0) rfl; have c1 := (K.blk (b := b0) (cs := #[.slice A n cap, .slice A' m cap']) (t := 58) ZMB).cell (j := 1) rfl
      have hB0 : b0 < W5.heap.size := (K.2.1 _ List.mem_cons_self).2.lt
      have hb0 := K.1
      have HC0 := Lib.hid (fun W (h : Below W5.heap.size W5 W) => (show W.cell? ⟨b0, 0, none⟩ = some (.slice A n cap) ∧ W.cell? ⟨b0, 1, none⟩ = some (.slice A' m cap') from ⟨(h.cell (p := ⟨b0, 0, none⟩) hB0).trans c0, (h.cell (p := ⟨b0, 1, none⟩) hB0).trans c1⟩))
      have HSp := Lib.hid (fun W (h : Below W5.heap.size W5 W) => HSo.out W (hb0.trans (h.mono hb0.size)))
      have HSq := Lib.hid (fun W (h : Below W5.heap.size W5 W) => solve_any A2 A3 m c2 n c3 (trG ls m) (trR l ls m n) W (hq1.up fE_lasts h) (hq2.up rE_lasts h) hm2 hn2 (turn_ok hlen hlenr hok))
      clear K c0 c1 hb5 HTu HSo HRt HFew HSm
      have K := St.start W5
      obtain ⟨c0, c1⟩ := HC0.out _ K.1
      go_wp2_with (first
        | (apply K.box; rfl; rfl; rfl; clear K c0 c1; intro W b1 K; obtain ⟨c0, c1⟩ := HC0.out _ K.1)
        | (apply K.alloc; rfl; rfl; exact prog_zero; clear K c0 c1; intro W b1 K; obtain ⟨c0, c1⟩ := HC0.out _ K.1)
        | (apply K.storeA; rfl; rfl; rfl; rfl; rfl; (repeat (first | with_reducible apply Upd.head | with_reducible apply Upd.tail)); exact prog_size; rfl; rfl; rfl; clear K c0 c1; intro W K; obtain ⟨c0, c1⟩ := HC0.out _ K.1; have d0 := (K.blk (b := b1) (cs := #[.slice A2 m c2, .slice A3 n c3]) (t := 58) ZMB).cell (j := 0) rfl; have d1 := (K.blk (b := b1) (cs := #[.slice A2 m c2, .slice A3 n c3]) (t := 58) ZMB).cell (j := 1) rfl))
      refine (HSp.out _ K.1).mono ?_
      rintro e W6 ⟨E, hE, hsol, hb6⟩
      obtain ⟨X1, k1, g1, X2, k2, g2, rfl, HX⟩ := hsol.form
      replace K := K.keep hb6
      clear c0 c1 d0 d1 hsol
      have HX := Lib.hid HX
      obtain ⟨c0, c1⟩ := HC0.out _ K.1
      have d0 := (K.blk (b := b1) (cs := #[.slice A2 m c2, .slice A3 n c3]) (t := 58) ZMB).cell (j := 0) rfl; have d1 := (K.blk (b := b1) (cs := #[.slice A2 m c2, .slice A3 n c3]) (t := 58) ZMB).cell (j := 1) rfl
      go_wp2_with fail
      refine (HSq.out _ K.1).mono ?_
      rintro e W7 ⟨E', hE', hsol, hb7⟩
      obtain ⟨Y1, i1, h1, Y2, i2, h2, rfl, HY⟩ := hsol.form
      replace K := K.keep hb7
      clear c0 c1 d0 d1 hsol
      have HY := Lib.hid HY
      obtain ⟨c0, c1⟩ := HC0.out _ K.1
      have d0 := (K.blk (b := b1) (cs := #[.slice A2 m c2, .slice A3 n c3]) (t := 58) ZMB).cell (j := 0) rfl; have d1 := (K.blk (b := b1) (cs := #[.slice A2 m c2, .slice A3 n c3]) (t := 58) ZMB).cell (j := 1) rfl
      have HE := Lib.hid hE.cer
      have HE' := Lib.hid (turn_cer hE')
      clear hE hE'
      cases E with
      | full =>
        cases E' with
        | full =>
          exact ZQ26
        | none z =>
          exact ZQ26
        | ray z =>
          exact ZQ26
        | best u v =>
          exact ZQ26
      | none y =>
        cases E' with
        | full =>
          exact ZQ26
        | none z =>
          exact ZQ26
        | ray z =>
          exact ZQ26
        | best u v => exact (show False from by cases turn_endsC HE.out HE'.out (fun e => by cases e) (fun e => by cases e)).elim
      | ray x =>
        cases E' with
        | full =>
          exact ZQ26
        | none z =>
          exact ZQ26
        | ray z => exact (show False from by cases turn_endsC HE.out HE'.out (fun e => by cases e) (fun e => by cases e)).elim
        | best u v => exact (show False from by cases turn_endsC HE.out HE'.out (fun e => by cases e) (fun e => by cases e)).elim
      | best x y =>
        cases E' with
        | full =>
          exact ZQ26
        | none z => exact (show False from by cases turn_endsC HE.out HE'.out (fun e => by cases e) (fun e => by cases e)).elim
        | ray z => exact (show False from by cases turn_endsC HE.out HE'.out (fun e => by cases e) (fun e => by cases e)).elim
        | best u v =>
          obtain ⟨e1, hx, hfx⟩ := HX.out x y rfl
          obtain ⟨e2, hu, hfu⟩ := HY.out u v rfl
          have e1 := e1.symm
          have e2 := e2.symm
          subst e1 e2
          have hb7' := hb0.trans (K.1.mono hb0.size)
          have hk7 := K.1
          have hB1 : b1 < W7.heap.size := (K.2.1 _ List.mem_cons_self).2.lt
          have HP := Lib.hid (fun W (h : Below W7.heap.size W7 W) => HGo.out W (hb7'.trans (h.mono hb7'.size)))
          have HQ := Lib.hid (fun W (h : Below W7.heap.size W7 W) => hq1.up fE_lasts (hk7.trans (h.mono hk7.size)))
          have HUx := Lib.hid (fun W (h : Below W7.heap.size W7 W) => hx.up fE_lasts (hb7.trans (h.mono hb7.size)))
          have HUu := Lib.hid (fun W (h : Below W7.heap.size W7 W) => hu.up fE_lasts h)
          have HC1 := Lib.hid (fun W (h : Below W7.heap.size W7 W) => (show W.cell? ⟨b1, 0, none⟩ = some (.slice A2 m c2) ∧ W.cell? ⟨b1, 1, none⟩ = some (.slice A3 n c3) from ⟨(h.cell (p := ⟨b1, 0, none⟩) hB1).trans d0, (h.cell (p := ⟨b1, 1, none⟩) hB1).trans d1⟩))
          have hcx := hx.caps
          have hcu := hu.caps
          have HV := Lib.hid (show smQ (fun i => fvR l i * fvR (ofF n fun i => fvQ (x i)) i) n + smQ (fun i => fvR (ofF m fun i => fvQ (-rwB2 ls false i)) i * fvR (ofF m fun i => fvQ (u i)) i) m = 0 from by
            have a1 : smQ (fun i => fvR l i * fvR (ofF n fun i => fvQ (x i)) i) n = smQ (fun j => fvR l j * x j) n := smQ_congr fun i hi => by rw [fvR_ofF hi, fvQ_rat]
            have a2 : smQ (fun i => fvR (ofF m fun i => fvQ (-rwB2 ls false i)) i * fvR (ofF m fun i => fvQ (u i)) i) m = smQ (fun i => (- rwB2 ls false i) * u i) m := smQ_congr fun i hi => by rw [fvR_ofF hi, fvR_ofF hi, fvQ_rat, fvQ_rat]
            rw [a1, a2]
            exact turn_valueC HE.out HE'.out)
          have HG1 := Lib.hid (Bool.and_eq_true .. ▸ turn_ok hlen hlenr hok : (trG ls m).all Fv.ok = true ∧ (trR l ls m n).all (rowF m) = true)
          have hokl : l.all Fv.ok = true := by rw [Bool.and_eq_true] at hok; exact hok.1
          clear HX HY hx hu hq1 hq2
          dsimp only [lpC]
          go_wp2_with fail
          refine (sum9_any A X1 n cap g1 l (ofF n fun i => fvQ (x i)) W7 (HP.out W7 (Below.refl _ _)) (HUx.out W7 (Below.refl _ _)) (by omega) hokl (ofF_allP fun i hi => fvQ_ok (hfx i hi))).mono ?_
          rintro e W8 ⟨z1, o1, rfl, -, hz1, ⟨ra, rb⟩, ⟨fa, fb⟩, hb8⟩
          have hz1 := Lib.hid hz1
          have K := (St.start W7).retF hb8 ra rb fa fb
          clear c0 c1 d0 d1 ra rb fa fb hb8
          obtain ⟨d0, d1⟩ := HC1.out _ K.1
          have r := trivial
          go_wp2_with (first
            | (apply K.alloc; rfl; rfl; exact frac_zero; clear K r d0 d1; intro W b8 K; have r := K.rawS; obtain ⟨d0, d1⟩ := HC1.out _ K.1)
            | (apply K.storeA; rfl; rfl; rfl; rfl; rfl; (repeat (first | with_reducible apply Upd.head | with_reducible apply Upd.tail)); exact frac_size; rfl; rfl; rfl; clear K r d0 d1; intro W K; have r := K.rawS; obtain ⟨d0, d1⟩ := HC1.out _ K.1))
          refine (sum9_any A2 Y1 m c2 h1 (ofF m fun i => fvQ (-rwB2 ls false i)) (ofF m fun i => fvQ (u i)) W (HQ.out W K.1) (HUu.out W K.1) (by omega) HG1.out.1 (ofF_allP fun i hi => fvQ_ok (hfu i hi))).mono ?_
          rintro e W9 ⟨z2, o2, rfl, -, hz2, ⟨ra, rb⟩, ⟨fa, fb⟩, hb9⟩
          have hz2 := Lib.hid hz2
          replace K := K.retF hb9 ra rb fa fb
          clear r d0 d1 ra rb fa fb hb9
          have r := K.rawS
          go_wp2_with (first
            | (apply K.alloc; rfl; rfl; exact frac_zero; clear K r; intro W b8 K; have r := K.rawS)
            | (apply K.storeA; rfl; rfl; rfl; rfl; rfl; (repeat (first | with_reducible apply Upd.head | with_reducible apply Upd.tail)); exact frac_size; rfl; rfl; rfl; clear K r; intro W K; have r := K.rawS))
          refine (callAddT K hz1.out hz2.out HV.out ZMB ZMB ZMB ZMB).mono ?_
          rintro e W10 ⟨y3, er, rfl, hg, k3⟩
          replace K := k3
          clear k3 r
          cases o1
          · exact ZQ20
          · cases o2
            · exact ZQ20
            · by_cases he : er = 0
              · subst he
                obtain ⟨s9, A9, n9, c9, l9, t9, B9, m9, d9, k9⟩ := y3
                have hs : s9 = 0 := hg.out rfl rfl rfl
                subst hs
                dsimp only at K
                clear hg
                exact ZQ20
              · have hx : (er != 0) = true := by simpa using he
                exact ZQ20
end Go.Proofs.Ytdlcglndhhndpaa
namespace Go.Proofs.Ytdlcglndhhndpaa
open Go.ChangeShapes Go.WideShapes Go.ChangeAt Go.RowKit Go.Deep
theorem ZQ54 {p : Prop} (h : p := by
  first
    | (intro fuel cs y h1 h2
       obtain ⟨a, x, b, _⟩ := h fuel cs y h1 h2
       exact ⟨a, x, b, trivial⟩)
    | fail) : p := h
theorem Rd.mapC {α β : Type} {sz : Nat} {R : Enc α} {S : Enc β} {w : World} {B : Nat} {A : Option Addr} {n cap : Nat} {l : List α} (f : α → β) (h : Rd sz R w B A n cap l) (hc : ∀ x cs, cs.length = sz → R w B x cs → S w B (f x) cs) : Rd sz S w B A n cap (l.map f) := by
  refine ⟨by rw [List.length_map]; exact h.1, h.2.1, h.2.2.1, fun hn => ?_⟩
  obtain ⟨b, off, rfl, hb, hk⟩ := h.2.2.2 hn
  refine ⟨b, off, rfl, hb, fun k hk' => ?_⟩
  have hl : k < l.length := by simpa using hk'
  obtain ⟨cs, hr, hl2, hj⟩ := hk k hl
  refine ⟨cs, ?_, hl2, hj⟩
  rw [List.getElem_map]
  exact hc _ _ hl2 hr
section
variable {H : Type} {enc : TypeId × Value → H} {w : World}
set_option maxRecDepth 100000 in
theorem op_bigc : Opens enc Try.prog w 38 2 (prE 1 (flat fun x => [.int .i64 x]) (slE 1 (flat fun x => [.int .i64 x]))) (fun _ : Int × List Int => True) := by
  have h := opens_struct (enc := enc) (w := w) Try.underlying38 (sz := 2) (by kernel_rfl)
    (opens_fields (s := 1) (s' := 1) (opens_int Try.underlying3) rfl (by kernel_rfl) (opens_field (opens_slice (opens_int Try.underlying3) Try.underlying36 (by kernel_rfl) (by omega) (by decide +kernel)) rfl (by kernel_rfl)))
  exact ZQ54
set_option maxRecDepth 100000 in
theorem op_fracc : Opens enc Try.prog w 40 4 (prE 2 (prE 1 (flat fun x => [.int .i64 x]) (slE 1 (flat fun x => [.int .i64 x]))) (prE 1 (flat fun x => [.int .i64 x]) (slE 1 (flat fun x => [.int .i64 x])))) (fun _ : (Int × List Int) × (Int × List Int) => True) := by
  have h := opens_struct (enc := enc) (w := w) Try.underlying40 (sz := 4) (by kernel_rfl)
    (opens_fields (s := 2) (s' := 2) op_bigc rfl (by kernel_rfl) (opens_field op_bigc rfl (by kernel_rfl)))
  exact ZQ54
set_option maxRecDepth 100000 in
theorem op_fracsc : Opens enc Try.prog w 23 1 (slE 4 (prE 2 (prE 1 (flat fun x => [.int .i64 x]) (slE 1 (flat fun x => [.int .i64 x]))) (prE 1 (flat fun x => [.int .i64 x]) (slE 1 (flat fun x => [.int .i64 x]))))) (fun l => ∀ x ∈ l, True) :=
  opens_slice op_fracc Try.underlying23 (by kernel_rfl) (by omega) (by decide +kernel)
theorem bgc_cells {W : World} {B : Nat} {x : Int × List Int} {cs : List Value} (h : prE 1 (flat fun x => [.int .i64 x]) (slE 1 (flat fun x => [.int .i64 x])) W B x cs) : ∃ A n cap, cs = [.int .i64 x.1, .slice A n cap] ∧ RdI W B A n cap x.2 := by
  obtain ⟨h1, A, n, cap, h2, h3⟩ := h
  refine ⟨A, n, cap, ?_, h3⟩
  have h1 : cs.take 1 = [.int .i64 x.1] := h1
  rw [← List.take_append_drop 1 cs, h1, h2]
  rfl
theorem fv_cells {W : World} {B : Nat} (x : (Int × List Int) × (Int × List Int)) (cs : List Value) (hl : cs.length = 4) (h : prE 2 (prE 1 (flat fun x => [.int .i64 x]) (slE 1 (flat fun x => [.int .i64 x]))) (prE 1 (flat fun x => [.int .i64 x]) (slE 1 (flat fun x => [.int .i64 x]))) W B x cs) : fE W B ⟨x.1.1, x.1.2, x.2.1, x.2.2⟩ cs := by
  obtain ⟨h1, h2⟩ := h
  obtain ⟨A, n, cap, e1, r1⟩ := bgc_cells h1
  obtain ⟨A', n', cap', e2, r2⟩ := bgc_cells h2
  refine ⟨A, n, cap, A', n', cap', ?_, r1, r2⟩
  rw [← List.take_append_drop 2 cs, e1, e2]
  rfl
variable {r : Reach} {b0 : Nat} {v : Value} {d : DataW H} {p : List MemPlace}
end
end Go.Proofs.Ytdlcglndhhndpaa
namespace Go.Proofs.Ytdlcglndhhndpaa
open Go.ChangeShapes Go.WideShapes Go.ChangeAt Go.RowKit Go.Deep
section
variable {H : Type} {enc : TypeId × Value → H} {w : World}
abbrev bgcE : Enc (Int × List Int) := prE 1 (flat fun x => [.int .i64 x]) (slE 1 (flat fun x => [.int .i64 x]))
abbrev fcE : Enc ((Int × List Int) × (Int × List Int)) := prE 2 bgcE bgcE
set_option maxRecDepth 100000 in
theorem op_rowc : Opens enc Try.prog w 45 5 (prE 1 (slE 4 fcE) fcE) (fun _ : List ((Int × List Int) × (Int × List Int)) × ((Int × List Int) × (Int × List Int)) => True) := by
  have h := opens_struct (enc := enc) (w := w) Try.underlying45 (sz := 5) (by kernel_rfl)
    (opens_fields (s := 1) (s' := 4) op_fracsc rfl (by kernel_rfl) (opens_field op_fracc rfl (by kernel_rfl)))
  exact ZQ54
set_option maxRecDepth 100000 in
theorem op_rowsc : Opens enc Try.prog w 22 1 (slE 5 (prE 1 (slE 4 fcE) fcE)) (fun l => ∀ x ∈ l, True) :=
  opens_slice op_rowc Try.underlying22 (by kernel_rfl) (by omega) (by decide +kernel)
def fvT (x : (Int × List Int) × (Int × List Int)) : Fv := ⟨x.1.1, x.1.2, x.2.1, x.2.2⟩
theorem rv_cells {W : World} {B : Nat} (x : List ((Int × List Int) × (Int × List Int)) × ((Int × List Int) × (Int × List Int))) (cs : List Value) (hl : cs.length = 5) (h : prE 1 (slE 4 fcE) fcE W B x cs) : rE W B ⟨x.1.map fvT, fvT x.2⟩ cs := by
  obtain ⟨h1, h2⟩ := h
  obtain ⟨A, n, cap, e1, r1⟩ := h1
  have h3 := fv_cells x.2 (cs.drop 1) (by rw [List.length_drop, hl]) h2
  refine ⟨A, n, cap, cs.drop 1, ?_, r1.mapC _ fv_cells, h3⟩
  rw [← List.take_append_drop 1 cs, e1]
  rfl
variable {r : Reach} {b0 : Nat} {v : Value} {d : DataW H} {p : List MemPlace}
end
end Go.Proofs.Ytdlcglndhhndpaa
