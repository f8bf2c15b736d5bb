/- Laws and walks; conditions stand in each theorem. -/
import Derived.Test.YtdlcglndhhndpaaGreatP44
import Derived.Test.YtdlcglndhhndpaaGreatP08
import Derived.Test.YtdlcglndhhndpaaGreatP09
set_option linter.unusedSimpArgs false
set_option linter.unusedVariables false
set_option maxHeartbeats 8000000
set_option maxRecDepth 100000
namespace Go.Proofs.YtdlcglndhhndpaaGreat
open Go.RowKit
theorem ZQ21 {p : Prop} (h : p := by
 first
  | (go_enter Tryz.func5, Tryz.ntmps5
     go_wp2_with (first
      | (apply K.box; rfl; rfl; rfl; clear K; intro W b0 K; have c0 := (K.blk (b := b0) (cs := #[.slice A n cap, .slice A' m cap']) (t := 38) ZMB).cell (j := 0) rfl; have c1 := (K.blk (b := b0) (cs := #[.slice A n cap, .slice A' m cap']) (t := 38) ZMB).cell (j := 1) rfl)
      | (go_at_call 20; refine (HSm.out _).mono ?_; rintro e W ⟨rfl, hb1⟩; replace K := K.keep hb1; clear c0 c1 hb1; have c0 := (K.blk (b := b0) (cs := #[.slice A n cap, .slice A' m cap']) (t := 38) ZMB).cell (j := 0) rfl; have c1 := (K.blk (b := b0) (cs := #[.slice A n cap, .slice A' m cap']) (t := 38) ZMB).cell (j := 1) rfl)
      | (go_at_call 21; refine (HFew.out _ K.1).mono ?_; rintro e W ⟨rfl, hb1⟩; replace K := K.keep hb1; clear c0 c1 hb1; have c0 := (K.blk (b := b0) (cs := #[.slice A n cap, .slice A' m cap']) (t := 38) ZMB).cell (j := 0) rfl; have c1 := (K.blk (b := b0) (cs := #[.slice A n cap, .slice A' m cap']) (t := 38) ZMB).cell (j := 1) rfl)
      | (go_at_call 22; refine (HSo1.out _ K.1).mono ?_; rintro e W ⟨rfl, hb1⟩; replace K := K.keep hb1; clear c0 c1 hb1; have c0 := (K.blk (b := b0) (cs := #[.slice A n cap, .slice A' m cap']) (t := 38) ZMB).cell (j := 0) rfl; have c1 := (K.blk (b := b0) (cs := #[.slice A n cap, .slice A' m cap']) (t := 38) ZMB).cell (j := 1) rfl))
     go_ret
     exact ⟨rfl, K.1⟩)
      | fail) : p := h
theorem ZQ51 {p : Prop} (h : p := by
 first
  | (go_wp2_with fail
     go_ret
     exact ⟨rfl, HB1.out.trans (K.1.mono HB1.out.size)⟩)
      | fail) : p := h
theorem prov9_any (A A' O : Option Addr) (n cap m cap' no co : Nat) (l : List Fv) (ls : List Rv) (o : List Fv) (w : World) (hl : RdF w w.heap.size A n cap l) (hr : RdR w w.heap.size A' m cap' ls) (ho : RdF w w.heap.size O no co o) :
 Calls Tryz.prog 5 #[.agg #[.slice A n cap, .slice A' m cap'], .slice O no co] w fun e w' => e = .returned (.bool true) ∧ Below w.heap.size w w' := by
 have hcap := hl.caps
 have hcap' := hr.caps
 have hco := ho.caps
 have hlo := ho.len
 have hlen := hl.len
 have hlenr := hr.len
 have K := St.start w
 have HFew := Lib.hid (fun W (h : Below w.heap.size w W) => few9_any A A' n cap m cap' l ls W (hl.up fE_lasts h) (hr.up rE_lasts h))
 have HSm := Lib.hid alive9_any
 have HSo1 := Lib.hid (fun W (h : Below w.heap.size w W) => small9_any 4 O no co o W (ho.up fE_lasts h))
 have HGo := Lib.hid (fun W (h : Below w.heap.size w W) => hl.up fE_lasts h)
 have HRo := Lib.hid (fun W (h : Below w.heap.size w W) => hr.up rE_lasts h)
 have HOo := Lib.hid (fun W (h : Below w.heap.size w W) => ho.up fE_lasts h)
 clear hl hr ho
 cases hf : fewP l ls
 case false =>
  rw [hf] at HFew
  clear hf hlo hlen hlenr
  exact ZQ21
 rw [hf] at HFew
 cases hfo : few6L 4 1 o
 case false =>
  rw [hfo] at HSo1
  clear hf hfo hlo hlen hlenr
  exact ZQ21
 rw [hfo] at HSo1
 obtain ⟨hn4, hm4⟩ := fewP_len2 hf
 rw [hlen] at hn4
 rw [hlenr] at hm4
 cases hok : (l.all Fv.ok && ls.all (rowF n))
 case false =>
  have HSl := Lib.hid (fun W (h : Below w.heap.size w W) => solve_no A A' n cap m cap' l ls W (HGo.out W h) (HRo.out W h) (by omega) (by omega) hok)
  have HRi := Lib.hid (fun W (h : Below w.heap.size w W) => pright_any A A' n cap m cap' l ls W (HGo.out W h) (HRo.out W h) (by omega) (by omega))
  rw [hok] at HRi
  clear hok hlo hlen hlenr hf hfo
  go_enter Tryz.func5, Tryz.ntmps5
  go_wp2_with (first
   | (apply K.box; rfl; rfl; rfl; clear K; intro W b0 K; have c0 := (K.blk (b := b0) (cs := #[.slice A n cap, .slice A' m cap']) (t := 38) ZMB).cell (j := 0) rfl; have c1 := (K.blk (b := b0) (cs := #[.slice A n cap, .slice A' m cap']) (t := 38) ZMB).cell (j := 1) rfl)
   | (go_at_call 20; refine (HSm.out _).mono ?_; rintro e W ⟨rfl, hb1⟩; replace K := K.keep hb1; clear c0 c1 hb1; have c0 := (K.blk (b := b0) (cs := #[.slice A n cap, .slice A' m cap']) (t := 38) ZMB).cell (j := 0) rfl; have c1 := (K.blk (b := b0) (cs := #[.slice A n cap, .slice A' m cap']) (t := 38) ZMB).cell (j := 1) rfl)
   | (go_at_call 21; refine (HFew.out _ K.1).mono ?_; rintro e W ⟨rfl, hb1⟩; replace K := K.keep hb1; clear c0 c1 hb1; have c0 := (K.blk (b := b0) (cs := #[.slice A n cap, .slice A' m cap']) (t := 38) ZMB).cell (j := 0) rfl; have c1 := (K.blk (b := b0) (cs := #[.slice A n cap, .slice A' m cap']) (t := 38) ZMB).cell (j := 1) rfl)
   | (go_at_call 22; refine (HSo1.out _ K.1).mono ?_; rintro e W ⟨rfl, hb1⟩; replace K := K.keep hb1; clear c0 c1 hb1; have c0 := (K.blk (b := b0) (cs := #[.slice A n cap, .slice A' m cap']) (t := 38) ZMB).cell (j := 0) rfl; have c1 := (K.blk (b := b0) (cs := #[.slice A n cap, .slice A' m cap']) (t := 38) ZMB).cell (j := 1) rfl))
  go_wp2_with (first
   | (go_at_call 23; refine (HSl.out _ K.1).mono ?_; rintro e W ⟨rfl, hb1⟩; replace K := K.keep hb1; clear c0 c1 hb1; have c0 := (K.blk (b := b0) (cs := #[.slice A n cap, .slice A' m cap']) (t := 38) ZMB).cell (j := 0) rfl; have c1 := (K.blk (b := b0) (cs := #[.slice A n cap, .slice A' m cap']) (t := 38) ZMB).cell (j := 1) rfl)
   | (go_at_call 26; refine (HRi.out _ K.1).mono ?_; rintro e W ⟨rfl, hb1⟩; replace K := K.keep hb1; clear c0 c1 hb1; have c0 := (K.blk (b := b0) (cs := #[.slice A n cap, .slice A' m cap']) (t := 38) ZMB).cell (j := 0) rfl; have c1 := (K.blk (b := b0) (cs := #[.slice A n cap, .slice A' m cap']) (t := 38) ZMB).cell (j := 1) rfl))
  go_ret
  exact ⟨rfl, K.1⟩
 have HSl := Lib.hid (fun W (h : Below w.heap.size w W) => solve_any A A' n cap m cap' l ls W (HGo.out W h) (HRo.out W h) (by omega) (by omega) hok)
 have HS := Lib.hid (small_prog hf hok hlen hlenr)
 have HOk := Lib.hid (Bool.and_eq_true .. ▸ hok : _ ∧ _).1
 have HRow := Lib.hid (show ∀ (k : Nat) (X : Rv), ls[k]? = some X → rowF n X = true from fun k X h => List.all_eq_true.1 (Bool.and_eq_true .. ▸ hok : _ ∧ _).2 _ (List.mem_of_getElem? h))
 have HCk := Lib.hid (fun X1 k1 g1 X2 k2 g2 x y code W (h : Below w.heap.size w W) hx hy => check_any A A' X1 X2 n cap m cap' k1 g1 k2 g2 l ls x y code W (HGo.out W h) (HRo.out W h) hx hy (by omega) (by omega) hok)
 have HSv := Lib.hid (fun W (h : Below w.heap.size w W) => solves9_any A A' O n cap m cap' no co l ls o W (HGo.out W h) (HRo.out W h) (HOo.out W h) HRow.out (by omega))
 have HFo := Lib.hid hfo
 clear hf hfo hok hlen hlenr
 go_enter Tryz.func5, Tryz.ntmps5
 go_wp2_with (first
  | (apply K.box; rfl; rfl; rfl; clear K; intro W b0 K; have c0 := (K.blk (b := b0) (cs := #[.slice A n cap, .slice A' m cap']) (t := 38) ZMB).cell (j := 0) rfl; have c1 := (K.blk (b := b0) (cs := #[.slice A n cap, .slice A' m cap']) (t := 38) ZMB).cell (j := 1) rfl)
  | (go_at_call 20; refine (HSm.out _).mono ?_; rintro e W ⟨rfl, hb1⟩; replace K := K.keep hb1; clear c0 c1 hb1; have c0 := (K.blk (b := b0) (cs := #[.slice A n cap, .slice A' m cap']) (t := 38) ZMB).cell (j := 0) rfl; have c1 := (K.blk (b := b0) (cs := #[.slice A n cap, .slice A' m cap']) (t := 38) ZMB).cell (j := 1) rfl)
  | (go_at_call 21; refine (HFew.out _ K.1).mono ?_; rintro e W ⟨rfl, hb1⟩; replace K := K.keep hb1; clear c0 c1 hb1; have c0 := (K.blk (b := b0) (cs := #[.slice A n cap, .slice A' m cap']) (t := 38) ZMB).cell (j := 0) rfl; have c1 := (K.blk (b := b0) (cs := #[.slice A n cap, .slice A' m cap']) (t := 38) ZMB).cell (j := 1) rfl)
  | (go_at_call 22; refine (HSo1.out _ K.1).mono ?_; rintro e W ⟨rfl, hb1⟩; replace K := K.keep hb1; clear c0 c1 hb1; have c0 := (K.blk (b := b0) (cs := #[.slice A n cap, .slice A' m cap']) (t := 38) ZMB).cell (j := 0) rfl; have c1 := (K.blk (b := b0) (cs := #[.slice A n cap, .slice A' m cap']) (t := 38) ZMB).cell (j := 1) rfl))
 refine (HSl.out _ K.1).mono ?_
 rintro e W ⟨E, hE, hsol, hb1⟩
 by_cases hne : E = .full
 · subst hne
   have he : e = .returned (.tuple #[.slice none 0 0, .slice none 0 0, .int .i64 6]) := hsol
   subst he
   replace K := K.keep hb1; clear c0 c1 hb1; have c0 := (K.blk (b := b0) (cs := #[.slice A n cap, .slice A' m cap']) (t := 38) ZMB).cell (j := 0) rfl; have c1 := (K.blk (b := b0) (cs := #[.slice A n cap, .slice A' m cap']) (t := 38) ZMB).cell (j := 1) rfl
   clear hE hsol HSl HFew HSm HSo1 HCk HSv HS
   go_wp2_with fail
   go_ret
   exact ⟨rfl, K.1⟩
 obtain ⟨X1, k1, g1, X2, k2, g2, x, y, rfl, hx, hy, hchk, hsx⟩ := hsol.chk HS.out hE hne
 have hbB := hb1
 replace K := K.keep hb1; clear c0 c1 hb1; have c0 := (K.blk (b := b0) (cs := #[.slice A n cap, .slice A' m cap']) (t := 38) ZMB).cell (j := 0) rfl; have c1 := (K.blk (b := b0) (cs := #[.slice A n cap, .slice A' m cap']) (t := 38) ZMB).cell (j := 1) rfl
 clear hsol HSl HFew HSm HSo1
 have HNe := Lib.hid hne
 clear hne
 have HX1 := Lib.hid hx
 have HB1 := Lib.hid K.1
 have HC := Lib.hid (fun V (h : Below W.heap.size W V) => HCk.out X1 k1 g1 X2 k2 g2 x y (lpC2 E) V (K.1.trans (h.mono K.1.size)) (hx.up fE_lasts h) (hy.up fE_lasts h))
 rw [hchk] at HC
 clear hx hy hchk hbB HCk
 obtain ⟨W6, hW6⟩ : ∃ W6, W6 = W := ⟨_, rfl⟩
 have HW6 := Lib.hid (Below.refl W.heap.size W)
 rw [← hW6] at HX1 HB1 HW6 HC
 have K9 : St W6 [] [] W := by rw [hW6]; exact St.start W
 have HC0 := Lib.hid (show ∀ V, Below W6.heap.size W6 V → V.cell? ⟨b0, 0, none⟩ = some (.slice A n cap) ∧ V.cell? ⟨b0, 1, none⟩ = some (.slice A' m cap') from fun V h => by
  have hB := (K.blk (b := b0) (cs := #[.slice A n cap, .slice A' m cap']) (t := 38) ZMB)
  rw [← hW6] at hB
  exact ⟨(h.cell (p := ⟨b0, 0, none⟩) hB.lt).trans (hB.cell (j := 0) rfl), (h.cell (p := ⟨b0, 1, none⟩) hB.lt).trans (hB.cell (j := 1) rfl)⟩)
 clear hW6 HW6
 replace K := K9
 clear K9 c0 c1
 obtain ⟨c0, c1⟩ := HC0.out _ K.1
 cases hs : solW n m ls o
 case false =>
  rw [hs] at HSv
  clear hsx hs hE hlo HX1 HRow HS
  cases E with
  | full => exact absurd rfl HNe.out
  | none y0 =>
   dsimp only [lpC2] at HC ⊢
   go_wp2_with (first
    | (go_at_call 28; refine (HC.out _ K.1).mono ?_; rintro e W ⟨rfl, hb1⟩; replace K := K.keep hb1; clear c0 c1 hb1; obtain ⟨c0, c1⟩ := HC0.out _ K.1)
    | (go_at_call 30; refine (HSv.out _ (HB1.out.trans (K.1.mono HB1.out.size))).mono ?_; rintro e W ⟨rfl, hb1⟩; replace K := K.keep hb1; clear c0 c1 hb1; obtain ⟨c0, c1⟩ := HC0.out _ K.1))
   go_ret
   exact ⟨rfl, HB1.out.trans (K.1.mono HB1.out.size)⟩
  | ray x0 =>
   dsimp only [lpC2] at HC ⊢
   go_wp2_with (first
    | (go_at_call 28; refine (HC.out _ K.1).mono ?_; rintro e W ⟨rfl, hb1⟩; replace K := K.keep hb1; clear c0 c1 hb1; obtain ⟨c0, c1⟩ := HC0.out _ K.1)
    | (go_at_call 30; refine (HSv.out _ (HB1.out.trans (K.1.mono HB1.out.size))).mono ?_; rintro e W ⟨rfl, hb1⟩; replace K := K.keep hb1; clear c0 c1 hb1; obtain ⟨c0, c1⟩ := HC0.out _ K.1))
   go_ret
   exact ⟨rfl, HB1.out.trans (K.1.mono HB1.out.size)⟩
  | best x0 y0 =>
   dsimp only [lpC2] at HC ⊢
   go_wp2_with (first
    | (go_at_call 28; refine (HC.out _ K.1).mono ?_; rintro e W ⟨rfl, hb1⟩; replace K := K.keep hb1; clear c0 c1 hb1; obtain ⟨c0, c1⟩ := HC0.out _ K.1)
    | (go_at_call 30; refine (HSv.out _ (HB1.out.trans (K.1.mono HB1.out.size))).mono ?_; rintro e W ⟨rfl, hb1⟩; replace K := K.keep hb1; clear c0 c1 hb1; obtain ⟨c0, c1⟩ := HC0.out _ K.1))
   go_ret
   exact ⟨rfl, HB1.out.trans (K.1.mono HB1.out.size)⟩
 rw [hs] at HSv
 have hparts := solW_parts hs
 have hon : n = no := by have := hparts.1; omega
 subst hon
 have HOok := Lib.hid (fnF_all hparts.2.1)
 clear hparts hlo
 cases E with
 | full => exact absurd rfl HNe.out
 | none y0 => exact (prov_none hE hs).elim
 | best x0 y0 =>
  have hle := Lib.hid (prov_best hE hs)
  obtain ⟨e1, e2, hfx⟩ := hsx x0 rfl
  have e1 := e1.symm
  subst e1 e2
  have HXk := Lib.hid (show (ofF n fun i => fvQ (x0 i)).all Fv.ok = true from ofF_allP9 fun i hi => fvQ_ok (hfx i hi))
  clear hsx hs hE hfx HRow HS
  dsimp only [lpC2] at HC ⊢
  go_upto_region 11 with (first
   | (go_at_call 28; refine (HC.out _ K.1).mono ?_; rintro e W ⟨rfl, hb1⟩; replace K := K.keep hb1; clear c0 c1 hb1; obtain ⟨c0, c1⟩ := HC0.out _ K.1)
   | (go_at_call 30; refine (HSv.out _ (HB1.out.trans (K.1.mono HB1.out.size))).mono ?_; rintro e W ⟨rfl, hb1⟩; replace K := K.keep hb1; clear c0 c1 hb1; obtain ⟨c0, c1⟩ := HC0.out _ K.1))
  go_wp2_with fail
  refine (sum9_any A X1 n cap g1 l (ofF n fun i => fvQ (x0 i)) _ (HGo.out _ (HB1.out.trans (K.1.mono HB1.out.size))) (HX1.out.up fE_lasts K.1) (by omega) HOk.out HXk.out).mono ?_
  rintro e W5 ⟨z1, o1, rfl, -, hz1, ⟨ra, rb⟩, ⟨fa, fb⟩, hb5⟩
  have hz1 := Lib.hid hz1
  replace K := K.retF hb5 ra rb fa fb
  clear c0 c1 ra rb fa fb hb5
  obtain ⟨c0, c1⟩ := HC0.out _ K.1
  go_wp2_with (first
   | (apply K.alloc; rfl; rfl; exact frac_zero; clear K c0 c1; intro W b8 K; obtain ⟨c0, c1⟩ := HC0.out _ K.1)
   | (apply K.storeA; rfl; rfl; rfl; rfl; rfl; (exact ZUP); exact frac_size; rfl; rfl; rfl; clear K c0 c1; intro W K; obtain ⟨c0, c1⟩ := HC0.out _ K.1))
  refine (sum9_any A O n cap co l o _ (HGo.out _ (HB1.out.trans (K.1.mono HB1.out.size))) (HOo.out _ (HB1.out.trans (K.1.mono HB1.out.size))) (by omega) HOk.out HOok.out).mono ?_
  rintro e W5 ⟨z2, o2, rfl, -, hz2, ⟨ra, rb⟩, ⟨fa, fb⟩, hb5⟩
  have hz2 := Lib.hid hz2
  replace K := K.retF hb5 ra rb fa fb
  clear c0 c1 ra rb fa fb hb5
  obtain ⟨c0, c1⟩ := HC0.out _ K.1
  go_upto_region 13 with (first
   | (apply K.alloc; rfl; rfl; exact frac_zero; clear K c0 c1; intro W b9 K; obtain ⟨c0, c1⟩ := HC0.out _ K.1)
   | (apply K.storeA; rfl; rfl; rfl; rfl; rfl; (exact ZUP); exact frac_size; rfl; rfl; rfl; clear K c0 c1; intro W K; obtain ⟨c0, c1⟩ := HC0.out _ K.1))
  have hBb8 := K.blk (b := b8) (cs := #[.int .i64 z1.s, .slice z1.A z1.n z1.c, .int .i64 z1.t, .slice z1.B z1.m z1.d]) (t := 50) ZMB
  have e0b8 := hBb8.cell (j := 0) rfl
  have e1b8 := hBb8.cell (j := 1) rfl
  have e2b8 := hBb8.cell (j := 2) rfl
  have e3b8 := hBb8.cell (j := 3) rfl
  clear hBb8
  have hBb9 := K.blk (b := b9) (cs := #[.int .i64 z2.s, .slice z2.A z2.n z2.c, .int .i64 z2.t, .slice z2.B z2.m z2.d]) (t := 50) ZMB
  have e0b9 := hBb9.cell (j := 0) rfl
  have e1b9 := hBb9.cell (j := 1) rfl
  have e2b9 := hBb9.cell (j := 2) rfl
  have e3b9 := hBb9.cell (j := 3) rfl
  clear hBb9
  cases o1
  · exact ZQ51
  · cases o2
    · exact ZQ51
    · have HZ1 := Lib.hid (hz1.out (by simp))
      have HZ2 := Lib.hid (hz2.out (by simp))
      clear hz1 hz2
      go_wp2_with fail
      refine (callCmpR K HZ2.out HZ1.out hle.out ZMB ZMB ZMB ZMB).mono ?_
      rintro e W ⟨c9, rfl, hc9, K2⟩
      replace K := K2
      have hcn : ¬ c9 > 0 := by have := hc9.out; omega
      have hcd : decide (c9 > 0) = false := decide_eq_false hcn
      clear K2 HZ1 HZ2 hle
      exact ZQ51
 | ray x0 =>
  have hpr := prov_ray HS.out hE HFo.out hs
  obtain ⟨e1, e2, hfx⟩ := hsx x0 rfl
  have e1 := e1.symm
  subst e1 e2
  have HXk := Lib.hid (show (ofF n fun i => fvQ (x0 i)).all Fv.ok = true from ofF_allP9 fun i hi => fvQ_ok (hfx i hi))
  have HAd := Lib.hid hpr.1
  have HSo2 := Lib.hid hpr.2.1
  have HLt := Lib.hid hpr.2.2
  clear hsx hs hE hfx HS hpr
  dsimp only [lpC2] at HC ⊢
  go_upto_region 11 with (first
   | (go_at_call 28; refine (HC.out _ K.1).mono ?_; rintro e W ⟨rfl, hb1⟩; replace K := K.keep hb1; clear c0 c1 hb1; obtain ⟨c0, c1⟩ := HC0.out _ K.1)
   | (go_at_call 30; refine (HSv.out _ (HB1.out.trans (K.1.mono HB1.out.size))).mono ?_; rintro e W ⟨rfl, hb1⟩; replace K := K.keep hb1; clear c0 c1 hb1; obtain ⟨c0, c1⟩ := HC0.out _ K.1))
  go_wp2_with fail
  refine (sum9_any A X1 n cap g1 l (ofF n fun i => fvQ (x0 i)) _ (HGo.out _ (HB1.out.trans (K.1.mono HB1.out.size))) (HX1.out.up fE_lasts K.1) (by omega) HOk.out HXk.out).mono ?_
  rintro e W5 ⟨z1, o1, rfl, -, hz1, ⟨ra, rb⟩, ⟨fa, fb⟩, hb5⟩
  have hz1 := Lib.hid hz1
  replace K := K.retF hb5 ra rb fa fb
  clear c0 c1 ra rb fa fb hb5
  obtain ⟨c0, c1⟩ := HC0.out _ K.1
  go_wp2_with (first
   | (apply K.alloc; rfl; rfl; exact frac_zero; clear K c0 c1; intro W b8 K; obtain ⟨c0, c1⟩ := HC0.out _ K.1)
   | (apply K.storeA; rfl; rfl; rfl; rfl; rfl; (exact ZUP); exact frac_size; rfl; rfl; rfl; clear K c0 c1; intro W K; obtain ⟨c0, c1⟩ := HC0.out _ K.1))
  refine (sum9_any A O n cap co l o _ (HGo.out _ (HB1.out.trans (K.1.mono HB1.out.size))) (HOo.out _ (HB1.out.trans (K.1.mono HB1.out.size))) (by omega) HOk.out HOok.out).mono ?_
  rintro e W5 ⟨z2, o2, rfl, -, hz2, ⟨ra, rb⟩, ⟨fa, fb⟩, hb5⟩
  have hz2 := Lib.hid hz2
  replace K := K.retF hb5 ra rb fa fb
  clear c0 c1 ra rb fa fb hb5
  obtain ⟨c0, c1⟩ := HC0.out _ K.1
  go_upto_region 13 with (first
   | (apply K.alloc; rfl; rfl; exact frac_zero; clear K c0 c1; intro W b9 K; obtain ⟨c0, c1⟩ := HC0.out _ K.1)
   | (apply K.storeA; rfl; rfl; rfl; rfl; rfl; (exact ZUP); exact frac_size; rfl; rfl; rfl; clear K c0 c1; intro W K; obtain ⟨c0, c1⟩ := HC0.out _ K.1))
  go_wp2_with fail
  refine (plus9_any O X1 n co g1 o (ofF n fun i => fvQ (x0 i)) _ (HOo.out _ (HB1.out.trans (K.1.mono HB1.out.size))) (HX1.out.up fE_lasts K.1) (by omega) HOok.out HXk.out HAd.out).mono ?_
  rintro e W7 ⟨M, cm, rfl, hro, hb7⟩
  replace K := K.addK hb7 hro
  clear c0 c1 hb7 hro
  obtain ⟨c0, c1⟩ := HC0.out _ K.1
  obtain ⟨mo, hmo⟩ : ∃ mo, mo = (ofF n fun i => fvQ (fvR o i + fvR (ofF n fun i => fvQ (x0 i)) i)) := ⟨_, rfl⟩
  rw [← hmo] at K HSo2 HLt
  clear hmo
  have HMok := Lib.hid (fnF_all (solW_parts HSo2.out).2.1)
  go_wp2_with fail
  refine (sum9_any A M n cap cm l mo _ (HGo.out _ (HB1.out.trans (K.1.mono HB1.out.size))) (K.getQ ZMB) (by omega) HOk.out HMok.out).mono ?_
  rintro e W5 ⟨z3, o3, rfl, -, hz3, ⟨ra, rb⟩, ⟨fa, fb⟩, hb5⟩
  have hz3 := Lib.hid hz3
  replace K := K.retF hb5 ra rb fa fb
  clear c0 c1 ra rb fa fb hb5
  obtain ⟨c0, c1⟩ := HC0.out _ K.1
  go_upto_region 21 with (first
   | (apply K.alloc; rfl; rfl; exact frac_zero; clear K c0 c1; intro W b10 K; obtain ⟨c0, c1⟩ := HC0.out _ K.1)
   | (apply K.storeA; rfl; rfl; rfl; rfl; rfl; (exact ZUP); exact frac_size; rfl; rfl; rfl; clear K c0 c1; intro W K; obtain ⟨c0, c1⟩ := HC0.out _ K.1))
  have HSw := Lib.hid (fun V (h : Below w.heap.size w V) hm => solves9_any A A' M n cap m cap' n cm l ls mo V (HGo.out V h) (HRo.out V h) hm HRow.out (by omega))
  rw [HSo2.out] at HSw
  clear HSv HSo2 HRow
  have hBb9 := K.blk (b := b9) (cs := #[.int .i64 z2.s, .slice z2.A z2.n z2.c, .int .i64 z2.t, .slice z2.B z2.m z2.d]) (t := 50) ZMB
  have e0b9 := hBb9.cell (j := 0) rfl
  have e1b9 := hBb9.cell (j := 1) rfl
  have e2b9 := hBb9.cell (j := 2) rfl
  have e3b9 := hBb9.cell (j := 3) rfl
  clear hBb9
  have hBb10 := K.blk (b := b10) (cs := #[.int .i64 z3.s, .slice z3.A z3.n z3.c, .int .i64 z3.t, .slice z3.B z3.m z3.d]) (t := 50) ZMB
  have e0b10 := hBb10.cell (j := 0) rfl
  have e1b10 := hBb10.cell (j := 1) rfl
  have e2b10 := hBb10.cell (j := 2) rfl
  have e3b10 := hBb10.cell (j := 3) rfl
  clear hBb10
  cases o2
  · exact ZQ51
  · cases o3
    · exact ZQ51
    · have HZ3 := Lib.hid (hz3.out (by simp))
      have HZ2 := Lib.hid (hz2.out (by simp))
      clear hz1 hz2 hz3
      go_wp2_with fail
      refine (HSw.out _ (HB1.out.trans (K.1.mono HB1.out.size)) (K.getQ ZMB)).mono ?_
      rintro e W8 ⟨rfl, hb8⟩
      replace K := K.keep hb8
      clear c0 c1 hb8 e0b9 e1b9 e2b9 e3b9 e0b10 e1b10 e2b10 e3b10
      obtain ⟨c0, c1⟩ := HC0.out _ K.1
      have hBb9 := K.blk (b := b9) (cs := #[.int .i64 z2.s, .slice z2.A z2.n z2.c, .int .i64 z2.t, .slice z2.B z2.m z2.d]) (t := 50) ZMB
      have e0b9 := hBb9.cell (j := 0) rfl
      have e1b9 := hBb9.cell (j := 1) rfl
      have e2b9 := hBb9.cell (j := 2) rfl
      have e3b9 := hBb9.cell (j := 3) rfl
      clear hBb9
      have hBb10 := K.blk (b := b10) (cs := #[.int .i64 z3.s, .slice z3.A z3.n z3.c, .int .i64 z3.t, .slice z3.B z3.m z3.d]) (t := 50) ZMB
      have e0b10 := hBb10.cell (j := 0) rfl
      have e1b10 := hBb10.cell (j := 1) rfl
      have e2b10 := hBb10.cell (j := 2) rfl
      have e3b10 := hBb10.cell (j := 3) rfl
      clear hBb10
      go_wp2_with fail
      refine (callCmpG K HZ3.out HZ2.out ZMB ZMB ZMB ZMB).mono ?_
      rintro e W ⟨rfl, K2⟩
      replace K := K2
      have hcp : cmpQ (smQ (fun i => fvR l i * fvR mo i) n) (smQ (fun i => fvR l i * fvR o i) n) > 0 := by
       have h5 : ¬ cmpQ (smQ (fun i => fvR l i * fvR mo i) n) (smQ (fun i => fvR l i * fvR o i) n) ≤ 0 := fun h => absurd (cmpQ_le.1 h) (Rat.not_le.2 HLt.out)
       omega
      clear K2 HZ3 HZ2 HLt
      generalize cmpQ _ _ = cq at hcp ⊢
      have hcd : decide (cq > 0) = true := decide_eq_true hcp
      exact ZQ51
open Go.ChangeShapes Go.WideShapes Go.ChangeAt Go.RowKit Go.Deep
theorem ZQ65 {p : Prop} (h : p := by
 first
  | (intro fuel cs y h1 h2
     obtain ⟨a, x, b, _⟩ := h fuel cs y h1 h2
     exact ⟨a, x, b, trivial⟩)
      | fail) : p := h
theorem Rd.mapC {α β : Type} {sz : Nat} {R : Enc α} {S : Enc β} {w : World} {B : Nat} {A : Option Addr} {n cap : Nat} {l : List α} (f : α → β) (h : Rd sz R w B A n cap l) (hc : ∀ x cs, cs.length = sz → R w B x cs → S w B (f x) cs) : Rd sz S w B A n cap (l.map f) := by
 refine ⟨by rw [List.length_map]; exact h.1, h.2.1, h.2.2.1, fun hn => ?_⟩
 obtain ⟨b, off, rfl, hb, hk⟩ := h.2.2.2 hn
 refine ⟨b, off, rfl, hb, fun k hk' => ?_⟩
 have hl : k < l.length := by simpa using hk'
 obtain ⟨cs, hr, hl2, hj⟩ := hk k hl
 refine ⟨cs, ?_, hl2, hj⟩
 rw [List.getElem_map]
 exact hc _ _ hl2 hr
section
variable {H : Type} {enc : TypeId × Value → H} {w : World}
theorem op_bigc : Opens enc Tryz.prog w 48 2 (prE 1 (flat fun x => [.int .i64 x]) (slE 1 (flat fun x => [.int .i64 x]))) (fun _ : Int × List Int => True) := by
 have h := opens_struct (enc := enc) (w := w) Tryz.underlying48 (sz := 2) (by kernel_rfl)
  (opens_fields (s := 1) (s' := 1) (opens_int Tryz.underlying3) rfl (by kernel_rfl) (opens_field (opens_slice (opens_int Tryz.underlying3) Tryz.underlying46 (by kernel_rfl) (by omega) (by decide +kernel)) rfl (by kernel_rfl)))
 exact ZQ65
theorem op_fracc : Opens enc Tryz.prog w 50 4 (prE 2 (prE 1 (flat fun x => [.int .i64 x]) (slE 1 (flat fun x => [.int .i64 x]))) (prE 1 (flat fun x => [.int .i64 x]) (slE 1 (flat fun x => [.int .i64 x])))) (fun _ : (Int × List Int) × (Int × List Int) => True) := by
 have h := opens_struct (enc := enc) (w := w) Tryz.underlying50 (sz := 4) (by kernel_rfl)
  (opens_fields (s := 2) (s' := 2) op_bigc rfl (by kernel_rfl) (opens_field op_bigc rfl (by kernel_rfl)))
 exact ZQ65
theorem op_fracsc : Opens enc Tryz.prog w 23 1 (slE 4 (prE 2 (prE 1 (flat fun x => [.int .i64 x]) (slE 1 (flat fun x => [.int .i64 x]))) (prE 1 (flat fun x => [.int .i64 x]) (slE 1 (flat fun x => [.int .i64 x]))))) (fun l => ∀ x ∈ l, True) :=
 opens_slice op_fracc Tryz.underlying23 (by kernel_rfl) (by omega) (by decide +kernel)
theorem bgc_cells {W : World} {B : Nat} {x : Int × List Int} {cs : List Value} (h : prE 1 (flat fun x => [.int .i64 x]) (slE 1 (flat fun x => [.int .i64 x])) W B x cs) : ∃ A n cap, cs = [.int .i64 x.1, .slice A n cap] ∧ RdI W B A n cap x.2 := by
 obtain ⟨h1, A, n, cap, h2, h3⟩ := h
 refine ⟨A, n, cap, ?_, h3⟩
 have h1 : cs.take 1 = [.int .i64 x.1] := h1
 rw [← List.take_append_drop 1 cs, h1, h2]
 rfl
theorem fv_cells {W : World} {B : Nat} (x : (Int × List Int) × (Int × List Int)) (cs : List Value) (hl : cs.length = 4) (h : prE 2 (prE 1 (flat fun x => [.int .i64 x]) (slE 1 (flat fun x => [.int .i64 x]))) (prE 1 (flat fun x => [.int .i64 x]) (slE 1 (flat fun x => [.int .i64 x]))) W B x cs) : fE W B ⟨x.1.1, x.1.2, x.2.1, x.2.2⟩ cs := by
 obtain ⟨h1, h2⟩ := h
 obtain ⟨A, n, cap, e1, r1⟩ := bgc_cells h1
 obtain ⟨A', n', cap', e2, r2⟩ := bgc_cells h2
 refine ⟨A, n, cap, A', n', cap', ?_, r1, r2⟩
 rw [← List.take_append_drop 2 cs, e1, e2]
 rfl
variable {r : Reach} {b0 : Nat} {v : Value} {d : DataW H} {p : List MemPlace}
theorem arg_fracs (hv : Value.okWide Tryz.prog w r b0 23 v) (hd : DataW.Trod enc Tryz.prog w 0 (fun _ => true) true 23 v d p) (hw : ∀ n ∈ d.weights Tryz.prog 23, n ≤ reachBytes) :
 ∃ A n cap l, v = .slice A n cap ∧ RdF w w.heap.size A n cap l := by
 obtain ⟨A, n, cap, l, rfl, hr, h⟩ := opens_arg_slice op_fracsc Tryz.underlying23 hv hd hw
 exact ⟨A, n, cap, _, rfl, hr.mapC _ fv_cells⟩
end
open Go.ChangeShapes Go.WideShapes Go.ChangeAt Go.RowKit Go.Deep
section
variable {H : Type} {enc : TypeId × Value → H} {w : World}
abbrev bgcE : Enc (Int × List Int) := prE 1 (flat fun x => [.int .i64 x]) (slE 1 (flat fun x => [.int .i64 x]))
abbrev fcE : Enc ((Int × List Int) × (Int × List Int)) := prE 2 bgcE bgcE
theorem op_rowc : Opens enc Tryz.prog w 56 5 (prE 1 (slE 4 fcE) fcE) (fun _ : List ((Int × List Int) × (Int × List Int)) × ((Int × List Int) × (Int × List Int)) => True) := by
 have h := opens_struct (enc := enc) (w := w) Tryz.underlying56 (sz := 5) (by kernel_rfl)
  (opens_fields (s := 1) (s' := 4) op_fracsc rfl (by kernel_rfl) (opens_field op_fracc rfl (by kernel_rfl)))
 exact ZQ65
theorem op_rowsc : Opens enc Tryz.prog w 22 1 (slE 5 (prE 1 (slE 4 fcE) fcE)) (fun l => ∀ x ∈ l, True) :=
 opens_slice op_rowc Tryz.underlying22 (by kernel_rfl) (by omega) (by decide +kernel)
def fvT (x : (Int × List Int) × (Int × List Int)) : Fv := ⟨x.1.1, x.1.2, x.2.1, x.2.2⟩
theorem rv_cells {W : World} {B : Nat} (x : List ((Int × List Int) × (Int × List Int)) × ((Int × List Int) × (Int × List Int))) (cs : List Value) (hl : cs.length = 5) (h : prE 1 (slE 4 fcE) fcE W B x cs) : rE W B ⟨x.1.map fvT, fvT x.2⟩ cs := by
 obtain ⟨h1, h2⟩ := h
 obtain ⟨A, n, cap, e1, r1⟩ := h1
 have h3 := fv_cells x.2 (cs.drop 1) (by rw [List.length_drop, hl]) h2
 refine ⟨A, n, cap, cs.drop 1, ?_, r1.mapC _ fv_cells, h3⟩
 rw [← List.take_append_drop 1 cs, e1]
 rfl
variable {r : Reach} {b0 : Nat} {v : Value} {d : DataW H} {p : List MemPlace}
end
open Go.ChangeShapes Go.WideShapes Go.ChangeAt Go.RowKit Go.Deep
section
variable {H : Type} {enc : TypeId × Value → H} {w : World}
theorem op_progc : Opens enc Tryz.prog w 38 2 (prE 1 (slE 4 fcE) (slE 5 (prE 1 (slE 4 fcE) fcE))) (fun _ : List ((Int × List Int) × (Int × List Int)) × List (List ((Int × List Int) × (Int × List Int)) × ((Int × List Int) × (Int × List Int))) => True) := by
 have h := opens_struct (enc := enc) (w := w) Tryz.underlying38 (sz := 2) (by kernel_rfl)
  (opens_fields (s := 1) (s' := 1) op_fracsc rfl (by kernel_rfl) (opens_field op_rowsc rfl (by kernel_rfl)))
 exact ZQ65
variable {r : Reach} {b0 : Nat} {v : Value} {d : DataW H} {p : List MemPlace}
theorem arg_prog (hv : Value.okWide Tryz.prog w r b0 38 v) (hd : DataW.Trod enc Tryz.prog w 0 (fun _ => true) true 38 v d p) (hw : ∀ n ∈ d.weights Tryz.prog 38, n ≤ reachBytes) :
 ∃ A n cap l A' m cap' ls, v = .agg #[.slice A n cap, .slice A' m cap'] ∧ RdF w w.heap.size A n cap l ∧ RdR w w.heap.size A' m cap' ls := by
 obtain ⟨cs, x, rfl, hr, _⟩ := opens_arg_struct op_progc Tryz.underlying38 hv hd hw
 obtain ⟨h1, h2⟩ := hr
 obtain ⟨A, n, cap, e1, r1⟩ := h1
 obtain ⟨A', m, cap', e2, r2⟩ := h2
 refine ⟨A, n, cap, _, A', m, cap', _, ?_, r1.mapC _ fv_cells, r2.mapC _ rv_cells⟩
 have e : cs.toList = [.slice A n cap, .slice A' m cap'] := by
  rw [← List.take_append_drop 1 cs.toList, e1, e2]
  rfl
 cases cs
 simp only at e
 subst e
 rfl
end
end Go.Proofs.YtdlcglndhhndpaaGreat
