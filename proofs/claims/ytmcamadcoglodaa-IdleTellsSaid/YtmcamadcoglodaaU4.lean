/- Walks over Best and Regret of the reference of layer 24. Conditions stand in each theorem. -/
import Derived.Test.YtmcamadcoglodaaU3
namespace Go.Proofs.Ytmcamadcoglodaa
open Go.RowKit
set_option linter.unusedVariables false

def RBestPost (w : World) (m n : Nat) (c : Nat → Nat → Int) (e : Ending) (w' : World) : Prop := ∃ T a cap', First m n c T ∧ e = .returned (.tuple #[.slice (some a) m cap', .int .i64 (costF m c T)]) ∧ RdI w' w'.heap.size (some a) m cap' (ofF m (fun r => ((T r : Nat) : Int))) ∧ Below w.heap.size w w'
set_option maxRecDepth 100000 in
set_option maxHeartbeats 2000000 in
theorem rbest_any (A : Option Addr) (m cap N : Nat) (cl : List (List Int)) (hr : rightC cl = true) (hm : cl.length = m) (hN : wid cl = N) (w : World) (hl : RdII w w.heap.size A m cap cl) :
    Calls Try.prog 12 #[.slice A m cap] w (RBestPost w m N (tb cl)) := by
  have ht := try_any A m cap N cl hr hm hN m 0 (by omega) (fun _ => 0) none 0 (.slice none 0 0) 0 w hl Rd.nil ⟨fun r h => absurd h (by omega), fun r r' h => absurd h (by omega)⟩ (Or.inl ⟨rfl, fun F h => by obtain ⟨r, h1, -⟩ := h.2; omega⟩)
  have ht' : Calls Try.prog 38 #[.slice A m cap, .slice none 0 0, .int .i64 0, .slice none 0 0, .int .i64 0] w (TryPost w m N 0 (tb cl) (fun _ => 0)) := ht
  have hmN : m ≤ N := by have := (rightC_iff.1 hr).2.1; omega
  have Ht := Lib.hid (ht'.mono fun e w' h => (show RBestPost w m N (tb cl) e w' from by
    obtain ⟨bv, ls, rfl, h1, h2⟩ := h
    rcases h1 with ⟨-, hno⟩ | ⟨a, cap', T, rfl, hrd, rfl, hB⟩
    · exact absurd ⟨⟨fun r hr => by show r < N; omega, fun r r' _ _ e => e⟩, Or.inr fun q hq => absurd hq (by omega)⟩ (hno (fun r => r))
    · exact ⟨T, a, cap', best_first hB, rfl, hrd, h2⟩))
  have Hq := Lib.hid (fun e w' (h : RBestPost w m N (tb cl) e w') => (show ∃ b x, e = .returned (.tuple #[b, .int .i64 x]) from by
    obtain ⟨T, a, cap', -, h, -⟩ := h
    exact ⟨_, _, h⟩))
  generalize RBestPost w m N (tb cl) = Q at *
  clear ht ht' hr hm hN
  go_enter Try.func12, Try.ntmps12
  go_wp2_with fail
  refine Ht.out.mono ?_
  intro e w1 h
  obtain ⟨b, x, rfl⟩ := Hq.out _ _ h
  have H := Lib.hid h
  clear h Ht Hq
  go_wp2
  exact H.out
theorem regret_same {m n : Nat} {lo hi : List (List Int)} {ta : List Int} {r r' : Int} (h : RegretYes m n lo hi ta r) (h' : RegretYes m n lo hi ta r') : r = r' := by
  obtain ⟨T, h1, h2, rfl⟩ := h
  obtain ⟨T', h3, h4, rfl⟩ := h'
  have := h2 T' h3
  have := h4 T h1
  omega
theorem regret_yes {m n : Nat} {lo hi : List (List Int)} {ta : List Int} {T : Nat → Nat} (hA : As m n (fun i => (gi ta i).toNat)) (hT : First m n (tb (tabL m n (worF lo hi ta))) T) :
    RegretYes m n lo hi ta (costF m (tb (tabL m n (worF lo hi ta))) (fun i => (gi ta i).toNat) - costF m (tb (tabL m n (worF lo hi ta))) T) := by
  have e2 : ∀ F, As m n F → costF m (tb (tabL m n (worF lo hi ta))) F = costF m (worF lo hi ta) F := fun F hF => sumN_congr m fun i hi => tabL_at hi (hF.1 i hi)
  refine ⟨T, hT.1, fun F hF => by rw [← e2 T hT.1, ← e2 F hF]; exact hT.2.1 F hF, ?_⟩
  rw [e2 T hT.1, e2 _ hA]; rfl
set_option maxRecDepth 100000 in
set_option maxHeartbeats 2000000 in
theorem rregret_any (A A2 A3 : Option Addr) (n cap n2 cap2 n3 cap3 : Nat) (lo hi : List (List Int)) (ta : List Int) (w : World) (hl : RdII w w.heap.size A n cap lo) (hh : RdII w w.heap.size A2 n2 cap2 hi) (ht : RdI w w.heap.size A3 n3 cap3 ta) :
    Calls Try.prog 17 #[.slice A n cap, .slice A2 n2 cap2, .slice A3 n3 cap3] w (RegretPost w lo hi ta) := by
  have hln := hl.len
  have Hb := Lib.hid (rbounds_any A A2 n cap n2 cap2 lo hi w hl hh)
  have Ha := Lib.hid (fun w hl ht => rassigns_any A A3 n cap n3 cap3 lo ta w hl ht)
  have Hno := Lib.hid (fun (h : regC lo hi ta = false) w' (hb : Below w.heap.size w w') => (show RegretPost w lo hi ta (.returned (.tuple #[.int .i64 0, .int .i64 1])) w' from ⟨0, 1, rfl, hb, Or.inl ⟨h, rfl, rfl⟩⟩))
  have Hyes := Lib.hid (fun (h : regC lo hi ta = true) r (hy : RegretYes lo.length (wid lo) lo hi ta r) w' (hb : Below w.heap.size w w') => (show RegretPost w lo hi ta (.returned (.tuple #[.int .i64 r, .int .i64 0])) w' from ⟨r, 0, rfl, hb, Or.inr ⟨h, rfl, hy⟩⟩))
  generalize RegretPost w lo hi ta = Q at *
  cases h1 : bndC lo hi
  · rw [h1] at Hb
    have HN := Lib.hid (Hno.out (by rw [regC, h1]; rfl))
    clear Hno Hyes h1 hln
    go_enter Try.func17, Try.ntmps17
    go_wp2_with fail
    refine Hb.out.mono ?_
    rintro e w1 ⟨rfl, q, rfl⟩
    go_wp2
    exact HN.out _ (below_drewN (Below.refl _ _) q)
  rw [h1] at Hb
  cases h2 : assC lo ta
  · rw [h2] at Ha
    have HN := Lib.hid (Hno.out (by rw [regC, h2, Bool.and_false]))
    clear Hno Hyes h1 h2 hln
    go_enter Try.func17, Try.ntmps17
    go_wp2_with fail
    refine Hb.out.mono ?_
    rintro e w1 ⟨rfl, q, hq⟩
    have hb1 : Below w.heap.size w w1 := by rw [hq]; exact below_drewN (Below.refl _ _) q
    clear hq
    go_wp2_with fail
    refine (Ha.out _ (hl.up ii_lasts hb1) (ht.up (flat_lasts _) hb1)).mono ?_
    rintro e w2 ⟨rfl, q2, hq2⟩
    have hb2 : Below w.heap.size w w2 := by rw [hq2]; exact below_drewN hb1 q2
    clear hq2 hb1
    go_wp2
    exact HN.out _ hb2
  rw [h2] at Ha
  obtain ⟨b1, b2, b3, b4, b5⟩ := bnd_parts h1
  have hwr := worst_right (ta := ta) h1
  have hA0 := ass_as h2
  obtain ⟨N, hN⟩ : ∃ N, wid lo = N := ⟨_, rfl⟩
  rw [hln, hN] at hwr hA0
  have hmn := (rightC_iff.1 b1)
  have hN1 : 1 ≤ n ∧ n ≤ 20 ∧ n ≤ N := by omega
  have hTl : (tabL n N (worF lo hi ta)).length = n := tabL_len
  have hTw : wid (tabL n N (worF lo hi ta)) = N := tabL_wid (by omega)
  have hass : assC (tabL n N (worF lo hi ta)) ta = true := by rw [assC_congr (cl' := lo) (by rw [hTl, hln]) (by rw [hTw, hN])]; exact h2
  have hok : okC (tabL n N (worF lo hi ta)) ta = true := okC_iff.2 ⟨hwr, hass⟩
  have HY := Lib.hid (fun T (hT : First n N (tb (tabL n N (worF lo hi ta))) T) w' (hb : Below w.heap.size w w') => (show Q (.returned (.tuple #[.int .i64 (costF n (tb (tabL n N (worF lo hi ta))) (fun i => (gi ta i).toNat) - costF n (tb (tabL n N (worF lo hi ta))) T), .int .i64 0])) w' from Hyes.out (by rw [regC, h1, h2]; rfl) _ (by rw [hln, hN]; exact regret_yes hA0 hT) w' hb))
  have Hw := Lib.hid (fun (w : World) hl hh ht => worst_any A A2 A3 n cap n2 cap2 n3 cap3 lo hi ta w hl hh ht h1 h2)
  have HwP : RowKit.Hid (∀ (w : World) e w', WorstPost w n lo hi ta e w' → ∃ B c, e = .returned (.slice B n c) ∧ RdII w' w'.heap.size B n c (tabL n N (worF lo hi ta)) ∧ Below w.heap.size w w') := Lib.hid (fun w e w' h => by unfold WorstPost at h; rw [hN] at h; exact h)
  have Hc := Lib.hid (fun B c w hl ht => (rcost_any B A3 n c n3 cap3 (tabL n N (worF lo hi ta)) ta w hl ht).mono fun e w' h => (show e = .returned (.tuple #[.int .i64 (costF n (tb (tabL n N (worF lo hi ta))) (fun i => (gi ta i).toNat)), .int .i64 0]) ∧ ∃ q, w' = w.drewN q from by
    rw [costV_ok hok, costE_ok hok, hTl] at h; exact h))
  have HB := Lib.hid (fun B c w hl => rbest_any B n c N (tabL n N (worF lo hi ta)) hwr hTl hTw w hl)
  have hcb := fun T (hT : As n N T) => cost_bd (c := tb (tabL n N (worF lo hi ta))) (n := N) (fun r k h3 h4 => right_at hwr (i := r) (k := k) (by omega) (by omega)) hT n (Nat.le_refl _)
  have Hcb := Lib.hid (fun T (hT : As n N T) => (show 0 ≤ costF n (tb (tabL n N (worF lo hi ta))) T ∧ costF n (tb (tabL n N (worF lo hi ta))) T ≤ (n : Int) * 1000000000 from hcb T hT))
  have Hcb0 := Lib.hid (Hcb.out _ hA0)
  obtain ⟨n1, n20, nN⟩ := hN1
  clear Hno Hyes h1 h2 b1 b2 b3 b4 b5 hwr hA0 hmn hTl hTw hass hok hcb hln hN
  go_enter Try.func17, Try.ntmps17
  go_wp2_with fail
  refine Hb.out.mono ?_
  rintro e w1 ⟨rfl, q, hq⟩
  have hb1 : Below w.heap.size w w1 := by rw [hq]; exact below_drewN (Below.refl _ _) q
  clear hq
  go_wp2_with fail
  refine (Ha.out _ (hl.up ii_lasts hb1) (ht.up (flat_lasts _) hb1)).mono ?_
  rintro e w2 ⟨rfl, q2, hq2⟩
  have hb2 : Below w.heap.size w w2 := by rw [hq2]; exact below_drewN hb1 q2
  clear hq2 hb1
  go_wp2_with fail
  refine (Hw.out _ (hl.up ii_lasts hb2) (hh.up ii_lasts hb2) (ht.up (flat_lasts _) hb2)).mono ?_
  intro e w3 h3
  obtain ⟨B3, c3, rfl, rd3, hb3⟩ := HwP.out _ _ _ h3
  have hb03 := hb2.trans (hb3.mono hb2.size)
  clear h3 hb3 hb2 Hw HwP
  go_wp2_with fail
  refine (Hc.out _ _ _ rd3 (ht.up (flat_lasts _) hb03)).mono ?_
  rintro e w4 ⟨rfl, q4, hq4⟩
  have hb4 : Below w3.heap.size w3 w4 := by rw [hq4]; exact below_drewN (Below.refl _ _) q4
  have hb04 := hb03.trans (hb4.mono hb03.size)
  have rd4 := rd3.up ii_lasts hb4
  clear hq4 hb4 hb03 rd3 Hc
  go_wp2_with fail
  refine (HB.out _ _ _ rd4).mono ?_
  rintro e w5 ⟨T, a5, cap5, hT, rfl, -, hb5⟩
  have hb05 := hb04.trans (hb5.mono hb04.size)
  have hfin := HY.out T hT w5 hb05
  have h6 := Hcb.out T hT.1
  have h7 := Hcb0.out
  generalize costF n (tb (tabL n N (worF lo hi ta))) (fun i => (gi ta i).toNat) = C1 at *
  generalize costF n (tb (tabL n N (worF lo hi ta))) T = C2 at *
  have hw : IntKind.i64.wrap (C1 - C2) = C1 - C2 := IntWalk.i64_in _ (by omega)
  have Hfin := Lib.hid hfin
  clear hfin h6 h7 hT hb5 hb04 hb05 HY Hcb Hcb0 HB rd4
  go_wp2
  exact Hfin.out
end Go.Proofs.Ytmcamadcoglodaa
