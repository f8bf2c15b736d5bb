/- Walk over with of package idle. Conditions stand in the theorem. -/
import Derived.Test.YtmcamadcoglodaaQ8
import Derived.Test.YtmcamadcoglodaaFy
import Derived.Test.YtmcamadcoglodaaFw
import Derived.Test.YtmcamadcoglodaaCopy
namespace Go.Proofs.Ytmcamadcoglodaa
open Go.RowKit
set_option linter.unusedVariables false

def WithPost (w : World) (base m n h : Nat) (rows caps : Nat → Nat) (D : Nat → Nat → Int) (i k : Nat) (least : Int) (e : Ending) (w' : World) : Prop :=
  ∃ (T : Nat → Nat) (g : Nat), e = .returned (.tuple #[.slice (some ⟨g, 0, none⟩) m m, .bool (decide (costF m (updR D i (onlyF k (D i) n)) T = least))]) ∧ As m n T ∧ (∀ G, As m n G → costF m (updR D i (onlyF k (D i) n)) T ≤ costF m (updR D i (onlyF k (D i) n)) G) ∧
    Own 1 iEnc w' w.heap.size 3 (.slice (some ⟨g, 0, none⟩) m m) (ofF m (fun r => ((T r : Nat) : Int))) ∧ Fx w' base m n m h rows caps D ∧ Kept (fun b => b = rows i) w w'
set_option maxRecDepth 100000 in
set_option maxHeartbeats 2000000 in
theorem with_any (base m n h i k : Nat) (rows caps : Nat → Nat) (D : Nat → Nat → Int) (least : Int) (w : World) (hf : Fx w base m n m h rows caps D) (hD : ∀ r q, r < m → q < n → 0 ≤ D r q ∧ D r q ≤ 68719476736) (hmn : 1 ≤ m ∧ m ≤ n ∧ n ≤ 40 ∧ m ≤ 20) (hi : i < m) (hk : k < n) :
    Calls Try.prog 31 #[.slice (some ⟨h, 0, none⟩) m m, .int .i64 i, .int .i64 k, .int .i64 least] w (WithPost w base m n h rows caps D i k least) := by
  obtain ⟨i0, hi0, hz0, hz1, hz2⟩ := info_parts int_info
  obtain ⟨q1, q2, q3, q4⟩ := hmn
  have hbd := onlyR_bd (i := i) (k := k) hD
  have htab := tabL_tab (m := m) (n := n) hbd ⟨q1, q2, q3, q4⟩ ⟨by omega, by omega⟩
  have Hbd := Lib.hid hbd; have Htab := Lib.hid htab; have HD := Lib.hid hD
  have c0 := hf.head hi hi
  have hci := (hf.row i hi).capOf (by rw [ofF_len]; omega)
  have hii : (i : Int) < (m : Int) := by omega
  have hi0' : (0 : Int) ≤ (i : Int) := by omega
  have hcpost : ∀ e w', WithPost w base m n h rows caps D i k least e w' = ∃ (T : Nat → Nat) (g : Nat), e = .returned (.tuple #[.slice (some ⟨g, 0, none⟩) m m, .bool (decide (costF m (updR D i (onlyF k (D i) n)) T = least))]) ∧ As m n T ∧ (∀ G, As m n G → costF m (updR D i (onlyF k (D i) n)) T ≤ costF m (updR D i (onlyF k (D i) n)) G) ∧
    Own 1 iEnc w' w.heap.size 3 (.slice (some ⟨g, 0, none⟩) m m) (ofF m (fun r => ((T r : Nat) : Int))) ∧ Fx w' base m n m h rows caps D ∧ Kept (fun b => b = rows i) w w' := fun _ _ => rfl
  have Hpost := Lib.hid hcpost
  clear hbd htab hD hcpost
  generalize WithPost w base m n h rows caps D i k least = Q at *
  go_enter Try.func31, Try.ntmps31
  -- the old row
  go_wp2_with fail
  obtain ⟨A0, cc0, hv0, r0⟩ := (hf.row i hi).rd iSized (by rw [ofF_len]; omega)
  rw [ofF_len] at hv0 r0
  injection hv0 with v1 v2 v3
  subst v1 v3
  refine (clone_any _ n _ _ w r0 (by omega) (by omega)).mono ?_
  rintro e w1 ⟨g1, c1, rfl, ho1, hb1⟩
  have hf1 := hf.below hb1
  have c01 := hf1.head hi hi
  clear r0 v2 c0
  -- only this column
  go_wp2_with fail
  refine (only_any (rows i) n (caps i) base k (D i) w1 (hf1.row i hi) (by omega) hk).mono ?_
  rintro e w2 ⟨rfl, ho2, hk2⟩
  have hf2 := hf1.turn hi hk2 ho2
  have hg1 : g1 ≠ rows i := fun e => by
    have h1 := (ho1.lt g1 rfl).1
    have h2 := (hf.rlt hi).2
    omega
  have ho12 := ho1.keptS hk2 (fun q hq e => by
    have h1 : g1 = q := by simpa [Value.ownBlock] using hq
    omega)
  have hkw2 : Kept (fun b => b = rows i) w w2 := (below_keptAll hb1).mono (fun _ _ h => False.elim h) |>.trans hk2 (fun _ _ h => h)
  clear hf1 c01 ho1 hk2
  have hr2 := hf2.rd (by omega) (by omega) (by omega)
  -- prices
  go_wp2_with fail
  refine (prices_any _ m _ m n 68719476736 w2 hr2 Htab.out).mono ?_
  intro e w3 hp3
  obtain ⟨T, R, K, gT, g2, g3, rfl, hT, rR, rK, hce, hRb, hKb, hb3⟩ := hp3
  have hce' := hce.congr (fun r q hr hq => tabL_at hr hq)
  have Hce := Lib.hid hce'
  have hf3 := hf2.below hb3
  have ho13 := ho12.below hb3
  have hr3 := hf3.rd (by omega) (by omega) (by omega)
  have hkw3 : Kept (fun b => b = rows i) w w3 := hkw2.trans (below_keptAll hb3) (fun _ _ h => False.elim h)
  obtain ⟨A4, cc4, hv4, r4⟩ := hT.rd iSized (by rw [ofF_len]; omega)
  rw [ofF_len] at hv4 r4
  injection hv4 with v1 v2 v3
  subst v1 v3
  have hcost := tab_costT (n := n) (D := updR D i (onlyF k (D i) n)) (T := T) (fun r hr => hce'.1.1 r hr) m (Nat.le_refl _)
  have hcost2 : costT (tabL m n (updR D i (onlyF k (D i) n))) (ofF m (fun r => ((T r : Nat) : Int))) m = costF m (updR D i (onlyF k (D i) n)) T := hcost
  have Hc2 := Lib.hid hcost2
  have Hsums := Lib.hid (tab_sums Htab.out Hbd.out (fun r hr => hce'.1.1 r hr))
  have hfield := fun w => field_to w (.slice (some ⟨gT, 0, none⟩) m m) (.slice (some ⟨g2, 1, none⟩) m m) (.slice (some ⟨g3, 1, none⟩) n n)
  clear hce hce' hcost hcost2 hRb hKb rR rK hr2 v2
  go_wp2_with fail
  refine (cost_any _ _ m m m m _ _ w3 hr3 r4 Hsums.out).mono ?_
  rw [Hc2.out]
  rintro e _ ⟨rfl, rfl⟩
  obtain ⟨C, hC⟩ : ∃ C, C = costF m (updR D i (onlyF k (D i) n)) T := ⟨_, rfl⟩
  rw [← hC]
  have HC := Lib.hid hC
  have c03 := hf3.head hi hi
  obtain ⟨A5, cc5, hv5, r5⟩ := ho13.rd iSized (by rw [ofF_len]; omega)
  rw [ofF_len] at hv5 r5
  injection hv5 with v1 v2 v3
  subst v1 v3
  have hci5 := r5.caps
  clear hC hf2 v2 hr3 r4
  go_wp2_with (first
    | (refine wpList_cp _ iSized rfl _ _ 23 23 rfl Try.underlying23 hi0 hz1 (hf3.row i hi) ofF_len _ _ _ 0 n rfl _ _ _ _ (ofF n (D i)) rfl r5 (by simp [Nat.min]) (by omega) (Or.inl (by simp)) ?_
       intro w4 ho4 hg4))
  have hk4 : Kept (fun b => b = rows i) w3 w4 := (grown_kept hg4).mono (fun b _ e => by injection e with e; exact e.symm)
  have hkw4 := hkw3.trans hk4 (fun _ _ h => h)
  have ho5 : Own 1 iEnc w4 base 3 (.slice (some ⟨rows i, 0, none⟩) n (caps i)) (ofF n (D i)) := by
    have e : (ofF n (updR D i (onlyF k (D i) n) i)).take 0 ++ (ofF n (D i)).take n ++ (ofF n (updR D i (onlyF k (D i) n) i)).drop (0 + n) = ofF n (D i) := by
      rw [List.take_zero, List.nil_append, List.take_of_length_le (by rw [ofF_len]; exact Nat.le_refl _), List.drop_eq_nil_of_le (by rw [ofF_len]; omega), List.append_nil]
    rw [← e]
    exact ho4
  have hf4 := hf3.turn hi hk4 ho5
  rw [updR_back] at hf4
  have hgT : gT ≠ rows i := fun e => by
    have h1 := (hT.lt gT rfl).1
    have h2 := (hf.rlt hi).2
    have h3 := hkw2.size
    omega
  have hT4 := (hT.mono (base' := w.heap.size) hkw2.size).keptS hk4 (fun q hq e => by
    have h1 : gT = q := by simpa [Value.ownBlock] using hq
    exact hgT (by omega))
  change Q (.returned (.tuple #[.slice (some ⟨gT, 0, none⟩) m m, .bool (C == least)])) w4
  rw [Hpost.out]
  refine ⟨T, gT, ?_, Hce.out.1, fun G hG => Hce.out.least hG, hT4, hf4, hkw4⟩
  rw [← HC.out]
  rfl
end Go.Proofs.Ytmcamadcoglodaa
