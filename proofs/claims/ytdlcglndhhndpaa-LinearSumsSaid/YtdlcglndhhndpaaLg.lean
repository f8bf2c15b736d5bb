/- Walk over slices.Clone of fractions, in whatever memory of the caller; an append as a step of a drawn region. Conditions stand in each theorem. -/
import Derived.Test.YtdlcglndhhndpaaLA
import Derived.Test.YtdlcglndhhndpaaTl
namespace Go.Proofs.Ytdlcglndhhndpaa
open Go.RowKit
set_option linter.unusedVariables false
set_option linter.unusedSimpArgs false

/-- a slice of fractions as it lies in memory -/
theorem rdF_raw {w : World} {B : Nat} {A : Option Addr} {n cap : Nat} {l : List Fv} (h : RdF w B A n cap l) : ∃ v : Nat → Rw, Rd 4 (flat Rw.cs) w B A n cap (ofF n v) ∧ (∀ i, i < n → RdI w B (v i).A (v i).n (v i).c (v i).l ∧ RdI w B (v i).B (v i).m (v i).d (v i).k) ∧ ∀ i, i < n → l[i]? = some (v i).fv := by
  by_cases hn : n = 0
  · subst hn
    exact ⟨fun _ => Rw.zero, ⟨rfl, h.2.1, h.2.2.1, fun h => absurd h (by omega)⟩, fun i hi => absurd hi (by omega), fun i hi => absurd hi (by omega)⟩
  · obtain ⟨b, off, rfl, hb, hc⟩ := h.2.2.2 (by omega)
    have hl := h.1
    have ex : ∀ k, k < n → ∃ x : Rw, l[k]? = some x.fv ∧ (∀ (j : Nat) u, x.cs[j]? = some u → w.cell? ⟨b, off + k * 4 + j, none⟩ = some u) ∧ RdI w B x.A x.n x.c x.l ∧ RdI w B x.B x.m x.d x.k := fun k hk => by
      obtain ⟨cs, ⟨A1, n1, c1, A2, n2, c2, rfl, h1, h2⟩, _, hj⟩ := hc k (by omega)
      exact ⟨⟨l[k].s, A1, n1, c1, l[k].l, l[k].t, A2, n2, c2, l[k].m⟩, by rw [List.getElem?_eq_getElem (by omega)]; rfl, hj, h1, h2⟩
    obtain ⟨v, hv⟩ : ∃ v : Nat → Rw, ∀ k, (hk : k < n) → v k = Classical.choose (ex k hk) := ⟨fun k => if hk : k < n then Classical.choose (ex k hk) else Rw.zero, fun k hk => dif_pos hk⟩
    have hs : ∀ k, k < n → l[k]? = some (v k).fv ∧ (∀ (j : Nat) u, (v k).cs[j]? = some u → w.cell? ⟨b, off + k * 4 + j, none⟩ = some u) ∧ RdI w B (v k).A (v k).n (v k).c (v k).l ∧ RdI w B (v k).B (v k).m (v k).d (v k).k := fun k hk => by
      rw [hv k hk]
      exact Classical.choose_spec (ex k hk)
    refine ⟨v, ⟨ofF_len, h.2.1, h.2.2.1, fun _ => ⟨b, off, rfl, hb, fun k hk => ?_⟩⟩, fun i hi => (hs i hi).2.2, fun i hi => (hs i hi).1⟩
    rw [ofF_len] at hk
    refine ⟨(v k).cs, ?_, rfl, (hs k hk).2.1⟩
    have e : (ofF n v)[k]'(by rw [ofF_len]; exact hk) = v k := by
      have := ofF_get (f := v) hk
      rw [List.getElem?_eq_getElem (by rw [ofF_len]; exact hk)] at this
      exact Option.some.inj this
    rw [e]
    rfl
theorem frac_parts : ∃ i z, Try.prog.info? 40 = some i ∧ i.zero = some z ∧ i.size = 4 ∧ i.bytes = 64 ∧ z.cells.size = 4 := by
  obtain ⟨i, h1, h2⟩ := Option.map_eq_some_iff.1 frac_made
  simp only [Prod.mk.injEq] at h2
  obtain ⟨h2, h3, h4⟩ := h2
  obtain ⟨z, h5, h6⟩ := Option.map_eq_some_iff.1 h2
  exact ⟨i, z, h1, h5, h3, h4, by rw [h6]; rfl⟩
set_option maxRecDepth 100000 in
set_option maxHeartbeats 1000000 in
theorem lclone_own (A : Option Addr) (n cap : Nat) (v : Nat → Rw) (w0 w : World) (L : List Blk) (D : List Hl) (K : St w0 L D w) (hl : Rd 4 (flat Rw.cs) w w.heap.size A n cap (ofF n v)) (hn2 : n ≤ 1000) :
    Calls Try.prog 85 #[.slice A n cap] w fun e w' => ∃ val X, e = .returned val ∧ OwL 4 Rw.cs 40 val (ofF n v) X ∧ St w0 (X ++ L) D w' := by
  obtain ⟨i0, z0, hi0, hz0, hz1, hz2, hz3⟩ := frac_parts
  have ho0 : Own 4 Rw.cs (w.alloc (.cells #[] 40)) w.heap.size 40 (.slice (some ⟨w.heap.size, 0, none⟩) 0 0) ([] : List Rw) := Own.lit rw_sized (Nat.le_refl _) [] #[] rfl rfl (by omega)
  have hb0 := (Below.refl w.heap.size w).alloc (Nat.le_refl _) (.cells #[] 40)
  have HK := Lib.hid K
  cases A with
  | none =>
    have hn0 : n = 0 := by
      rcases Nat.eq_zero_or_pos n with h | h
      · exact h
      · obtain ⟨b, off, h, _⟩ := hl.2.2.2 h; cases h
    subst hn0
    have hnil := fun w => run_eql_slice_nil (P := Try.prog) w 23 40 none 0 cap Try.underlying23
    clear ho0 hb0 hl K
    go_enter Try.func85, Try.ntmps85
    go_wp2
    go_ret
    exact ⟨_, [], rfl, OwL.nil, HK.out⟩
  | some a =>
    have hnil := fun w => run_eql_slice_nil (P := Try.prog) w 23 40 (some a) n cap Try.underlying23
    have hk0 := (Kept.refl (fun b => (Value.slice none 0 0).ownBlock = some b) w).alloc (.cells #[] 40)
    clear K
    go_enter Try.func85, Try.ntmps85
    go_wp2_with (at_builtin
                 refine wpList_app _ rw_sized rfl _ _ 23 rfl w.heap.size 40 i0 _ 64 Try.underlying23 hi0 hz0 hz1 hz2 hz3 _ [] rfl ho0 _ _ n cap (ofF n v) rfl (hl.up (flat_lasts _) hb0) (by simp only [maxLen, List.length_nil]; omega) (by simp only [List.length_nil]; omega) (by simp) ?_
                 intro v4 w4 ho4 hg4 hx4
                 have hb4 : Below w.heap.size w w4 := Own.grow ho0 (Nat.le_refl _) hb0 (by simp) hg4)
    go_ret
    rw [List.nil_append] at ho4
    have hk4 : Kept (fun b => (Value.slice none 0 0).ownBlock = some b) w w4 := ⟨hb4.os, hb4.tape, hb4.output, hb4.size, fun i hi _ => hb4.block i hi⟩
    obtain ⟨X', hX, hK'⟩ := OwL.of (X := []) rw_sized OwL.nil HK.out (ho4.mono HK.out.1.size) hk4 (fun g hg => Or.inr (by
      rcases ho4.2 with ⟨rfl, -⟩ | ⟨g', cap', cur, rfl, hg', -⟩
      · cases hg
      · have e : some g' = some g := hg
        injection e with e
        rw [← e]; exact hg'))
    exact ⟨_, X', rfl, hX, hK'⟩
end Go.Proofs.Ytdlcglndhhndpaa
