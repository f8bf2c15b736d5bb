/- Walks over package pool: the closure that tells a window what was claimed. Conditions stand in each theorem. -/
import Derived.Test.YthhmdljfklbbeaaP3
namespace Go.Proofs.Ythhmdljfklbbeaa
open Go.RowKit
set_option linter.unusedVariables false

theorem ofF_more {α : Type} {n : Nat} {f : Nat → α} {x : α} : ofF n f ++ [x] = ofF (n + 1) (fun j => if j < n then f j else x) := by
  rw [ofF_succ, if_neg (Nat.lt_irrefl n), ofF_congr (g := f) (fun i hi => if_pos hi)]
def ClaimPost (w : World) (H : Nat) (p : Pl) (v : Value) (i : Nat) (s : Nat → Int) (win n : Int) (e : Ending) (w' : World) : Prop :=
  e = .returned (.tuple #[]) ∧ ∃ v', Win w' H p v' (i + 1) (fun j => if j < i then s j else n) (win + n) ∧ Kept (fun b => b = H + 1 ∨ b = H + 2 ∨ v.ownBlock = some b) w w' ∧ ∀ g, v'.ownBlock = some g → v.ownBlock = some g ∨ w.heap.size ≤ g
theorem claim_any (H : Nat) (p : Pl) (v : Value) (i : Nat) (s : Nat → Int) (win n : Int) (w : World) (hw : Win w H p v i s win) (hi : i ≤ 1000) (hwin : 0 ≤ win ∧ win ≤ 1000000000000000) (hn : 0 ≤ n ∧ n ≤ 1000000000000000) :
  Calls Try.prog 37 #[.int .i64 n, .pointer (some ⟨H + 1, 0, none⟩), .pointer (some ⟨H + 2, 0, none⟩)] w (ClaimPost w H p v i s win n) := by
  obtain ⟨i0, hi0, hz0, hz1, hz2⟩ := info_parts int_info
  obtain ⟨w1, w2⟩ := hwin
  obtain ⟨n1, n2⟩ := hn
  have hlt := hw.lt
  obtain ⟨cw, ct, cs, fs, cn, fn, own, -⟩ := hw
  go_enter Try.func37, Try.ntmps37
  go_wp2_with (at_builtin; refine wpList_app _ iSized rfl _ _ 32 rfl (H + 3) 3 i0 _ 8 Try.underlying32 hi0 hz0 hz1 hz2 rfl _ (ofF i s) rfl (own.alloc _) _ _ 1 1 [n] rfl (Rd.new1 iSized w n #[.int .i64 n] rfl 3) (by rw [ofF_len]; simp only [maxLen]; omega) (by rw [ofF_len]; omega) (by simp; omega) ?_
               intro v' w' ho hg hx
               obtain ⟨A', c', rfl, -⟩ := ho.rd iSized (by rw [List.length_append, ofF_len]; simp; omega)
               have hlen : (ofF i s ++ [n]).length = i + 1 := by rw [List.length_append, ofF_len]; rfl
               rw [hlen] at ho hx ⊢
               have hkA : Kept (fun b => v.ownBlock = some b) w w' := ((Kept.refl (fun b => v.ownBlock = some b) w).alloc _).trans (grown_kept hg) (fun _ _ h => h)
               have hv1 : ¬ v.ownBlock = some (H + 1) := fun h => by have := (own.lt _ h).1; omega
               have hv2 : ¬ v.ownBlock = some (H + 2) := fun h => by have := (own.lt _ h).1; omega
               have hv0 : ¬ v.ownBlock = some H := fun h => by have := (own.lt _ h).1; omega
               have cs' := (hkA.cell (p := ⟨H + 1, 0, none⟩) (by show H + 1 < _; omega) hv1).trans cs
               have fs' := (hkA.frozen (p := ⟨H + 1, 0, none⟩) (by show H + 1 < _; omega) hv1).trans fs
               have cn' := (hkA.cell (p := ⟨H + 2, 0, none⟩) (by show H + 2 < _; omega) hv2).trans cn
               have fn' := (hkA.frozen (p := ⟨H + 2, 0, none⟩) (by show H + 2 < _; omega) hv2).trans fn
               have cw' := (hkA.cell (p := ⟨H, 4, none⟩) (by show H < _; omega) hv0).trans cw
               have ct' := (hkA.cell (p := ⟨H, 5, none⟩) (by show H < _; omega) hv0).trans ct
               have cn2 : (w'.setCell ⟨H + 1, 0, none⟩ (.slice A' (i + 1) c')).cell? ⟨H + 2, 0, none⟩ = some (.int .i64 win) := (World.cell?_setCell_far _ _ _ _ (by show H + 1 ≠ H + 2; omega)).trans cn'
               have fn2 : (w'.setCell ⟨H + 1, 0, none⟩ (.slice A' (i + 1) c')).frozen? ⟨H + 2, 0, none⟩ = false := (World.frozen?_setCell _ _ _ _).trans fn'
               have hsum : IntKind.i64.wrap (win + n) = win + n := IntWalk.i64_in _ (by omega))
  go_returns
  have hk2 : Kept (fun b => b = H + 1 ∨ b = H + 2) w' ((w'.setCell ⟨H + 1, 0, none⟩ (.slice A' (i + 1) c')).setCell ⟨H + 2, 0, none⟩ (.int .i64 (win + n))) := ((Kept.refl (fun b => b = H + 1 ∨ b = H + 2) w').setCell _ (Or.inl (Or.inl rfl))).setCell _ (Or.inl (Or.inr rfl))
  have hsz := hkA.size
  refine ⟨rfl, .slice A' (i + 1) c', ⟨(hk2.cell (p := ⟨H, 4, none⟩) (by show H < _; omega) (by show ¬ (H = _ ∨ H = _); omega)).trans cw', (hk2.cell (p := ⟨H, 5, none⟩) (by show H < _; omega) (by show ¬ (H = _ ∨ H = _); omega)).trans ct', ?_, ?_, World.cell?_setCell_same _ _ _ cn2, (World.frozen?_setCell _ _ _ _).trans fn2, ?_, by have := hk2.size; omega⟩, ?_, ?_⟩
  · exact (World.cell?_setCell_far _ _ _ _ (by show H + 2 ≠ H + 1; omega)).trans (World.cell?_setCell_same w' ⟨H + 1, 0, none⟩ _ cs')
  · exact (World.frozen?_setCell _ _ _ _).trans ((World.frozen?_setCell _ _ _ _).trans fs')
  · rw [ofF_more] at ho
    exact ho.keptS hk2 (fun g h => by have := (ho.lt g h).1; omega)
  · exact (hkA.mono (T := fun b => b = H + 1 ∨ b = H + 2 ∨ v.ownBlock = some b) (fun _ _ h => Or.inr (Or.inr h))).trans hk2 (fun b _ h => by rcases h with h | h; exact Or.inl h; exact Or.inr (Or.inl h))
  · intro g hg2
    rcases hx with hx | hx
    · exact Or.inl (hx ▸ hg2)
    · rw [hx] at hg2
      injection hg2 with hg2
      right; rw [← hg2]; simp
end Go.Proofs.Ythhmdljfklbbeaa
