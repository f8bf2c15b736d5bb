
/- Contracts of the functions on digits, in a world in which a function with two boxed big integers and a result keeps its cells. Conditions stand in each theorem. -/
import Derived.Test.YtkeajohkpmabcaaDoorW11
import Derived.Test.YtkeajohkpmabcaaDoorW5
import Derived.Test.YtkeajohkpmabcaaDoorW7
namespace Go.Proofs.YtkeajohkpmabcaaDoor
open Go.RowKit
set_option linter.unusedVariables false

theorem new_thaw (w : World) (cs : Array Value) (t : TypeId) {j : Nat} : (w.alloc (.cells cs t)).frozen? ⟨w.heap.size, j, none⟩ = false := by simp
theorem raw2 {w W : World} {g : Nat} {u0 u1 u2 u3 : Value} : BxC w g [(0, 0, u0), (0, 1, u1), (1, 0, u2), (1, 1, u3)] [(2, 0), (2, 1)] W ↔ (Below w.heap.size w W ∧ ((W.cell? ⟨g, 0, none⟩ = some u0 ∧ W.cell? ⟨g, 1, none⟩ = some u1) ∧ W.cell? ⟨g + 1, 0, none⟩ = some u2 ∧ W.cell? ⟨g + 1, 1, none⟩ = some u3) ∧ (W.cell? ⟨g + 2, 0, none⟩ = some (cellD W ⟨g + 2, 0, none⟩) ∧ W.cell? ⟨g + 2, 1, none⟩ = some (cellD W ⟨g + 2, 1, none⟩)) ∧ W.frozen? ⟨g + 2, 0, none⟩ = false ∧ W.frozen? ⟨g + 2, 1, none⟩ = false) := by
  simp [BxC, and_assoc]
theorem box2 (w : World) (u0 u1 u2 u3 z0 z1 : Value) (t t' t'' : TypeId) : BxC w w.heap.size [(0, 0, u0), (0, 1, u1), (1, 0, u2), (1, 1, u3)] [(2, 0), (2, 1)] (((w.alloc (.cells #[u0, u1] t)).alloc (.cells #[u2, u3] t')).alloc (.cells #[z0, z1] t'')) := by
  rw [raw2]
  have hs1 : (w.alloc (.cells #[u0, u1] t)).heap.size = w.heap.size + 1 := by simp
  have hs2 : ((w.alloc (.cells #[u0, u1] t)).alloc (.cells #[u2, u3] t')).heap.size = w.heap.size + 2 := by simp
  have hb1 := (Below.refl w.heap.size w).alloc (Nat.le_refl _) (.cells #[u0, u1] t)
  have hb2 := hb1.alloc hb1.size (.cells #[u2, u3] t')
  have k1 := fun (W : World) o => (Below.refl W.heap.size W).alloc (Nat.le_refl _) o
  exact ⟨hb2.alloc hb2.size _, ⟨⟨keep_cell (k1 _ _) (keep_cell (k1 _ _) (new_cell rfl rfl)), keep_cell (k1 _ _) (keep_cell (k1 _ _) (new_cell rfl rfl))⟩, keep_cell (k1 _ _) (new_cell hs1 rfl), keep_cell (k1 _ _) (new_cell hs1 rfl)⟩, ⟨cellD_iff.2 (by rw [new_cell hs2 rfl]; rfl), cellD_iff.2 (by rw [new_cell hs2 rfl]; rfl)⟩, by rw [← hs2]; exact new_thaw _ _ _, by rw [← hs2]; exact new_thaw _ _ _⟩
theorem digs_short {x : Int} {n : Nat} (h : x < pw n) (hn : n ≤ 100000) : (digs x.toNat).length ≤ 100000 := by
  have := digs_small h; omega
section
variable (A A2 : Option Addr) (n cap n2 cap2 : Nat) (a b : List Int) (w : World) (ha : RdI w w.heap.size A n cap a) (hb : RdI w w.heap.size A2 n2 cap2 b)
include ha hb
theorem mulD (ca : DgOk a) (cb : DgOk b) (hn : n ≤ 1000) (hn2 : n2 ≤ 1000) : Calls Tryd.prog 33 #[.slice A n cap, .slice A2 n2 cap2] w (DigR w (digs (val a * val b).toNat)) :=
  (bmul_any A A2 n cap n2 cap2 a b w ha hb ca cb (by omega) (by omega)).mono fun e w' h => own_dig (by
    refine digs_short (n := n + n2) ?_ (by omega)
    rw [pw_add]
    have h1 := val_lt ca; have h2 := val_lt cb
    have h3 := val_nonneg ca; have h4 := val_nonneg cb
    rw [ha.len] at h1; rw [hb.len] at h2
    calc val a * val b ≤ val a * pw n2 := Int.mul_le_mul_of_nonneg_left (by omega) h3
      _ < pw n * pw n2 := Int.mul_lt_mul_of_pos_right h1 (pw_pos _)) h
theorem addD (ca : DgOk a) (cb : DgOk b) (hn : n ≤ 1000) (hn2 : n2 ≤ 1000) : Calls Tryd.prog 31 #[.slice A n cap, .slice A2 n2 cap2] w (DigR w (digs (val a + val b).toNat)) :=
  (badd_any A A2 n cap n2 cap2 a b w ha hb ca cb (by omega) (by omega)).mono fun e w' h => own_dig (by
    refine digs_short (n := 1001) ?_ (by omega)
    have h1 := val_lt ca; have h2 := val_lt cb
    rw [ha.len] at h1; rw [hb.len] at h2
    have h5 := pw_le hn; have h6 := pw_le hn2
    have h7 : pw 1001 = 1048576 * pw 1000 := by rw [pw]
    have h8 := pw_pos 1000
    omega) h
theorem subD (ca : DgOk a) (cb : DgOk b) (hn : n ≤ 1000) (hn2 : n2 ≤ n) (hle : val b ≤ val a) : Calls Tryd.prog 32 #[.slice A n cap, .slice A2 n2 cap2] w (DigR w (digs (val a - val b).toNat)) :=
  (bsub_any A A2 n cap n2 cap2 a b w ha hb ca cb (by omega) hn2 hle).mono fun e w' h => own_dig (by
    refine digs_short (n := n) ?_ (by omega)
    have h1 := val_lt ca; have h2 := val_nonneg cb
    rw [ha.len] at h1
    omega) h
end
/-- the shorter one has no more digits -/
theorem cn_le {a b : List Int} (ca : Cn a) (cb : DgOk b) (h : val a ≤ val b) : a.length ≤ b.length := by
  refine Classical.byContradiction fun hc => ?_
  have := cn_longer cb ca (by omega)
  omega
/-- a world's contracts, with the cells kept -/
theorem DigR.keep {w W : World} {g : Nat} {L : List (Nat × Nat × Value)} {R : List (Nat × Nat)} {m j : Nat} {l : List Int} {e : Ending} {W' : World} (h : BxC w g L R W) (hm : (m, j) ∈ R) (hd : DigR W l e W') : ∃ A' n' c', e = Ending.returned (.slice A' n' c') ∧ RdI W' W'.heap.size A' n' c' l ∧ FrA (g + m + 1) A' ∧ BxC w g L R W' ∧ Below W.heap.size W W' := by
  obtain ⟨A', n', c', he, hr, hf, hb⟩ := hd
  exact ⟨A', n', c', he, hr, hf.mono (h.lt hm), h.keep hb, hb⟩
theorem SigR.keep {w W : World} {g : Nat} {L : List (Nat × Nat × Value)} {R : List (Nat × Nat)} {A : Option Addr} {z : Int} {e : Ending} {W' : World} (h : BxC w g L R W) (hd : SigR W A z e W') : ∃ s' A' n' c' l', e = Ending.returned (.agg #[.int .i64 s', .slice A' n' c']) ∧ RdI W' W'.heap.size A' n' c' l' ∧ Std s' l' z ∧ (∀ B, FrA B A → FrA B A') ∧ BxC w g L R W' ∧ Below W.heap.size W W' := by
  obtain ⟨s', A', n', c', l', he, hr, hs, hf, hb⟩ := hd
  exact ⟨s', A', n', c', l', he, hr, hs, hf, h.keep hb, hb⟩
theorem ChkR.keep {w W : World} {g : Nat} {L : List (Nat × Nat × Value)} {R : List (Nat × Nat)} {A : Option Addr} {z c : Int} {e : Ending} {W' : World} (h : BxC w g L R W) (hd : ChkR W A z c e W') : ∃ s' A' n' c' l', e = Ending.returned (.tuple #[.agg #[.int .i64 s', .slice A' n' c'], .int .i64 c]) ∧ RdI W' W'.heap.size A' n' c' l' ∧ Std s' l' z ∧ (∀ B, FrA B A → FrA B A') ∧ BxC w g L R W' ∧ Below W.heap.size W W' := by
  obtain ⟨s', A', n', c', l', he, hr, hs, hf, hb⟩ := hd
  exact ⟨s', A', n', c', l', he, hr, hs, hf, h.keep hb, hb⟩
end Go.Proofs.YtkeajohkpmabcaaDoor
