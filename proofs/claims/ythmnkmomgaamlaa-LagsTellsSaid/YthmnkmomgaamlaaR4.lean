/- Walk over slices.Reverse of steps. Conditions stand in the theorem. -/
import Derived.Test.YthmnkmomgaamlaaLa
import Derived.RegionTactic
import Derived.ChangeAlike
namespace Go.Proofs.Ythmnkmomgaamlaa
open Go.RowKit
set_option linter.unusedVariables false

section
variable {w : World} {base : Nat} {e : TypeId} {g n cap : Nat}
theorem Own.cellT {f : Nat → St} (h : Own 3 tEnc w base e (.slice (some ⟨g, 0, none⟩) n cap) (ofF n f)) {i : Nat} (hi : i < n) :
    (w.cell? ⟨g, i * 3, none⟩ = some (.int .i64 (f i).1) ∧ w.cell? ⟨g, i * 3 + 1, none⟩ = some (.int .i64 (f i).2.1) ∧ w.cell? ⟨g, i * 3 + 2, none⟩ = some (.int .i64 (f i).2.2)) ∧ (∀ j, w.frozen? ⟨g, j, none⟩ = false) := by
  unfold Own at h
  rw [ofF_len] at h
  refine ⟨⟨?_, ?_, ?_⟩, fun j => World.ownsRow.frozenAt h j⟩
  · have h1 := World.ownsRow.cellAt h (i * 3) (by omega)
    have h2 := flatMap_get tSized (ofF n f) i 0 (by omega)
    rw [ofF_get hi, Nat.add_zero] at h2
    rw [h1, h2]; rfl
  · have h1 := World.ownsRow.cellAt h (i * 3 + 1) (by omega)
    have h2 := flatMap_get tSized (ofF n f) i 1 (by omega)
    rw [ofF_get hi] at h2
    rw [h1, h2]; rfl
  · have h1 := World.ownsRow.cellAt h (i * 3 + 2) (by omega)
    have h2 := flatMap_get tSized (ofF n f) i 2 (by omega)
    rw [ofF_get hi] at h2
    rw [h1, h2]; rfl
theorem Own.setT {f : Nat → St} (h : Own 3 tEnc w base e (.slice (some ⟨g, 0, none⟩) n cap) (ofF n f)) {i : Nat} (hi : i < n) (x y z : Int) :
    Own 3 tEnc (((w.setCell ⟨g, i * 3, none⟩ (.int .i64 x)).setCell ⟨g, i * 3 + 1, none⟩ (.int .i64 y)).setCell ⟨g, i * 3 + 2, none⟩ (.int .i64 z)) base e (.slice (some ⟨g, 0, none⟩) n cap) (ofF n (fun j => if j = i then (x, y, z) else f j)) := by
  have h1 := (Own.stored (k := i) (j := 0) (y := (x, (f i).2.1, (f i).2.2)) (u := .int .i64 x) tSized h ofF_len (ofF_get hi) (by omega) rfl).1
  rw [ofF_set] at h1
  have h2 := (Own.stored (k := i) (j := 1) (x := (x, (f i).2.1, (f i).2.2)) (y := (x, y, (f i).2.2)) (u := .int .i64 y) tSized h1 ofF_len (by rw [ofF_get hi, if_pos rfl]) (by omega) rfl).1
  rw [ofF_set] at h2
  have h3 := (Own.stored (k := i) (j := 2) (x := (x, y, (f i).2.2)) (y := (x, y, z)) (u := .int .i64 z) tSized h2 ofF_len (by rw [ofF_get hi, if_pos rfl]) (by omega) rfl).1
  rw [ofF_set] at h3
  rw [ofF_congr (g := fun j => if j = i then (x, y, z) else f j) (fun j hj => by
    by_cases e : j = i
    · simp [e]
    · simp [e])] at h3
  exact h3
end
def revF (n i : Nat) (f : Nat → St) : Nat → St := fun k => if k < i ∨ n < k + i + 1 then f (n - 1 - k) else f k
set_option maxRecDepth 100000 in
set_option maxHeartbeats 1000000 in
theorem reverse_any (g n cap base : Nat) (f : Nat → St) (w : World) (ho : Own 3 tEnc w base 35 (.slice (some ⟨g, 0, none⟩) n cap) (ofF n f)) (hn : 1 ≤ n ∧ n ≤ 1000000) :
  Calls Try.prog 25 #[.slice (some ⟨g, 0, none⟩) n cap] w fun e w' => e = .returned (.tuple #[]) ∧ Own 3 tEnc w' base 35 (.slice (some ⟨g, 0, none⟩) n cap) (ofF n (fun k => f (n - 1 - k))) ∧ Kept (fun b => b = g) w w' := by
  obtain ⟨n1, n2⟩ := hn
  have hcap : n ≤ cap ∧ cap ≤ 9223372036854775807 := by
    have := ho.form (by rw [ofF_len]; omega)
    obtain ⟨g', cap', he, h1, h2, h3, h4, -⟩ := this
    rw [ofF_len] at he h3
    injection he with e1 e2 e3
    omega
  have hw0 : IntKind.i64.wrap ((n : Int) - 1) = (n : Int) - 1 := IntWalk.i64_in _ (by omega)
  go_enter Try.func25, Try.ntmps25
  go_wp2
  go_loopg [2, 3] n (fun gk a b wr => ∃ i : Nat, 2 * i ≤ n + 1 ∧ gk = n - i ∧ a = .int .i64 i ∧ b = .int .i64 ((n : Int) - 1 - i) ∧ Own 3 tEnc wr base 35 (.slice (some ⟨g, 0, none⟩) n cap) (ofF n (revF n i f)) ∧ Kept (fun b => b = g) w wr)
  case atStart => exact ⟨0, by omega, rfl, rfl, by simp, by rw [ofF_congr (g := f) (fun k hk => by unfold revF; rw [if_neg (by omega)])]; exact ho, Kept.refl _ _⟩
  case round =>
    obtain ⟨i, hi, rfl, rfl, rfl, ho, hk⟩ := hrel
    by_cases hlt : (i : Int) < (n : Int) - 1 - i
    · obtain ⟨j, hj⟩ : ∃ j : Nat, (n : Int) - 1 - i = (j : Int) := ⟨n - 1 - i, by omega⟩
      rw [hj]
      have hij : i < j ∧ j < n ∧ j = n - 1 - i := by omega
      obtain ⟨hij1, hij2, hij3⟩ := hij
      obtain ⟨⟨c0, c1, c2⟩, fz⟩ := ho.cellT (i := i) (by omega)
      obtain ⟨⟨d0, d1, d2⟩, -⟩ := ho.cellT (i := j) (by omega)
      obtain ⟨p, hp⟩ : ∃ p, revF n i f i = p := ⟨_, rfl⟩
      obtain ⟨q, hq⟩ : ∃ q, revF n i f j = q := ⟨_, rfl⟩
      rw [hp] at c0 c1 c2
      rw [hq] at d0 d1 d2
      have Hp := Lib.hid hp; have Hq := Lib.hid hq
      clear hp hq
      obtain ⟨p0, p1, p2⟩ := p
      obtain ⟨q0, q1, q2⟩ := q
      simp only at c0 c1 c2 d0 d1 d2
      have f0 := fz (i * 3); have f1 := fz (i * 3 + 1); have f2 := fz (i * 3 + 2); have f3 := fz (j * 3); have f4 := fz (j * 3 + 1); have f5 := fz (j * 3 + 2)
      have hi0 : (0 : Int) ≤ (i : Int) := by omega
      have hj0 : (0 : Int) ≤ (j : Int) := by omega
      have hin : (i : Int) < (n : Int) := by omega
      have hjn : (j : Int) < (n : Int) := by omega
      have hijI : (i : Int) < (j : Int) := by omega
      have hwj : IntKind.i64.wrap ((j : Int) - 1) = (j : Int) - 1 := IntWalk.i64_in _ (by omega)
      have Hij := Lib.hid hij3
      clear fz hj hij3
      go_wp2
      go_region
      have h1 := ((ho.setT (i := i) (by omega) q0 q1 q2).setT (i := j) hij2 p0 p1 p2).drew
      have e : (ofF n fun k => if k = j then (p0, p1, p2) else if k = i then (q0, q1, q2) else revF n i f k) = ofF n (revF n (i + 1) f) := ofF_congr fun k hk => by
        have hj := Hij.out
        have hp := Hp.out
        have hq := Hq.out
        unfold revF at hp hq ⊢
        rw [if_neg (by omega)] at hp hq
        by_cases e1 : k = j
        · rw [if_pos e1, if_pos (by omega), ← hp]; congr 1; omega
        · rw [if_neg e1]
          by_cases e2 : k = i
          · rw [if_pos e2, if_pos (by omega), ← hq]; congr 1; omega
          · rw [if_neg e2]
            by_cases e3 : k < i ∨ n < k + i + 1
            · rw [if_pos e3, if_pos (by omega)]
            · rw [if_neg e3, if_neg (by omega)]
      rw [e] at h1
      have hk2 := ((((((hk.setCell (b := g) (o := i * 3) (.int .i64 q0) (Or.inl rfl)).setCell (b := g) (o := i * 3 + 1) (.int .i64 q1) (Or.inl rfl)).setCell (b := g) (o := i * 3 + 2) (.int .i64 q2) (Or.inl rfl)).setCell (b := g) (o := j * 3) (.int .i64 p0) (Or.inl rfl)).setCell (b := g) (o := j * 3 + 1) (.int .i64 p1) (Or.inl rfl)).setCell (b := g) (o := j * 3 + 2) (.int .i64 p2) (Or.inl rfl)).drew
      have Hji := Lib.hid (show (j : Int) - 1 = (n : Int) - 1 - ((i + 1 : Nat) : Int) by have := Hij.out; omega)
      clear ho hk c0 c1 c2 d0 d1 d2 f0 f1 f2 f3 f4 f5 e
      have hij6 : 2 * (i + 1) ≤ n + 1 := by have := Hij.out; omega
      have hij7 : n - (i + 1) < n - i := by have := Hij.out; omega
      generalize ((((((wr.setCell ⟨g, i * 3, none⟩ (.int .i64 q0)).setCell ⟨g, i * 3 + 1, none⟩ (.int .i64 q1)).setCell ⟨g, i * 3 + 2, none⟩ (.int .i64 q2)).setCell ⟨g, j * 3, none⟩ (.int .i64 p0)).setCell ⟨g, j * 3 + 1, none⟩ (.int .i64 p1)).setCell ⟨g, j * 3 + 2, none⟩ (.int .i64 p2)).drew = w6 at *
      go_wp2
      go_roundg (n - (i + 1))
      case rel => exact ⟨i + 1, hij6, rfl, by go_num, by rw [← Hji.out], h1, hk2⟩
      case measure => exact hij7
      all_goals exact (0 : Nat)
    · have e : (ofF n (revF n i f)) = ofF n (fun k => f (n - 1 - k)) := ofF_congr fun k hk => by
        unfold revF
        by_cases e3 : k < i ∨ n < k + i + 1
        · rw [if_pos e3]
        · rw [if_neg e3]; congr 1; omega
      rw [e] at ho
      clear e
      go_wp2
      go_returns
      exact ⟨rfl, ho, hk⟩
end Go.Proofs.Ythmnkmomgaamlaa
