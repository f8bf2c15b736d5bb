/- Walk over only of package idle. Conditions stand in the theorem. -/
import Derived.Test.YtmcamadcoglodaaQ5
import Derived.RegionTactic
import Derived.ChangeAlike
namespace Go.Proofs.Ytmcamadcoglodaa
open Go.RowKit
set_option linter.unusedVariables false

def onlyF (k : Nat) (f : Nat → Int) (i : Nat) : Nat → Int := fun j => if j < i ∧ j ≠ k then 68719476736 else f j
set_option maxRecDepth 100000 in
set_option maxHeartbeats 1000000 in
theorem only_any (g n cap base k : Nat) (f : Nat → Int) (w : World) (ho : Own 1 iEnc w base 3 (.slice (some ⟨g, 0, none⟩) n cap) (ofF n f)) (hn : n ≤ 1000000) (hk : k < n) :
  Calls Try.prog 32 #[.slice (some ⟨g, 0, none⟩) n cap, .int .i64 k] w fun e w' => e = .returned (.tuple #[]) ∧ Own 1 iEnc w' base 3 (.slice (some ⟨g, 0, none⟩) n cap) (ofF n (onlyF k f n)) ∧ Kept (fun b => b = g) w w' := by
  have hcap : n ≤ cap ∧ cap ≤ 9223372036854775807 := by
    have := ho.form (by rw [ofF_len]; omega)
    obtain ⟨g', cap', he, h1, h2, h3, h4, -⟩ := this
    rw [ofF_len] at he h3
    injection he with e1 e2 e3
    omega
  go_enter Try.func32, Try.ntmps32
  go_wp2
  go_loopg [7] n (fun gk a wr => ∃ i : Nat, i ≤ n ∧ gk = n - i ∧ a = .int .i64 i ∧ Own 1 iEnc wr base 3 (.slice (some ⟨g, 0, none⟩) n cap) (ofF n (onlyF k f i)) ∧ Kept (fun b => b = g) w wr)
  case atStart => exact ⟨0, Nat.zero_le _, rfl, rfl, by rw [ofF_congr (g := f) (fun j hj => by unfold onlyF; rw [if_neg (by omega)])]; exact ho, Kept.refl _ _⟩
  case round =>
    clear ho
    obtain ⟨i, hi, rfl, rfl, ho, hkp⟩ := hrel
    by_cases hlt : i < n
    · have hii : (i : Int) < (n : Int) := by omega
      have hi0 : (0 : Int) ≤ (i : Int) := by omega
      obtain ⟨c0, c1⟩ := ho.cellI hlt
      by_cases hik : i = k
      · have hne : ((i : Int) != (k : Int)) = false := by simp [hik]
        have ho2 : Own 1 iEnc wr base 3 (.slice (some ⟨g, 0, none⟩) n cap) (ofF n (onlyF k f (i + 1))) := by
          rw [ofF_congr (g := onlyF k f i) (fun j hj => by
            unfold onlyF
            by_cases e : j < i ∧ j ≠ k
            · rw [if_pos e, if_pos (by omega)]
            · rw [if_neg e, if_neg (by omega)])]
          exact ho
        clear c0 c1
        go_wp2
        go_roundg (n - (i + 1))
        case rel => exact ⟨i + 1, by omega, rfl, by go_num, ho2, hkp⟩
        case measure => omega
      · have hne : ((i : Int) != (k : Int)) = true := by simp; omega
        have ho2 := ho.setI hlt 68719476736
        rw [ofF_congr (g := onlyF k f (i + 1)) (fun j hj => by
          unfold onlyF
          by_cases e : j = i
          · subst e; rw [if_pos rfl, if_pos (by omega)]
          · rw [if_neg e]
            by_cases e2 : j < i ∧ j ≠ k
            · rw [if_pos e2, if_pos (by omega)]
            · rw [if_neg e2, if_neg (by omega)])] at ho2
        have hkp2 : Kept (fun b => b = g) w (wr.setCell ⟨g, i, none⟩ (.int .i64 68719476736)) := hkp.setCell _ (Or.inl rfl)
        go_wp2
        go_roundg (n - (i + 1))
        case rel => exact ⟨i + 1, by omega, rfl, by go_num, ho2, hkp2⟩
        case measure => omega
    · have ee : i = n := by omega
      subst ee
      go_wp2
      go_returns
      exact ⟨rfl, ho, hkp⟩
end Go.Proofs.Ytmcamadcoglodaa
