/- Walk over Or of package cmp, at two ints. Conditions stand in the theorem. -/
import Derived.Test.YtkeajohkpmabcaaDoorW3
namespace Go.Proofs.YtkeajohkpmabcaaDoor
open Go.RowKit
set_option linter.unusedVariables false

def orI : List Int → Int
  | [] => 0
  | x :: l => if x = 0 then orI l else x
theorem orI_skip : ∀ (l : List Int) (k : Nat), k ≤ l.length → (∀ j, j < k → gi l j = 0) → orI l = orI (l.drop k)
  | l, 0, _, _ => by simp
  | [], k + 1, h, _ => by simp at h
  | x :: l, k + 1, h, hz => by
    have h0 : x = 0 := by have := hz 0 (by omega); simpa [gi] using this
    rw [orI, if_pos h0, List.drop_succ_cons]
    exact orI_skip l k (by simpa using h) (fun j hj => by have := hz (j + 1) (by omega); simpa [gi] using this)
set_option maxRecDepth 100000 in
set_option maxHeartbeats 1000000 in
theorem or_any (A : Option Addr) (n cap : Nat) (l : List Int) (w : World) (hl : RdI w w.heap.size A n cap l) :
    Calls Tryd.prog 42 #[.slice A n cap] w fun e w' => e = .returned (.int .i64 (orI l)) ∧ w = w' := by
  have hln := hl.len
  have hcap := hl.caps
  have Hsk := Lib.hid (fun k (hk : k ≤ n) hz => orI_skip l k (by omega) hz)
  have Hdr := Lib.hid (fun k x (hk : k < n) (hx : gi l k = x) => (show l.drop k = x :: l.drop (k + 1) from by
    rw [List.drop_eq_getElem_cons (by omega)]
    congr 1
    rw [← hx]
    exact (gi_eq (List.getElem?_eq_getElem (by omega))).symm))
  have Hend := Lib.hid (show orI (l.drop n) = 0 from by rw [List.drop_eq_nil_of_le (by omega)]; rfl)
  generalize hO : orI l = O at *
  have HO := Lib.hid hO
  clear hO hln
  go_enter Tryd.func42, Tryd.ntmps42
  go_wp2
  go_loopg [8] n (fun gk i wr => ∃ k : Nat, k ≤ n ∧ gk = n - k ∧ i = .int .i64 k ∧ (∀ j, j < k → gi l j = 0) ∧ w = wr)
  case atStart => exact ⟨0, Nat.zero_le _, rfl, rfl, (fun j hj => absurd hj (by omega)), rfl⟩
  case round =>
    obtain ⟨k, hk, rfl, rfl, hz, rfl⟩ := hrel
    have Hz := Lib.hid hz
    clear hz
    by_cases hlt : k < n
    · obtain ⟨b, off, x, rfl, hb, hx, c0⟩ := hl.atI hlt
      have Hx := Lib.hid (gi_eq hx)
      have hki : (k : Int) < (n : Int) := by omega
      have hk0 : (0 : Int) ≤ (k : Int) := by omega
      clear hx
      by_cases h0 : x = 0
      · have hd : (x != 0) = false := by simp [h0]
        have Hn := Lib.hid (show ∀ j, j < k + 1 → gi l j = 0 from fun j hj => by
          by_cases e : j = k
          · subst e; rw [Hx.out]; exact h0
          · exact Hz.out j (by omega))
        clear h0
        go_wp2
        go_roundg (n - (k + 1))
        case rel => exact ⟨k + 1, by omega, rfl, by go_num, Hn.out, rfl⟩
        case measure => omega
      · have hd : (x != 0) = true := by simp [h0]
        have Hf := Lib.hid (show O = x from by
          have h1 := Hsk.out k hk Hz.out
          rw [Hdr.out k x hlt Hx.out] at h1
          rw [h1, orI, if_neg h0])
        clear h0
        go_wp2
        go_ret
        exact ⟨by rw [Hf.out]; rfl, rfl⟩
    · have ee : k = n := by omega
      subst ee
      have Hf := Lib.hid (show O = 0 from by
        have h1 := Hsk.out k hk Hz.out
        rw [Hend.out] at h1
        exact h1)
      go_wp2
      go_ret
      exact ⟨by rw [Hf.out]; rfl, rfl⟩
end Go.Proofs.YtkeajohkpmabcaaDoor
