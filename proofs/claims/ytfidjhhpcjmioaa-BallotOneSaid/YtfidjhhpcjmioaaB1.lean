/- Walks over package ballot and its reference: a card alone. Conditions stand in each theorem. -/
import Derived.Test.YtfidjhhpcjmioaaShj
import Derived.Test.YtfidjhhpcjmioaaStep
import Derived.Deep.LoopGhost
namespace Go.Proofs.Ytfidjhhpcjmioaa
open Go.RowKit
set_option linter.unusedVariables false

abbrev Crd := Int × List (Int × Int)
/-- a card: its member, and its shares -/
def cdE : Enc Crd := fun w B c cs => ∃ A n cap, cs = [.int .i64 c.1, .slice A n cap] ∧ RdP w B A n cap c.2
theorem cdE_lasts : Lasts cdE := fun w w' B B' x cs h hB hk => by
  obtain ⟨A, n, cap, rfl, hr⟩ := h
  exact ⟨A, n, cap, rfl, hr.keep (flat_lasts _) hB hk⟩
abbrev RdC := Rd 2 cdE
theorem Rd.atC {w : World} {B : Nat} {A : Option Addr} {n cap : Nat} {l : List Crd} (h : RdC w B A n cap l) {k : Nat} (hk : k < n) :
    ∃ b off m sh A' n' cap', A = some ⟨b, off, none⟩ ∧ b < B ∧ l[k]? = some (m, sh) ∧ w.cell? ⟨b, off + k * 2, none⟩ = some (.int .i64 m) ∧ w.cell? ⟨b, off + k * 2 + 1, none⟩ = some (.slice A' n' cap') ∧ RdP w B A' n' cap' sh := by
  obtain ⟨b, off, rfl, hb, hc⟩ := h.2.2.2 (by omega)
  have hl := h.1
  obtain ⟨cs, ⟨A', n', cap', rfl, hr⟩, _, hj⟩ := hc k (by omega)
  exact ⟨b, off, l[k].1, l[k].2, A', n', cap', rfl, hb, List.getElem?_eq_getElem (by omega), hj 0 _ rfl, hj 1 _ rfl, hr⟩

/-- the row j of a card's shares is right -/
def rowOk (l : List (Int × Int)) (j : Nat) : Bool := decide (fx l j = (j : Int) + 1) && decide (0 ≤ fy l j) && decide (fy l j < 2147483647)
def rowsOk (l : List (Int × Int)) : Nat → Bool
  | 0 => true
  | k + 1 => rowsOk l k && rowOk l k
theorem rowsOk_bad {l : List (Int × Int)} {k : Nat} (h : rowOk l k = false) : ∀ n, k < n → rowsOk l n = false
  | 0, hk => absurd hk (by omega)
  | n + 1, hk => by
    rw [rowsOk]
    by_cases e : k = n
    · subst e; rw [h, Bool.and_false]
    · rw [rowsOk_bad h n (by omega), Bool.false_and]
/-- a card alone is right -/
def memF (m : Int) : Bool := decide (0 ≤ m) && decide (m < 4000)
def cardF (c : Crd) (t : Int) : Bool := memF c.1 && decide ((c.2.length : Int) = t) && rowsOk c.2 c.2.length

theorem isMember_any (m : Int) (w : World) : Calls Try.prog 45 #[.int .i64 m] w fun e w' => e = .returned (.bool (memF m)) ∧ w = w' := by
  by_cases h1 : 0 ≤ m
  · have hd : memF m = decide (m < 4000) := by simp [memF, h1]
    rw [hd]
    go_enter Try.func45, Try.ntmps45
    go_wp2
    go_ret
    exact ⟨rfl, rfl⟩
  · have hd : memF m = false := by simp [memF, h1]
    have hdd : decide (0 ≤ m) = false := by simp; omega
    rw [hd]
    go_enter Try.func45, Try.ntmps45
    go_wp2
    go_ret
    exact ⟨rfl, rfl⟩
theorem rmember_any (m : Int) (w : World) : Calls Try.prog 46 #[.int .i64 m] w fun e w' => e = .returned (.bool (memF m)) ∧ w = w' := by
  by_cases h1 : 0 ≤ m
  · have hd : memF m = decide (m < 4000) := by simp [memF, h1]
    rw [hd]
    go_enter Try.func46, Try.ntmps46
    go_wp2
    go_ret
    exact ⟨rfl, rfl⟩
  · have hd : memF m = false := by simp [memF, h1]
    have hdd : decide (0 ≤ m) = false := by simp; omega
    rw [hd]
    go_enter Try.func46, Try.ntmps46
    go_wp2
    go_ret
    exact ⟨rfl, rfl⟩

theorem bright_any (m : Int) (A : Option Addr) (n cap : Nat) (l : List (Int × Int)) (t : Int) (w : World) (hl : RdP w w.heap.size A n cap l) (ht : -9223372036854775808 ≤ t ∧ t ≤ 9223372036854775807) :
  Calls Try.prog 48 #[.agg #[.int .i64 m, .slice A n cap], .int .i64 t] w fun e w' => e = .returned (.bool (cardF (m, l) t)) ∧ Below w.heap.size w w' := by
  have hcaps := hl.caps
  have Hn := Lib.hid hl.len
  cases hm : memF m
  · have hd : cardF (m, l) t = false := by simp [cardF, hm]
    rw [hd]
    have HM := Lib.hid hm; clear hm
    go_enter Try.func48, Try.ntmps48
    go_wp2_with (go_at_call 45; refine (isMember_any _ _).mono ?_; rw [HM.out]; rintro e w1 ⟨rfl, rfl⟩)
    go_ret
    exact ⟨rfl, (Below.refl _ _).alloc (Nat.le_refl _) _⟩
  · have HM := Lib.hid hm; clear hm
    by_cases hnt : (n : Int) = t
    · subst hnt
      have hd : cardF (m, l) n = rowsOk l n := by simp [cardF, HM.out, Hn.out]
      rw [hd]
      go_enter Try.func48, Try.ntmps48
      go_wp2_with (go_at_call 45; refine (isMember_any _ _).mono ?_; rw [HM.out]; rintro e w1 ⟨rfl, rfl⟩)
      go_loopg [21] n (fun gk i wr => ∃ j : Nat, j ≤ n ∧ gk = n - j ∧ i = .int .i64 j ∧ rowsOk l j = true ∧ Below w.heap.size w wr)
      case atStart => exact ⟨0, Nat.zero_le _, rfl, rfl, rfl, (Below.refl _ _).alloc (Nat.le_refl _) _⟩
      case round =>
        obtain ⟨j, hj, rfl, rfl, hrow, hb⟩ := hrel
        by_cases hlt : j < n
        · obtain ⟨b, off, x, y, rfl, hbB, hxy, c0, c1⟩ := (hl.below (flat_lasts _) hb (Nat.le_refl _) (Nat.le_refl _)).atP hlt
          have hr : rowOk l j = (decide (x = (j : Int) + 1) && decide (0 ≤ y) && decide (y < 2147483647)) := by rw [rowOk, fx_eq hxy, fy_eq hxy]
          have hno : rowOk l j = false → rowsOk l n = false := fun h => rowsOk_bad h n hlt
          have hyes : rowOk l j = true → rowsOk l (j + 1) = true := fun h => by rw [rowsOk, hrow, h]; rfl
          have Hr := Lib.hid hr; have Hno := Lib.hid hno; have Hyes := Lib.hid hyes
          have hjw : IntKind.i64.wrap ((j : Int) + 1) = (j : Int) + 1 := IntWalk.i64_in _ (by omega)
          clear hr hno hyes hxy hrow
          have hji : (j : Int) < (n : Int) := by omega
          have hj0 : (0 : Int) ≤ (j : Int) := by omega
          have hsz := hb.size
          by_cases h1 : x = (j : Int) + 1
          · subst h1
            have e1 : (((j : Int) + 1) != ((j : Int) + 1)) = false := by simp
            by_cases h2 : y < 0
            · go_wp2
              go_ret
              exact ⟨congrArg (fun z => Ending.returned (Value.bool z)) (Hno.out (by rw [Hr.out]; simp; omega)).symm, hb.alloc hb.size _⟩
            · have d2 : decide (y < 0) = false := by simp; omega
              by_cases h3 : y < 2147483647
              · have d3 : decide (2147483647 ≤ y) = false := by simp; omega
                go_wp2
                go_roundg (n - (j + 1))
                case rel => exact ⟨j + 1, by omega, rfl, by go_num, Hyes.out (by rw [Hr.out]; simp; omega), hb.alloc hb.size _⟩
                case measure => omega
              · have d3 : decide (2147483647 ≤ y) = true := by simp; omega
                go_wp2
                go_ret
                exact ⟨congrArg (fun z => Ending.returned (Value.bool z)) (Hno.out (by rw [Hr.out]; simp; omega)).symm, hb.alloc hb.size _⟩
          · have e1 : (x != (j : Int) + 1) = true := by simpa using h1
            go_wp2
            go_ret
            exact ⟨congrArg (fun z => Ending.returned (Value.bool z)) (Hno.out (by rw [Hr.out]; simp [h1])).symm, hb.alloc hb.size _⟩
        · have e : j = n := by omega
          subst e
          go_wp2
          go_ret
          exact ⟨by rw [hrow]; rfl, hb⟩
    · have hd : cardF (m, l) t = false := by simp [cardF, Hn.out, hnt]
      rw [hd]
      go_enter Try.func48, Try.ntmps48
      go_wp2_with (go_at_call 45; refine (isMember_any _ _).mono ?_; rw [HM.out]; rintro e w1 ⟨rfl, rfl⟩)
      go_ret
      exact ⟨rfl, (Below.refl _ _).alloc (Nat.le_refl _) _⟩
theorem rright_any (m : Int) (A : Option Addr) (n cap : Nat) (l : List (Int × Int)) (t : Int) (w : World) (hl : RdP w w.heap.size A n cap l) (ht : -9223372036854775808 ≤ t ∧ t ≤ 9223372036854775807) :
  Calls Try.prog 49 #[.agg #[.int .i64 m, .slice A n cap], .int .i64 t] w fun e w' => e = .returned (.bool (cardF (m, l) t)) ∧ Below w.heap.size w w' := by
  have hcaps := hl.caps
  have Hn := Lib.hid hl.len
  cases hm : memF m
  · have hd : cardF (m, l) t = false := by simp [cardF, hm]
    rw [hd]
    have HM := Lib.hid hm; clear hm
    go_enter Try.func49, Try.ntmps49
    go_wp2_with (go_at_call 46; refine (rmember_any _ _).mono ?_; rw [HM.out]; rintro e w1 ⟨rfl, rfl⟩)
    go_ret
    exact ⟨rfl, (Below.refl _ _).alloc (Nat.le_refl _) _⟩
  · have HM := Lib.hid hm; clear hm
    by_cases hnt : (n : Int) = t
    · subst hnt
      have hd : cardF (m, l) n = rowsOk l n := by simp [cardF, HM.out, Hn.out]
      rw [hd]
      go_enter Try.func49, Try.ntmps49
      go_wp2_with (go_at_call 46; refine (rmember_any _ _).mono ?_; rw [HM.out]; rintro e w1 ⟨rfl, rfl⟩)
      go_loopg [5] n (fun gk i wr => ∃ j : Nat, j ≤ n ∧ gk = n - j ∧ i = .int .i64 j ∧ rowsOk l j = true ∧ wr.cell? ⟨w.heap.size, 1, none⟩ = some (.slice A n cap) ∧ Below w.heap.size w wr)
      case atStart => exact ⟨0, Nat.zero_le _, rfl, rfl, rfl, by simp, (Below.refl _ _).alloc (Nat.le_refl _) _⟩
      case round =>
        obtain ⟨j, hj, rfl, rfl, hrow, hbox, hb⟩ := hrel
        by_cases hlt : j < n
        · obtain ⟨b, off, x, y, rfl, hbB, hxy, c0, c1⟩ := (hl.below (flat_lasts _) hb (Nat.le_refl _) (Nat.le_refl _)).atP hlt
          have hr : rowOk l j = (decide (x = (j : Int) + 1) && decide (0 ≤ y) && decide (y < 2147483647)) := by rw [rowOk, fx_eq hxy, fy_eq hxy]
          have hno : rowOk l j = false → rowsOk l n = false := fun h => rowsOk_bad h n hlt
          have hyes : rowOk l j = true → rowsOk l (j + 1) = true := fun h => by rw [rowsOk, hrow, h]; rfl
          have Hr := Lib.hid hr; have Hno := Lib.hid hno; have Hyes := Lib.hid hyes
          have hjw : IntKind.i64.wrap ((j : Int) + 1) = (j : Int) + 1 := IntWalk.i64_in _ (by omega)
          clear hr hno hyes hxy hrow
          have hji : (j : Int) < (n : Int) := by omega
          have hj0 : (0 : Int) ≤ (j : Int) := by omega
          have hsz := hb.size
          by_cases h1 : x = (j : Int) + 1
          · subst h1
            have e1 : (((j : Int) + 1) != ((j : Int) + 1)) = false := by simp
            by_cases h2 : y < 0
            · go_wp2
              go_ret
              exact ⟨congrArg (fun z => Ending.returned (Value.bool z)) (Hno.out (by rw [Hr.out]; simp; omega)).symm, hb⟩
            · have d2 : decide (y < 0) = false := by simp; omega
              by_cases h3 : y < 2147483647
              · have d3 : decide (2147483647 ≤ y) = false := by simp; omega
                go_wp2
                go_roundg (n - (j + 1))
                case rel => exact ⟨j + 1, by omega, rfl, by go_num, Hyes.out (by rw [Hr.out]; simp; omega), hbox, hb⟩
                case measure => omega
              · have d3 : decide (2147483647 ≤ y) = true := by simp; omega
                go_wp2
                go_ret
                exact ⟨congrArg (fun z => Ending.returned (Value.bool z)) (Hno.out (by rw [Hr.out]; simp; omega)).symm, hb⟩
          · have e1 : (x != (j : Int) + 1) = true := by simpa using h1
            go_wp2
            go_ret
            exact ⟨congrArg (fun z => Ending.returned (Value.bool z)) (Hno.out (by rw [Hr.out]; simp [h1])).symm, hb⟩
        · have e : j = n := by omega
          subst e
          go_wp2
          go_ret
          exact ⟨by rw [hrow]; rfl, hb⟩
    · have hd : cardF (m, l) t = false := by simp [cardF, Hn.out, hnt]
      rw [hd]
      go_enter Try.func49, Try.ntmps49
      go_wp2_with (go_at_call 46; refine (rmember_any _ _).mono ?_; rw [HM.out]; rintro e w1 ⟨rfl, rfl⟩)
      go_ret
      exact ⟨rfl, (Below.refl _ _).alloc (Nat.le_refl _) _⟩
end Go.Proofs.Ytfidjhhpcjmioaa
