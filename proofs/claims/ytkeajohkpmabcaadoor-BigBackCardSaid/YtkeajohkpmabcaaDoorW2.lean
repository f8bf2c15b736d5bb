/- Walks over Right, compare and signed of package big. Conditions stand in each theorem. -/
import Derived.Test.YtkeajohkpmabcaaDoorW1
namespace Go.Proofs.YtkeajohkpmabcaaDoor
open Go.RowKit
set_option linter.unusedVariables false

theorem inB_iff {lo hi x : Int} : inB lo hi x = true ↔ lo ≤ x ∧ x ≤ hi := by
  unfold inB; rw [Bool.and_eq_true, decide_eq_true_eq, decide_eq_true_eq]
theorem all_dg {l : List Int} : l.all (inB 0 1048575) = true ↔ DgOk l := by
  rw [List.all_eq_true]
  refine ⟨fun h d hd => ?_, fun h d hd => ?_⟩
  · have := inB_iff.1 (h d hd); omega
  · have := h d hd; exact inB_iff.2 (by omega)
theorem rightB_iff {s : Int} {l : List Int} : rightB s l = true ↔ DgOk l ∧ ((l = [] ∧ s = 0) ∨ (l ≠ [] ∧ (s = 1 ∨ s = -1) ∧ l.length ≤ 60 ∧ gi l (l.length - 1) ≠ 0)) := by
  unfold rightB
  rw [Bool.and_eq_true, all_dg]
  refine and_congr_right fun _ => ?_
  by_cases h : l.length = 0
  · have e : l = [] := List.eq_nil_of_length_eq_zero h
    subst e
    simp
  · have hne : l ≠ [] := fun e => by subst e; exact h rfl
    rw [if_neg h]
    simp [hne]
theorem gi_last {l : List Int} (h : l ≠ []) : l.getLast? = some (gi l (l.length - 1)) := by
  have h1 : 0 < l.length := List.length_pos_iff.2 h
  rw [List.getLast?_eq_getElem?]
  have h2 := List.getElem?_eq_getElem (show l.length - 1 < l.length by omega)
  rw [h2, gi_eq h2]
/-- the number of a big integer -/
def bval (s : Int) (l : List Int) : Int := s * val l
/-- what is right stands for a number of at most 60 digits, and for that alone -/
theorem rightB_cn {s : Int} {l : List Int} (h : rightB s l = true) : Cn l ∧ l.length ≤ 60 ∧ ((l = [] ∧ s = 0) ∨ (l ≠ [] ∧ (s = 1 ∨ s = -1))) := by
  obtain ⟨h1, h2⟩ := rightB_iff.1 h
  rcases h2 with ⟨rfl, rfl⟩ | ⟨h3, h4, h5, h6⟩
  · exact ⟨Cn.nil, by simp, Or.inl ⟨rfl, rfl⟩⟩
  · refine ⟨⟨h1, fun d hd => ?_⟩, h5, Or.inr ⟨h3, h4⟩⟩
    rw [gi_last h3] at hd
    exact (Option.some.inj hd) ▸ h6
def sgI (x : Int) : Int := if x < 0 then -1 else if x = 0 then 0 else 1
theorem rightB_of {s : Int} {l : List Int} (h1 : Cn l) (h2 : l.length ≤ 60) (h3 : (l = [] ∧ s = 0) ∨ (l ≠ [] ∧ (s = 1 ∨ s = -1))) : rightB s l = true := by
  refine rightB_iff.2 ⟨h1.1, ?_⟩
  rcases h3 with h | ⟨h3, h4⟩
  · exact Or.inl h
  · exact Or.inr ⟨h3, h4, h2, h1.2 _ (gi_last h3)⟩
theorem rightB_val {s : Int} {l : List Int} (h : rightB s l = true) : s = sgI (bval s l) ∧ l = digs (bval s l).natAbs := by
  obtain ⟨h1, h2, h3⟩ := rightB_cn h
  unfold bval sgI
  rcases h3 with ⟨rfl, rfl⟩ | ⟨h3, h4⟩
  · simp [digs_zero]
  · have h5 := h1.pos h3
    rcases h4 with rfl | rfl
    · rw [Int.one_mul, if_neg (by omega), if_neg (by omega)]
      exact ⟨rfl, digs_eq h1 (by omega)⟩
    · rw [show -1 * val l = -val l by omega, if_pos (by omega)]
      exact ⟨rfl, digs_eq h1 (by omega)⟩
/-- the big integer of a number -/
theorem rightB_mk {z : Int} (hlt : (z.natAbs : Int) < pw 60) : rightB (sgI z) (digs z.natAbs) = true ∧ bval (sgI z) (digs z.natAbs) = z := by
  refine ⟨rightB_of (digs_cn _) (digs_len.2 hlt) ?_, ?_⟩
  · unfold sgI
    by_cases h1 : z < 0
    · exact Or.inr ⟨fun e => by have := digs_nil.1 e; omega, by rw [if_pos h1]; exact Or.inr rfl⟩
    · by_cases h2 : z = 0
      · subst h2; exact Or.inl ⟨digs_zero, by simp⟩
      · exact Or.inr ⟨fun e => by have := digs_nil.1 e; omega, by rw [if_neg h1, if_neg h2]; exact Or.inl rfl⟩
  · unfold bval sgI
    rw [digs_val]
    by_cases h1 : z < 0
    · rw [if_pos h1]; omega
    · by_cases h2 : z = 0
      · subst h2; simp
      · rw [if_neg h1, if_neg h2]; omega
set_option maxRecDepth 100000 in
set_option maxHeartbeats 1000000 in
theorem bright_any (s : Int) (A : Option Addr) (n cap : Nat) (l : List Int) (w : World) (hl : RdI w w.heap.size A n cap l) :
    Calls Tryd.prog 11 #[.agg #[.int .i64 s, .slice A n cap]] w fun e w' => e = .returned (.bool (rightB s l)) ∧ Below w.heap.size w w' := by
  have hln := hl.len
  have hcap := hl.caps
  have hb0 := (Below.refl w.heap.size w).alloc (Nat.le_refl _) (.cells #[.int .i64 s, .slice A n cap] 24)
  have c0 : (w.alloc (.cells #[.int .i64 s, .slice A n cap] 24)).cell? ⟨w.heap.size, 0, none⟩ = some (.int .i64 s) := new_cell rfl rfl
  have c1 : (w.alloc (.cells #[.int .i64 s, .slice A n cap] 24)).cell? ⟨w.heap.size, 1, none⟩ = some (.slice A n cap) := new_cell rfl rfl
  have hl0 := hl.up (flat_lasts _) hb0
  have HF := Lib.hid (show (∃ i, i < n ∧ (gi l i < 0 ∨ 1048575 < gi l i)) → rightB s l = false from fun ⟨i, hi, h⟩ => by
    cases hr : rightB s l
    · rfl
    · have := (rightB_cn hr).1.1.at hln i hi
      omega)
  have HT := Lib.hid (show (∀ i, i < n → 0 ≤ gi l i ∧ gi l i ≤ 1048575) → rightB s l = (if n = 0 then decide (s = 0) else ((decide (s = 1) || decide (s = -1)) && (decide (n ≤ 60) && decide (gi l (n - 1) ≠ 0)))) from fun h => by
    have h1 : l.all (inB 0 1048575) = true := all_dg.2 fun d hd => by
      obtain ⟨i, hi⟩ := List.mem_iff_getElem?.1 hd
      have := h i (by rw [← hln]; exact (List.getElem?_eq_some_iff.1 hi).1)
      rw [gi_eq hi] at this
      omega
    unfold rightB
    rw [h1, Bool.true_and, hln])
  generalize rightB s l = RB at *
  go_enter Tryd.func11, Tryd.ntmps11
  go_wp2_with fail
  generalize w.alloc (.cells #[.int .i64 s, .slice A n cap] 24) = w0 at *
  obtain ⟨g, hg⟩ : ∃ g, g = w.heap.size := ⟨_, rfl⟩
  have HB0 := Lib.hid hb0
  rw [← hg] at c0 c1 ⊢
  clear hg hb0
  go_loopg [12] n (fun gk i wr => ∃ k : Nat, k ≤ n ∧ gk = n - k ∧ i = .int .i64 k ∧ (∀ j, j < k → 0 ≤ gi l j ∧ gi l j ≤ 1048575) ∧ w0 = wr)
  case atStart => exact ⟨0, Nat.zero_le _, rfl, rfl, (fun j hj => absurd hj (by omega)), rfl⟩
  case round =>
    obtain ⟨k, hk, rfl, rfl, hall, rfl⟩ := hrel
    have Hall := Lib.hid hall
    clear hall
    by_cases hlt : k < n
    · obtain ⟨b, off, x, rfl, hb, hx, d0⟩ := hl0.atI hlt
      have Hx := Lib.hid (gi_eq hx)
      have hki : (k : Int) < (n : Int) := by omega
      have hk0 : (0 : Int) ≤ (k : Int) := by omega
      clear hx
      by_cases h1 : x < 0
      · have hd : decide (x < 0) = true := by simpa using h1
        have Hf := Lib.hid (HF.out ⟨k, hlt, Or.inl (by rw [Hx.out]; exact h1)⟩)
        clear h1
        go_wp2
        go_ret
        exact ⟨by rw [Hf.out]; rfl, HB0.out⟩
      · have hd : decide (x < 0) = false := by simpa using h1
        by_cases h2 : 1048575 < x
        · have hd2 : decide (1048575 < x) = true := by simpa using h2
          have Hf := Lib.hid (HF.out ⟨k, hlt, Or.inr (by rw [Hx.out]; exact h2)⟩)
          clear h1 h2
          go_wp2
          go_ret
          exact ⟨by rw [Hf.out]; rfl, HB0.out⟩
        · have hd2 : decide (1048575 < x) = false := by simpa using h2
          have Hn := Lib.hid (show ∀ j, j < k + 1 → 0 ≤ gi l j ∧ gi l j ≤ 1048575 from fun j hj => by
            by_cases e : j = k
            · subst e; rw [Hx.out]; omega
            · exact Hall.out j (by omega))
          clear h1 h2
          go_wp2
          go_roundg (n - (k + 1))
          case rel => exact ⟨k + 1, by omega, rfl, by go_num, Hn.out, rfl⟩
          case measure => omega
    · have ee : k = n := by omega
      subst ee
      have hRB := HT.out Hall.out
      by_cases hk0 : k = 0
      · rw [if_pos hk0] at hRB
        have hd : ((k : Int) == 0) = true := by simp [hk0]
        by_cases hs : s = 0
        · have hd2 : (s == 0) = true := by simp [hs]
          rw [decide_eq_true hs] at hRB
          have HR := Lib.hid hRB
          clear hRB hs hk0
          go_wp2
          go_ret
          exact ⟨by rw [HR.out]; rfl, HB0.out⟩
        · have hd2 : (s == 0) = false := by simp [hs]
          rw [decide_eq_false hs] at hRB
          have HR := Lib.hid hRB
          clear hRB hs hk0
          go_wp2
          go_ret
          exact ⟨by rw [HR.out]; rfl, HB0.out⟩
      · rw [if_neg hk0] at hRB
        have hd : ((k : Int) == 0) = false := by simp [hk0]
        obtain ⟨m, rfl⟩ : ∃ m, k = m + 1 := ⟨k - 1, by omega⟩
        obtain ⟨b, off, x, rfl, hb, hx, d0⟩ := hl0.atI (k := m) (by omega)
        rw [Nat.add_sub_cancel, gi_eq hx] at hRB
        have hm0 : (0 : Int) ≤ (m : Int) := by omega
        have hm1 : (m : Int) < (m : Int) + 1 := by omega
        clear hx hk0
        have hsc : ((s == 1) = true ∧ (decide (s = 1) || decide (s = -1)) = true) ∨ ((s == 1) = false ∧ (s == -1) = true ∧ (decide (s = 1) || decide (s = -1)) = true) ∨ ((s == 1) = false ∧ (s == -1) = false ∧ (decide (s = 1) || decide (s = -1)) = false) := by
          by_cases h1 : s = 1
          · exact Or.inl ⟨by simp [h1], by simp [h1]⟩
          · by_cases h2 : s = -1
            · exact Or.inr (Or.inl ⟨by simp [h2], by simp [h2], by simp [h2]⟩)
            · exact Or.inr (Or.inr ⟨by simp [h1], by simp [h2], by simp [h1, h2]⟩)
        rcases hsc with ⟨s1, s3⟩ | ⟨s1, s2, s3⟩ | ⟨s1, s2, s3⟩
        case inr.inr =>
          rw [s3, Bool.false_and] at hRB
          have HR := Lib.hid hRB
          clear hRB s3
          go_wp2
          go_ret
          exact ⟨by rw [HR.out]; rfl, HB0.out⟩
        all_goals
          rw [s3, Bool.true_and] at hRB
          by_cases h60 : m + 1 ≤ 60
          · have hd6 : decide ((m : Int) + 1 ≤ 60) = true := by simp; omega
            rw [decide_eq_true h60, Bool.true_and] at hRB
            by_cases hx0 : x = 0
            · have hd7 : (x != 0) = false := by simp [hx0]
              rw [decide_eq_false (by simpa using hx0)] at hRB
              have HR := Lib.hid hRB
              clear hRB s3 hx0 h60
              go_wp2
              go_ret
              exact ⟨by rw [HR.out]; rfl, HB0.out⟩
            · have hd7 : (x != 0) = true := by simp [hx0]
              rw [decide_eq_true hx0] at hRB
              have HR := Lib.hid hRB
              clear hRB s3 hx0 h60
              go_wp2
              go_ret
              exact ⟨by rw [HR.out]; rfl, HB0.out⟩
          · have hd6 : decide ((m : Int) + 1 ≤ 60) = false := by simp; omega
            rw [decide_eq_false h60, Bool.false_and] at hRB
            have HR := Lib.hid hRB
            clear hRB s3 h60
            go_wp2
            go_ret
            exact ⟨by rw [HR.out]; rfl, HB0.out⟩
end Go.Proofs.YtkeajohkpmabcaaDoor
