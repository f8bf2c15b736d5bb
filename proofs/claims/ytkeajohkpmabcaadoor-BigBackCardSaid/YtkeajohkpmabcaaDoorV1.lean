/- Words for big integers that stand for a number, and signed, checked and Clone by them. Conditions stand in each theorem. -/
import Derived.Test.YtkeajohkpmabcaaDoorW4
import Derived.Test.YtkeajohkpmabcaaDoorW8
namespace Go.Proofs.YtkeajohkpmabcaaDoor
open Go.RowKit
set_option linter.unusedVariables false

/-- sign and digits of a number -/
def Std (s : Int) (l : List Int) (z : Int) : Prop := s = sgI z ∧ l = digs z.natAbs
/-- is it a number of at most 60 digits -/
def fits (z : Int) : Bool := decide ((z.natAbs : Int) < pw 60)
theorem fits_iff {z : Int} : fits z = true ↔ (z.natAbs : Int) < pw 60 := by unfold fits; exact decide_eq_true_iff
theorem Std.zero : Std 0 [] 0 := ⟨rfl, by simp [digs_zero]⟩
theorem Std.of_right {s : Int} {l : List Int} (h : rightB s l = true) : Std s l (bval s l) := rightB_val h
theorem Std.val {s : Int} {l : List Int} {z : Int} (h : Std s l z) : bval s l = z := by
  obtain ⟨rfl, rfl⟩ := h
  unfold bval sgI
  rw [digs_val]
  split
  · omega
  · split
    · omega
    · omega
theorem Std.cn {s : Int} {l : List Int} {z : Int} (h : Std s l z) : Cn l := by rw [h.2]; exact digs_cn _
theorem Std.right {s : Int} {l : List Int} {z : Int} (h : Std s l z) (hf : fits z = true) : rightB s l = true := by
  obtain ⟨rfl, rfl⟩ := h; exact (rightB_mk (fits_iff.1 hf)).1
theorem fits_of_right {s : Int} {l : List Int} (h : rightB s l = true) : fits (bval s l) = true := by
  obtain ⟨h1, h2⟩ := rightB_val h
  obtain ⟨h3, h4, h5⟩ := rightB_cn h
  rw [h2] at h4
  exact fits_iff.2 (digs_len.1 h4)
theorem Std.len {s : Int} {l : List Int} {z : Int} (h : Std s l z) : l.length ≤ 60 ↔ fits z = true := by
  rw [h.2, fits_iff]; exact digs_len
theorem Std.mk {s : Int} {l : List Int} (hc : Cn l) (hs : s = 1 ∨ s = -1 ∨ l = []) : Std (sgOf s l) (trimL l) (s * Go.Proofs.YtkeajohkpmabcaaDoor.val l) := by
  have h0 := val_nonneg hc.1
  have ht : trimL l = l := by rw [trimL_digs hc.1, ← hc.digs]
  unfold Std sgOf
  rw [ht]
  by_cases hl : l = []
  · subst hl; simp [sgI, digs_zero, Go.Proofs.YtkeajohkpmabcaaDoor.val]
  · have hp := hc.pos hl
    rw [if_neg hl]
    rcases hs with rfl | rfl | h
    · rw [Int.one_mul]; unfold sgI
      rw [if_neg (by omega), if_neg (by omega)]
      exact ⟨rfl, digs_eq hc (by omega)⟩
    · rw [show (-1 : Int) * Go.Proofs.YtkeajohkpmabcaaDoor.val l = - Go.Proofs.YtkeajohkpmabcaaDoor.val l by omega]; unfold sgI
      rw [if_pos (by omega)]
      exact ⟨rfl, digs_eq hc (by omega)⟩
    · exact absurd h hl
theorem Std.signs {s : Int} {l : List Int} {z : Int} (h : Std s l z) : (l = [] ∧ s = 0 ∧ z = 0) ∨ (l ≠ [] ∧ s = 1 ∧ 0 < z) ∨ (l ≠ [] ∧ s = -1 ∧ z < 0) := by
  obtain ⟨rfl, rfl⟩ := h
  unfold sgI
  by_cases h1 : z < 0
  · right; right; exact ⟨fun e => by have := digs_nil.1 e; omega, if_pos h1, h1⟩
  · by_cases h2 : z = 0
    · left; subst h2; simp [digs_zero]
    · right; left; exact ⟨fun e => by have := digs_nil.1 e; omega, by rw [if_neg h1, if_neg h2], by omega⟩
theorem Std.abs {s : Int} {l : List Int} {z : Int} (h : Std s l z) : Go.Proofs.YtkeajohkpmabcaaDoor.val l = (z.natAbs : Int) := by rw [h.2, digs_val]
/-- what a call that returns a big integer leaves: nothing of it is older than the call -/
def BigR (w : World) (z : Int) (e : Ending) (w' : World) : Prop := ∃ s A n cap l, e = .returned (.agg #[.int .i64 s, .slice A n cap]) ∧ RdI w' w'.heap.size A n cap l ∧ Std s l z ∧ FrA w.heap.size A ∧ Below w.heap.size w w'
/-- .. and one that returns a big integer and an error's number -/
def BigE (w : World) (z c : Int) (e : Ending) (w' : World) : Prop := ∃ s A n cap l, e = .returned (.tuple #[.agg #[.int .i64 s, .slice A n cap], .int .i64 c]) ∧ RdI w' w'.heap.size A n cap l ∧ Std s l z ∧ FrA w.heap.size A ∧ Below w.heap.size w w'
/-- a call that returns digits -/
def DigR (w : World) (l : List Int) (e : Ending) (w' : World) : Prop := ∃ A n cap, e = .returned (.slice A n cap) ∧ RdI w' w'.heap.size A n cap l ∧ FrA w.heap.size A ∧ Below w.heap.size w w'
theorem own_dig {w : World} {l : List Int} {e : Ending} {w' : World} (hl : l.length ≤ 100000) (h : (∃ v, e = .returned v ∧ Own 1 iEnc w' w.heap.size 3 v l) ∧ Below w.heap.size w w') : DigR w l e w' := by
  obtain ⟨⟨v, he, ho⟩, hb⟩ := h
  obtain ⟨A, cap, rfl, hr⟩ := ho.rd iSized (by omega)
  exact ⟨A, _, cap, he, hr, ho.fr rfl, hb⟩
theorem cloneD (A : Option Addr) (n cap : Nat) (l : List Int) (w : World) (hl : RdI w w.heap.size A n cap l) (hn2 : n ≤ 100000) : Calls Tryd.prog 27 #[.slice A n cap] w (DigR w l) :=
  (clone_any A n cap l w hl hn2).mono fun e w' h => own_dig (by rw [hl.len]; exact hn2) h
/-- what signed returns: the digits that it was given, or none -/
def SigR (w : World) (A : Option Addr) (z : Int) (e : Ending) (w' : World) : Prop := ∃ s A' n cap l, e = .returned (.agg #[.int .i64 s, .slice A' n cap]) ∧ RdI w' w'.heap.size A' n cap l ∧ Std s l z ∧ (∀ B, FrA B A → FrA B A') ∧ Below w.heap.size w w'
theorem signedD (s : Int) (A : Option Addr) (n cap : Nat) (l : List Int) (z : Int) (w : World) (hl : RdI w w.heap.size A n cap l) (hc : Cn l) (hs : s = 1 ∨ s = -1 ∨ l = []) (hz : s * val l = z) : Calls Tryd.prog 29 #[.int .i64 s, .slice A n cap] w (SigR w A z) :=
  (signed_any s A n cap l w hl).mono fun e w' ⟨⟨A', n', c', he, hr, hA⟩, hb⟩ => ⟨_, A', n', c', _, he, hr, by rw [← hz]; exact Std.mk hc hs, fun B h => by
    rcases hA with rfl | rfl
    · exact FrA.none
    · exact h, hb⟩
/-- the result where there is one, and the error's number -/
def resZ (ok : Bool) (z : Int) : Int := if ok = true ∧ fits z = true then z else 0
def errZ (ok : Bool) (z : Int) : Int := if ok = false then 1 else if fits z = true then 0 else 6
/-- what checked returns -/
def ChkR (w : World) (A : Option Addr) (z c : Int) (e : Ending) (w' : World) : Prop := ∃ s A' n cap l, e = .returned (.tuple #[.agg #[.int .i64 s, .slice A' n cap], .int .i64 c]) ∧ RdI w' w'.heap.size A' n cap l ∧ Std s l z ∧ (∀ B, FrA B A → FrA B A') ∧ Below w.heap.size w w'
theorem checkedD (ok : Bool) (s : Int) (A : Option Addr) (n cap : Nat) (l : List Int) (z : Int) (w : World) (hl : RdI w w.heap.size A n cap l) (hz : Std s l z) : Calls Tryd.prog 26 #[.bool ok, .agg #[.int .i64 s, .slice A n cap]] w (ChkR w A (resZ ok z) (errZ ok z)) :=
  (checked_any ok s A n cap w).mono fun e w' ⟨he, hb⟩ => by
    have hlen := hz.len
    rw [hl.len] at hlen
    have he1 : ckE ok n = errZ ok z := by
      unfold ckE errZ
      cases ok
      · simp
      · rw [if_neg (show ¬ (true = false) by simp), if_neg (show ¬ (true = false) by simp)]
        by_cases h : n ≤ 60
        · rw [if_neg (by omega), if_pos (hlen.1 h)]
        · rw [if_pos (by omega), if_neg (fun h1 => h (hlen.2 h1))]
    rw [he1] at he
    by_cases h : ok = true ∧ n ≤ 60
    · rw [if_pos h] at he
      refine ⟨s, A, n, cap, l, he, hl.up (flat_lasts _) hb, ?_, fun _ h => h, hb⟩
      rw [resZ, if_pos ⟨h.1, hlen.1 h.2⟩]
      exact hz
    · rw [if_neg h] at he
      refine ⟨0, none, 0, 0, [], he, Rd.nil, ?_, fun _ _ => FrA.none, hb⟩
      rw [resZ, if_neg (fun h1 => h ⟨h1.1, hlen.2 h1.2⟩)]
      exact Std.zero
end Go.Proofs.YtkeajohkpmabcaaDoor
