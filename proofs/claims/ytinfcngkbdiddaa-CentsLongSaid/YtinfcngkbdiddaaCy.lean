
/- Plain law: the small examples of layer 27; words for lists of fractions that a call reads. Conditions stand in each theorem. -/
import Derived.Test.YtinfcngkbdiddaaCx
import Derived.Test.YtinfcngkbdiddaaCq
namespace Go.Proofs.Ytinfcngkbdiddaa
open Go.RowKit
set_option linter.unusedVariables false
set_option linter.unusedSimpArgs false

theorem ok_list {l : List Fv} (h : ∀ x ∈ l, x.ok = true) : l = (ratL l).map fvQ := by
  induction l with
  | nil => rfl
  | cons x l ih =>
    have h1 : x = fvQ x.rat := fv_form (h x List.mem_cons_self)
    have h2 := ih fun y hy => h y (List.mem_cons_of_mem _ hy)
    show x :: l = fvQ x.rat :: (ratL l).map fvQ
    rw [← h1, ← h2]
theorem ok_same {l m : List Fv} (h : ∀ x ∈ l, x.ok = true) (h' : ∀ x ∈ m, x.ok = true) (e : ratL l = ratL m) : l = m := by
  rw [ok_list h, ok_list h', e]
def fL : List Fv := [fvQ (Rat.divInt 10 3), fvQ (Rat.divInt 10 3), fvQ (Rat.divInt 10 3)]
def fZ : List Fv := [fvQ 0, fvQ 0, fvQ 0]
def fM1 : List Fv := [fvQ (Rat.divInt (-2) 3), fvQ (Rat.divInt 1 3), fvQ (Rat.divInt 1 3)]
def fM2 : List Fv := [fvQ (Rat.divInt (-1) 3), fvQ (Rat.divInt (-1) 3), fvQ (Rat.divInt 2 3)]
theorem sE1 : splitE 10 fL fZ = 0 := by decide +kernel
theorem sE2 : splitE 10 fL fM1 = 0 := by decide +kernel
theorem sE3 : splitE 10 fL fM2 = 0 := by decide +kernel
theorem sE4 : splitE 11 fL fZ = 1 := by decide +kernel
theorem sR1 : rightM fM1 = true := by decide +kernel
theorem sR2 : rightM [] = false := by decide +kernel
theorem sR3 : rightM [fvQ (Rat.divInt 1 2)] = false := by decide +kernel
theorem best_of {n : Nat} {r : Nat → Rat} {S : Nat → Bool} {b : Nat} (hb : b < n) (hS : S b = false) (h : ∀ x, x < n → S x = false → x ≠ b → r x < r b ∨ (r b = r x ∧ b < x)) : Best n r S b := ⟨hb, hS, h⟩
instance beatsDec (r : Nat → Rat) (i j : Nat) : Decidable (beats r i j) := inferInstanceAs (Decidable (r j < r i ∨ (r i = r j ∧ i < j)))
theorem sP1 : SplitP 10 (ratL fL) (ratL fZ) [4, 3, 3] (ratL fM1) := ⟨fun x => decide (x = 0), 1, ⟨fun _ => false, 0, fun _ => rfl, ⟨by decide, rfl, by decide +kernel⟩, fun x => by simp⟩, by decide +kernel, by decide +kernel, by decide +kernel⟩
theorem sP2 : SplitP 10 (ratL fL) (ratL fM1) [3, 4, 3] (ratL fM2) := ⟨fun x => decide (x = 0) || decide (x = 1), 2, ⟨fun x => decide (x = 0), 1, ⟨fun _ => false, 0, fun _ => rfl, ⟨by decide, rfl, by decide +kernel⟩, fun x => by simp⟩, ⟨by decide, rfl, by decide +kernel⟩, fun x => rfl⟩, by decide +kernel, by decide +kernel, by decide +kernel⟩
theorem sP3 : SplitP 10 (ratL fL) (ratL fM2) [3, 3, 4] (ratL fZ) := ⟨fun _ => false, 0, fun _ => rfl, by decide +kernel, by decide +kernel, by decide +kernel⟩
theorem sO1 : ∀ x ∈ fM1, x.ok = true := by decide +kernel
theorem sO2 : ∀ x ∈ fM2, x.ok = true := by decide +kernel
theorem sO3 : ∀ x ∈ fZ, x.ok = true := by decide +kernel
/-- a split that is known -/
theorem SplitC.known {w w' : World} {total : Int} {L M : List Fv} {e : Ending} (h : SplitC w total L M e w') {g : List Int} {a : List Fv} (hE : splitE total L M = 0) (hP : SplitP total (ratL L) (ratL M) g (ratL a)) (ha : ∀ x ∈ a, x.ok = true) :
    ∃ A n cap A' n' cap', e = .returned (.tuple #[.slice A n cap, .slice A' n' cap', .int .i64 0]) ∧ RdI w' w'.heap.size A n cap g ∧ RdF w' w'.heap.size A' n' cap' a ∧ Below w.heap.size w w' := by
  obtain ⟨A, n, cap, got, A', n', cap', aft, h1, ⟨h2, h3⟩, h4, h5, h6⟩ := h
  obtain ⟨h7, h8⟩ := h5 hE
  obtain ⟨e1, e2⟩ := h8.unique hP
  have e3 := ok_same h7 ha e2
  subst e1 e3
  exact ⟨A, n, cap, A', n', cap', by rw [h1, hE], h2, h3, h6⟩
/-- .. and one that is refused -/
theorem SplitC.refused {w w' : World} {total : Int} {L M : List Fv} {e : Ending} (h : SplitC w total L M e w') {c : Int} (hE : splitE total L M = c) (hc : c ≠ 0) :
    ∃ A cap A' cap', e = .returned (.tuple #[.slice A 0 cap, .slice A' 0 cap', .int .i64 c]) ∧ RdI w' w'.heap.size A 0 cap [] ∧ RdF w' w'.heap.size A' 0 cap' [] ∧ Below w.heap.size w w' := by
  obtain ⟨A, n, cap, got, A', n', cap', aft, h1, ⟨h2, h3⟩, h4, h5, h6⟩ := h
  obtain ⟨rfl, rfl⟩ := h4 (by rw [hE]; exact hc)
  have e1 : 0 = n := h2.len
  have e2 : 0 = n' := h3.len
  subst e1 e2
  exact ⟨A, cap, A', cap', by rw [h1, hE], h2, h3, h6⟩
section
variable {w W W' : World} {D : List Hl}
def rfP (A : Option Addr) (n cap : Nat) (l : List Fv) : World → Prop := fun W => RdF W W.heap.size A n cap l
def allS (W : World) : Nat → Prop := fun b => b < W.heap.size
/-- one more list that is read -/
theorem St.addF (h : St w [] D W) {A : Option Addr} {n cap : Nat} {l : List Fv} (hl : RdF W W.heap.size A n cap l) : St w [] (⟨rfP A n cap l, allS W⟩ :: D) W :=
  h.add ⟨hl, fun b hb => ⟨hb, fun p hp => by cases hp⟩, fun W' h1 h2 => hl.keep fE_lasts h1 fun p hp => cell_of (h2 _ hp)⟩
theorem St.addI (h : St w [] D W) {A : Option Addr} {n cap : Nat} {l : List Int} (hl : RdI W W.heap.size A n cap l) : St w [] (⟨rdP A n cap l, allS W⟩ :: D) W :=
  h.add ⟨hl, fun b hb => ⟨hb, fun p hp => by cases hp⟩, fun W' h1 h2 => hl.keep (flat_lasts _) h1 fun p hp => cell_of (h2 _ hp)⟩
theorem St.getF (h : St w [] D W) {A : Option Addr} {n cap : Nat} {l : List Fv} {S : Nat → Prop} (hm : (⟨rfP A n cap l, S⟩ : Hl) ∈ D) : RdF W W.heap.size A n cap l := h.at hm
/-- a literal of fractions -/
theorem litF (xs : List Rw) (hx : ∀ x ∈ xs, x.on W) (T : TypeId) (cs : Array Value) (hcs : cs = (xs.flatMap Rw.cs).toArray) (n H : Nat) (hH : W.heap.size = H) (hn : xs.length = n) (hb : n ≤ 1000) : RdF (W.alloc (.cells cs T)) (W.alloc (.cells cs T)).heap.size (some ⟨H, 0, none⟩) n n (xs.map Rw.fv) := by
  subst hcs hH hn
  refine ⟨by simp, Nat.le_refl _, ⟨by omega, by omega⟩, fun hn => ⟨W.heap.size, 0, rfl, by simp, fun k hk => ?_⟩⟩
  have hk' : k < xs.length := by simpa using hk
  refine ⟨xs[k].cs, ?_, rfl, fun j u hu => ?_⟩
  · have e : (xs.map Rw.fv)[k] = xs[k].fv := by simp
    rw [e]
    have hb := (Below.refl W.heap.size W).alloc (Nat.le_refl _) (.cells (xs.flatMap Rw.cs).toArray T)
    have h1 := hx xs[k] (List.getElem_mem hk')
    exact ⟨_, _, _, _, _, _, rfl, Rd.up (flat_lasts _) h1.1 hb, Rd.up (flat_lasts _) h1.2 hb⟩
  · have hj : j < 4 := (List.getElem?_eq_some_iff.1 hu).1
    refine new_cell rfl ?_
    rw [List.getElem?_toArray, Nat.zero_add, flatMap_get rw_sized _ _ _ hj, List.getElem?_eq_getElem hk']
    exact hu
end
end Go.Proofs.Ytinfcngkbdiddaa
