/- Words for a slice of fractions that the call makes by appending. Conditions stand in each theorem. -/
import Derived.Test.YtinfcngkbdiddaaCm
namespace Go.Proofs.Ytinfcngkbdiddaa
open Go.RowKit
set_option linter.unusedVariables false
set_option linter.unusedSimpArgs false

/-- a number's one form -/
def fvQ (q : Rat) : Fv := ⟨sgI q.num, digs q.num.natAbs, sgI q.den, digs (q.den : Int).natAbs⟩
theorem StdF.fv {s t : Int} {l m : List Int} {q : Rat} (h : StdF s l t m q) : (⟨s, l, t, m⟩ : Fv) = fvQ q := by
  obtain ⟨⟨e1, e2⟩, e3, e4⟩ := h
  subst e1 e2 e3 e4
  rfl
theorem fvQ_std (q : Rat) : StdF (fvQ q).s (fvQ q).l (fvQ q).t (fvQ q).m q := ⟨⟨rfl, rfl⟩, rfl, rfl⟩
theorem fvQ_rat (q : Rat) : (fvQ q).rat = q := (fvQ_std q).rat
theorem fvQ_ok {q : Rat} (h : fitsF q = true) : (fvQ q).ok = true := (fvQ_std q).right h
theorem fv_form {x : Fv} (h : x.ok = true) : x = fvQ x.rat := (rightF_std h).1.fv
section
variable {w W W' : World} {L X : List Blk} {D : List Hl} {n : Nat} {v : Nat → Rw}
/-- one more fraction that is read -/
theorem St.rwAdd (h : St w L D W) (x : Rw) (m1 : (⟨rwP n v, rwS n v⟩ : Hl) ∈ D) (m2 : (⟨rdP x.A x.n x.c x.l, rdS x.A x.n⟩ : Hl) ∈ D) (m3 : (⟨rdP x.B x.m x.d x.k, rdS x.B x.m⟩ : Hl) ∈ D) : St w L (⟨rwP (n + 1) (putF v n x), rwS (n + 1) (putF v n x)⟩ :: D) W := by
  have k1 := h.2.2.2 _ m1
  have k2 := h.2.2.2 _ m2
  have k3 := h.2.2.2 _ m3
  refine h.add ⟨fun j hj => ?_, fun b hS => ?_, fun W' h1 h2 j hj => ?_⟩
  · by_cases e : j = n
    · subst e; rw [putF_same]; exact ⟨k2.1, k3.1⟩
    · rw [putF_other e]; exact k1.1 j (by omega)
  · obtain ⟨j, hj, hS⟩ := hS
    by_cases e : j = n
    · subst e
      rw [putF_same] at hS
      rcases hS with hS | hS
      · exact k2.2.1 b hS
      · exact k3.2.1 b hS
    · rw [putF_other e] at hS
      exact k1.2.1 b ⟨j, by omega, hS⟩
  · by_cases e : j = n
    · subst e
      rw [putF_same]
      exact ⟨k2.2.2 W' h1 (fun b hS => h2 b ⟨j, hj, by rw [putF_same]; exact Or.inl hS⟩), k3.2.2 W' h1 (fun b hS => h2 b ⟨j, hj, by rw [putF_same]; exact Or.inr hS⟩)⟩
    · rw [putF_other e]
      exact k1.2.2 W' h1 (fun b hS => by
        obtain ⟨i, hi, hS⟩ := hS
        exact h2 b ⟨i, by omega, by rw [putF_other (by omega)]; exact hS⟩) j (by omega)
theorem ofF_put {α : Type} {n : Nat} {v : Nat → α} {x : α} : ofF n v ++ [x] = ofF (n + 1) (putF v n x) := by
  rw [ofF_succ, putF_same]
  congr 1
  exact ofF_congr fun i hi => (putF_other (by omega)).symm
/-- it reads as their list -/
theorem OwL.rdF {e : TypeId} {val : Value} (h : OwL 4 Rw.cs e val (ofF n v) X) (K : St w (X ++ L) D W) (hm : (⟨rwP n v, rwS n v⟩ : Hl) ∈ D) (hn : n ≤ 1000000) : ∃ A cap, val = .slice A n cap ∧ RdF W W.heap.size A n cap (ofF n fun i => (v i).fv) := by
  rcases h with ⟨rfl, h0, rfl⟩ | ⟨g, cap, J, rfl, rfl, h1, h2, h3⟩
  · have : n = 0 := by rw [← ofF_len (n := n) (f := v), h0]; rfl
    subst this
    exact ⟨none, 0, rfl, Rd.nil⟩
  · rw [ofF_len] at h1 ⊢
    have hB := K.blk (b := g) (List.mem_append_left _ (List.mem_singleton.2 rfl))
    refine ⟨_, cap, rfl, ofF_len, h1, ⟨by unfold maxLen at h2; exact h2, by omega⟩, fun hn => ⟨g, 0, rfl, hB.lt, fun k hk => ?_⟩⟩
    rw [ofF_len] at hk
    refine ⟨(v k).cs, ?_, rfl, fun j u hu => ?_⟩
    · have e : (ofF n fun i => (v i).fv)[k]'(by rw [ofF_len]; exact hk) = (v k).fv := by
        have := ofF_get (f := fun i => (v i).fv) hk
        rw [List.getElem?_eq_getElem (by rw [ofF_len]; exact hk)] at this
        exact Option.some.inj this
      rw [e]
      exact ⟨_, _, _, _, _, _, rfl, (K.at hm k hk).1, (K.at hm k hk).2⟩
    · have hj : j < 4 := (List.getElem?_eq_some_iff.1 hu).1
      rw [Nat.zero_add]
      exact hB.cell ((rwA_get (J := J) hk hj).trans hu)
/-- .. one of ints, too -/
theorem OwL.rdI {e : TypeId} {val : Value} {f : Nat → Int} (h : OwL 1 iEnc e val (ofF n f) X) (K : St w (X ++ L) D W) (hn : n ≤ 1000000) : ∃ A cap, val = .slice A n cap ∧ RdI W W.heap.size A n cap (ofF n f) := by
  obtain ⟨A, cap, h1, h2⟩ := (h.own iSized K).rd iSized (by rw [ofF_len]; omega)
  rw [ofF_len] at h1 h2
  exact ⟨A, cap, h1, h2⟩
/-- its block, where it is not empty -/
theorem OwL.blk {e : TypeId} {val : Value} {sz : Nat} {α : Type} {enc : α → List Value} {f : Nat → α} (h : OwL sz enc e val (ofF n f) X) (hn : 0 < n) : ∃ g cap J, val = .slice (some ⟨g, 0, none⟩) n cap ∧ X = [(g, ((ofF n f).flatMap enc ++ J).toArray, e)] ∧ n ≤ cap ∧ cap ≤ 9223372036854775807 := by
  rcases h with ⟨rfl, h0, rfl⟩ | ⟨g, cap, J, rfl, rfl, h1, h2, h3⟩
  · have : n = 0 := by rw [← ofF_len (n := n) (f := f), h0]; rfl
    omega
  · rw [ofF_len] at h1 ⊢
    exact ⟨g, cap, J, rfl, rfl, h1, by unfold maxLen at h2; exact h2⟩
end
end Go.Proofs.Ytinfcngkbdiddaa
