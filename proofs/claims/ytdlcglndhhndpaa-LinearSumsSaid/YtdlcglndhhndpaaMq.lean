/- Words for lists of rows that a call builds: their headers in a block of its own, what they hold read beside it. Conditions stand in each theorem. -/
import Derived.Test.YtdlcglndhhndpaaLE
import Derived.Test.YtdlcglndhhndpaaLWk
namespace Go.Proofs.Ytdlcglndhhndpaa
open Go.RowKit
set_option linter.unusedVariables false
set_option linter.unusedSimpArgs false

/-- a row as it lies in memory -/
structure Rr where
  A : Option Addr
  n : Nat
  c : Nat
  a : List Fv
  y : Rw
def Rr.cs (x : Rr) : List Value := .slice x.A x.n x.c :: x.y.cs
def Rr.rv (x : Rr) : Rv := ⟨x.a, x.y.fv⟩
def Rr.on (x : Rr) : World → Prop := fun W => RdF W W.heap.size x.A x.n x.c x.a ∧ x.y.on W
theorem rr_sized : Sized 5 Rr.cs := ⟨by omega, fun x => ⟨rfl, by
  intro u hu
  rcases List.mem_cons.1 hu with rfl | hu
  · rfl
  · exact (rw_sized.2 x.y).2 u hu⟩⟩
def Rr.zero : Rr := ⟨none, 0, 0, [], Rw.zero⟩
/-- the rows' content -/
abbrev rrF (n : Nat) (u : Nat → Rr) (S : Nat → Nat → Prop) : Hl := ⟨famP (fun i => i < n) (fun i => (u i).on) S, famS (fun i => i < n) S⟩
section
variable {w W W' : World} {L L' X : List Blk} {D : List Hl} {n : Nat} {u : Nat → Rr} {S : Nat → Nat → Prop}
theorem St.rrNew (h : St w L D W) : St w L (rrF 0 u S :: D) W := h.fam fun i hi => absurd hi (by omega)
theorem St.rrAdd (h : St w L D W) (hm : rrF n u S ∈ D) (y : Rr) (T : Nat → Prop) (hy : (⟨y.on, T⟩ : Hl).ok L W) : St w L (rrF (n + 1) (putF u n y) (putF S n T) :: D) W :=
  h.fam fun i hi => by
    by_cases e : i = n
    · rw [e, putF_same, putF_same]; exact hy
    · rw [putF_other e, putF_other e]; exact h.famAt hm (i := i) (by omega)
theorem St.rrPut (h : St w L D W) (hm : rrF n u S ∈ D) (k : Nat) (y : Rr) (T : Nat → Prop) (hy : (⟨y.on, T⟩ : Hl).ok L W) : St w L (rrF n (putF u k y) (putF S k T) :: D) W :=
  h.fam fun i hi => by
    by_cases e : i = k
    · rw [e, putF_same, putF_same]; exact hy
    · rw [putF_other e, putF_other e]; exact h.famAt hm (i := i) hi
/-- what was there before the call -/
theorem St.okOld (h : St w L D W) {P : World → Prop} (hP : ∀ W' : World, w.heap.size ≤ W'.heap.size → (∀ b, b < w.heap.size → W'.heap[b]? = w.heap[b]?) → P W') : (⟨P, oldS w⟩ : Hl).ok L W :=
  ⟨hP W h.1.size (fun b hb => h.1.block b hb), fun b hS => ⟨Nat.lt_of_lt_of_le hS h.1.size, fun p hp => by have := (h.2.1 p hp).1; have hS : b < w.heap.size := hS; omega⟩, fun W' h1 h2 => hP W' (Nat.le_trans h.1.size h1) (fun b hb => (h2 b hb).trans (h.1.block b hb))⟩
theorem St.okRow (h : St w L D W) (x : Rr) (hx : x.on w) : (⟨x.on, oldS w⟩ : Hl).ok L W :=
  h.okOld fun W' h1 h2 => ⟨hx.1.keep fE_lasts h1 (fun p hp => cell_of (h2 _ hp)), hx.2.1.keep (flat_lasts _) h1 (fun p hp => cell_of (h2 _ hp)), hx.2.2.keep (flat_lasts _) h1 (fun p hp => cell_of (h2 _ hp))⟩
/-- it reads as their list -/
theorem OwL.rdR {e : TypeId} {val : Value} (h : OwL 5 Rr.cs e val (ofF n u) X) (K : St w (X ++ L) D W) (hm : rrF n u S ∈ D) (hn : n ≤ 1000000) : ∃ A cap, val = .slice A n cap ∧ RdR W W.heap.size A n cap (ofF n fun i => (u i).rv) := by
  rcases h with ⟨rfl, h0, rfl⟩ | ⟨g, cap, J, rfl, rfl, h1, h2, h3⟩
  · have : n = 0 := by rw [← ofF_len (n := n) (f := u), h0]; rfl
    subst this
    exact ⟨none, 0, rfl, Rd.nil⟩
  · rw [ofF_len] at h1 ⊢
    have hB := K.blk (b := g) (List.mem_append_left _ (List.mem_singleton.2 rfl))
    refine ⟨_, cap, rfl, ofF_len, h1, ⟨by unfold maxLen at h2; exact h2, by omega⟩, fun hn => ⟨g, 0, rfl, hB.lt, fun k hk => ?_⟩⟩
    rw [ofF_len] at hk
    refine ⟨(u k).cs, ?_, rfl, fun j v hv => ?_⟩
    · have e : (ofF n fun i => (u i).rv)[k]'(by rw [ofF_len]; exact hk) = (u k).rv := by
        have := ofF_get (f := fun i => (u i).rv) hk
        rw [List.getElem?_eq_getElem (by rw [ofF_len]; exact hk)] at this
        exact Option.some.inj this
      rw [e]
      have ho := (K.famAt hm (i := k) hk).1
      exact ⟨_, _, _, _, rfl, ho.1, _, _, _, _, _, _, rfl, ho.2.1, ho.2.2⟩
    · have hj : j < 5 := (List.getElem?_eq_some_iff.1 hv).1
      rw [Nat.zero_add]
      exact hB.cell ((recA_get (J := J) (v := u) rr_sized hk hj).trans hv)
end
/-- a slice of rows as it lies in memory -/
theorem rdR_raw {w : World} {B : Nat} {A : Option Addr} {n cap : Nat} {l : List Rv} (h : RdR w B A n cap l) (hB : B = w.heap.size) : ∃ v : Nat → Rr, Rd 5 (flat Rr.cs) w B A n cap (ofF n v) ∧ (∀ i, i < n → (v i).on w) ∧ ∀ i, i < n → l[i]? = some (v i).rv := by
  by_cases hn : n = 0
  · subst hn
    exact ⟨fun _ => Rr.zero, ⟨rfl, h.2.1, h.2.2.1, fun h => absurd h (by omega)⟩, fun i hi => absurd hi (by omega), fun i hi => absurd hi (by omega)⟩
  · obtain ⟨b, off, rfl, hb, hc⟩ := h.2.2.2 (by omega)
    have hl := h.1
    have ex : ∀ k, k < n → ∃ x : Rr, l[k]? = some x.rv ∧ (∀ (j : Nat) u, x.cs[j]? = some u → w.cell? ⟨b, off + k * 5 + j, none⟩ = some u) ∧ x.on w := fun k hk => by
      obtain ⟨cs, ⟨A0, n0, c0, cs', rfl, h0, A1, n1, c1, A2, n2, c2, rfl, h1, h2⟩, _, hj⟩ := hc k (by omega)
      have hx : l[k]? = some l[k] := List.getElem?_eq_getElem (by omega)
      subst hB
      exact ⟨⟨A0, n0, c0, (l[k]).a, ⟨(l[k]).b.s, A1, n1, c1, (l[k]).b.l, (l[k]).b.t, A2, n2, c2, (l[k]).b.m⟩⟩, hx, hj, h0, h1, h2⟩
    obtain ⟨v, hv⟩ : ∃ v : Nat → Rr, ∀ k, k < n → l[k]? = some (v k).rv ∧ (∀ (j : Nat) u, (v k).cs[j]? = some u → w.cell? ⟨b, off + k * 5 + j, none⟩ = some u) ∧ (v k).on w := by
      refine ⟨fun k => if h : k < n then (ex k h).choose else Rr.zero, fun k hk => ?_⟩
      simp only [dif_pos hk]
      exact (ex k hk).choose_spec
    refine ⟨v, ⟨ofF_len, h.2.1, h.2.2.1, fun _ => ⟨b, off, rfl, hb, fun k hk => ?_⟩⟩, fun i hi => (hv i hi).2.2, fun i hi => (hv i hi).1⟩
    rw [ofF_len] at hk
    refine ⟨(v k).cs, ?_, rfl, fun j u hu => (hv k hk).2.1 j u hu⟩
    have e : (ofF n v)[k]'(by rw [ofF_len]; exact hk) = v k := by
      have := ofF_get (f := v) hk
      rw [List.getElem?_eq_getElem (by rw [ofF_len]; exact hk)] at this
      exact Option.some.inj this
    rw [e]
    rfl
end Go.Proofs.Ytdlcglndhhndpaa
