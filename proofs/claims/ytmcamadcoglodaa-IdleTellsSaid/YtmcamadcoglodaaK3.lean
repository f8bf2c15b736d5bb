/- Plain law: the rounds of prices. No condition. -/
import Derived.Test.YtmcamadcoglodaaQ7
namespace Go.Proofs.Ytmcamadcoglodaa
open Go.RowKit
set_option linter.unusedVariables false

/-- before row p + 1 is placed -/
structure Pst (m n p : Nat) (M : Int) (c : Nat → Nat → Int) (U V : Nat → Int) (O : Nat → Nat) : Prop where
  mt : Mt m n p c U V O
  uz : ∀ r, p < r → U r = 0
  v0 : -((p : Int) * M) ≤ V 0 ∧ V 0 ≤ 0
  ub : ∀ r, 1 ≤ r → r ≤ m → U r ≤ M
  vb : ∀ k, 1 ≤ k → k ≤ n → -M ≤ V k
section
variable {m n p : Nat} {M : Int} {c : Nat → Nat → Int} {U V : Nat → Int} {O : Nat → Nat}
theorem Pst.start (hM : 0 ≤ M) (hc : ∀ r k, 1 ≤ r → r ≤ m → 1 ≤ k → k ≤ n → 0 ≤ c r k ∧ c r k ≤ M) : Pst m n 0 M c (fun _ => 0) (fun _ => 0) (fun _ => 0) where
  mt := ⟨fun r k h1 h2 h3 h4 => by have := (hc r k h1 h2 h3 h4).1; omega, fun k _ _ h => absurd rfl h, fun _ _ _ => Int.le_refl _, fun _ _ _ _ => rfl, fun _ _ _ => Nat.le_refl _, fun _ _ _ _ _ _ _ h => absurd rfl h, fun r h1 h2 => absurd h1 (by omega), fun _ => Int.le_refl _⟩
  uz := fun _ _ => rfl
  v0 := by omega
  ub := fun _ _ _ => hM
  vb := fun _ _ _ => by omega
theorem Pst.hp (h : Pst m n p M c U V O) (W : Nat → Nat) (far : Int) : Hp m n p M far c U V (fun k => if k = 0 then p + 1 else O k) W (fun _ => far) (fun _ => false) 0 :=
  Hp.start h.mt h.uz h.v0 W _ (fun _ _ _ => rfl)
theorem Pst.next {far : Int} {W : Nat → Nat} {L : Nat → Int} {D : Nat → Bool} {a : Nat} {O' : Nat → Nat} (h : Hp m n p M far c U V O W L D a) (hp : p < m) (hmn : m ≤ n) (hM : 0 ≤ M) (hc : ∀ r k, 1 ≤ r → r ≤ m → 1 ≤ k → k ≤ n → 0 ≤ c r k ∧ c r k ≤ M) (hm : Mt m n (p + 1) c U V O') : Pst m n (p + 1) M c U V O' where
  mt := hm
  uz := fun r hr => h.uz r hr
  v0 := by
    have h1 := h.v0
    have h2 := h.mt.u_le (by omega) hc (r := p + 1) (by omega) (by omega)
    have h3 : ((p + 1 : Nat) : Int) * M = (p : Int) * M + M := by
      rw [Int.natCast_add, Int.add_mul]; omega
    omega
  ub := fun r h1 h2 => h.mt.u_le (by omega) hc h1 h2
  vb := fun k h1 h2 => h.mt.v_ge (by omega) (by omega) hM hc h1 h2
end
/-- how many are marked -/
def cnt (D : Nat → Bool) : Nat → Nat
  | 0 => 0
  | k + 1 => cnt D k + if D k then 1 else 0
theorem cnt_le (D : Nat → Bool) : ∀ N, cnt D N ≤ N
  | 0 => Nat.le_refl _
  | N + 1 => by
    have := cnt_le D N
    rw [cnt]
    split <;> omega
theorem cnt_mark {D : Nat → Bool} {a : Nat} (h : D a = false) : ∀ N, cnt (mark D a) N = cnt D N + if a < N then 1 else 0
  | 0 => by simp [cnt]
  | N + 1 => by
    rw [cnt, cnt, cnt_mark h N]
    by_cases e : N = a
    · subst e
      rw [mark_self, h, if_pos rfl, if_neg (Nat.lt_irrefl _), if_pos (Nat.lt_succ_self _)]
      rfl
    · have : mark D a N = D N := by unfold mark; rw [if_neg e]
      rw [this]
      by_cases e2 : a < N
      · rw [if_pos e2, if_pos (show a < N + 1 by omega)]; omega
      · rw [if_neg e2, if_neg (show ¬ a < N + 1 by omega)]; rfl
theorem cnt_more {D : Nat → Bool} {a n : Nat} (h : D a = false) (ha : a ≤ n) : cnt (mark D a) (n + 1) = cnt D (n + 1) + 1 ∧ cnt (mark D a) (n + 1) ≤ n + 1 := by
  refine ⟨?_, cnt_le _ _⟩
  rw [cnt_mark h, if_pos (by omega)]
/-- the columns before k have been written down -/
def Outs (O : Nat → Nat) (k : Nat) (T : Nat → Nat) : Prop := ∀ j, 1 ≤ j → j < k → O j ≠ 0 → T (O j - 1) = j - 1
theorem Outs.start (O T : Nat → Nat) : Outs O 1 T := fun j h1 h2 => absurd h2 (by omega)
theorem Outs.skip {O T : Nat → Nat} {k : Nat} (h : Outs O k T) (hk : O k = 0) : Outs O (k + 1) T := fun j h1 h2 h3 => by
  by_cases e : j = k
  · subst e; exact absurd hk h3
  · exact h j h1 (by omega) h3
section
variable {m n : Nat} {c : Nat → Nat → Int} {U V : Nat → Int} {O : Nat → Nat}
theorem Outs.put {T : Nat → Nat} {k : Nat} (h : Outs O k T) (hm : Mt m n m c U V O) (h1 : 1 ≤ k) (h2 : k ≤ n) (hk : O k ≠ 0) : Outs O (k + 1) (fun r => if r = O k - 1 then k - 1 else T r) := fun j j1 j2 j3 => by
  by_cases e : j = k
  · subst e; simp
  · have h3 := h j j1 (by omega) j3
    by_cases e2 : O j - 1 = O k - 1
    · have := hm.inj j k j1 (by omega) h1 h2 (by omega) j3
      omega
    · simp only [if_neg e2]; exact h3
theorem Outs.fin {T : Nat → Nat} (h : Outs O (n + 1) T) (hm : Mt m n m c U V O) : ∀ r, r < m → T r < n ∧ O (T r + 1) = r + 1 := fun r hr => by
  obtain ⟨k, k1, k2, k3⟩ := hm.sur (r + 1) (by omega) (by omega)
  have h1 := h k k1 (by omega) (by omega)
  rw [k3, Nat.add_sub_cancel] at h1
  rw [h1]
  exact ⟨by omega, by rw [Nat.sub_add_cancel k1]; exact k3⟩
end
/-- what prices returns: an assignment with its certificate -/
def PricePost (w : World) (m n : Nat) (M : Int) (cl : List (List Int)) (e : Ending) (w' : World) : Prop :=
  ∃ (T : Nat → Nat) (R K : Nat → Int) (g1 g2 g3 : Nat), e = .returned (.agg #[.slice (some ⟨g1, 0, none⟩) m m, .slice (some ⟨g2, 1, none⟩) m m, .slice (some ⟨g3, 1, none⟩) n n]) ∧
    Own 1 iEnc w' w.heap.size 3 (.slice (some ⟨g1, 0, none⟩) m m) (ofF m (fun r => (T r : Int))) ∧ RdI w' w'.heap.size (some ⟨g2, 1, none⟩) m m (ofF m R) ∧ RdI w' w'.heap.size (some ⟨g3, 1, none⟩) n n (ofF n K) ∧
    Ce m n (tb cl) T R K ∧ (∀ r, r < m → 0 ≤ R r ∧ R r ≤ M) ∧ (∀ k, k < n → -M ≤ K k ∧ K k ≤ 0) ∧ Below w.heap.size w w'
end Go.Proofs.Ytmcamadcoglodaa
