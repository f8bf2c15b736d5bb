/- Memory words of layer 34: votes, and a slice of cards that the call itself owns. No condition. -/
import Derived.Test.YtfidjhhpcjmioaaB8
namespace Go.Proofs.Ytfidjhhpcjmioaa
open Go.RowKit
set_option linter.unusedVariables false

/-- votes: member, what it says, seed -/
abbrev Vt := Int × Bool × Int
def vEnc : Vt → List Value := fun x => [.int .i64 x.1, .bool x.2.1, .int .i64 x.2.2]
theorem vSized : Sized 3 vEnc := ⟨by omega, fun x => ⟨rfl, by intro u hu; simp [vEnc] at hu; rcases hu with rfl | rfl | rfl <;> rfl⟩⟩
abbrev RdV := Rd 3 (flat vEnc)
theorem Rd.atV {w : World} {B : Nat} {A : Option Addr} {n cap : Nat} {l : List Vt} (h : RdV w B A n cap l) {k : Nat} (hk : k < n) :
    ∃ b off x y z, A = some ⟨b, off, none⟩ ∧ b < B ∧ l[k]? = some (x, y, z) ∧ w.cell? ⟨b, off + k * 3, none⟩ = some (.int .i64 x) ∧ w.cell? ⟨b, off + k * 3 + 1, none⟩ = some (.bool y) ∧ w.cell? ⟨b, off + k * 3 + 2, none⟩ = some (.int .i64 z) := by
  obtain ⟨b, off, rfl, hb, hc⟩ := h.2.2.2 (by omega)
  have hl := h.1
  obtain ⟨cs, rfl, hl, hj⟩ := hc k (by omega)
  exact ⟨b, off, l[k].1, l[k].2.1, l[k].2.2, rfl, hb, List.getElem?_eq_getElem (by omega), by simpa [vEnc] using hj 0 _ rfl, by simpa [vEnc] using hj 1 _ rfl, by simpa [vEnc] using hj 2 _ rfl⟩

/-- a card as it lies: its member, and where its shares lie -/
abbrev Cw := Int × Option Addr × Nat × Nat
def sEnc : Cw → List Value := fun x => [.int .i64 x.1, .slice x.2.1 x.2.2.1 x.2.2.2]
theorem sSized : Sized 2 sEnc := ⟨by omega, fun x => ⟨rfl, by intro u hu; simp [sEnc] at hu; rcases hu with rfl | rfl <;> rfl⟩⟩

/-- what lies in another block than the one that grew stays -/
theorem Rd.apart {α : Type} {sz : Nat} {enc : α → List Value} {w w' : World} {B B' : Nat} {A : Option Addr} {n cap : Nat} {l : List α} {o : Option Nat} (h : Rd sz (flat enc) w B A n cap l) (hB : B ≤ w.heap.size) (hB' : B ≤ B') (hg : w.grownBy w' o) (hA : 0 < n → ∀ b off, A = some ⟨b, off, none⟩ → o ≠ some b) : Rd sz (flat enc) w' B' A n cap l := by
  refine ⟨h.1, h.2.1, h.2.2.1, fun hn => ?_⟩
  obtain ⟨b, off, rfl, hb, hc⟩ := h.2.2.2 hn
  refine ⟨b, off, rfl, by omega, fun k hk => ?_⟩
  obtain ⟨cs, hr, hl, hj⟩ := hc k hk
  exact ⟨cs, hr, hl, fun j u hu => (hg.cell_far ⟨b, off + k * sz + j, none⟩ (by show b < _; omega) (fun e => hA hn b off rfl e.symm)).trans (hj j u hu)⟩

/-- the cards as they lie read as cards -/
def Fit (w : World) (raw : Nat → Cw) (l : Nat → Crd) (n : Nat) : Prop := ∀ k, k < n → (raw k).1 = (l k).1 ∧ RdP w w.heap.size (raw k).2.1 (raw k).2.2.1 (raw k).2.2.2 (l k).2
theorem Fit.below {w w' : World} {raw : Nat → Cw} {l : Nat → Crd} {n : Nat} (h : Fit w raw l n) (hb : Below w.heap.size w w') : Fit w' raw l n := fun k hk => ⟨(h k hk).1, (h k hk).2.up (flat_lasts _) hb⟩
theorem Fit.rdC {w : World} {raw : Nat → Cw} {l : Nat → Crd} {n : Nat} {A : Option Addr} {cap : Nat} (h : Fit w raw l n) (hr : Rd 2 (flat sEnc) w w.heap.size A n cap (ofF n raw)) : RdC w w.heap.size A n cap (ofF n l) := by
  refine ⟨ofF_len, hr.2.1, hr.2.2.1, fun hn => ?_⟩
  obtain ⟨b, off, rfl, hb, hc⟩ := hr.2.2.2 hn
  refine ⟨b, off, rfl, hb, fun k hk => ?_⟩
  rw [ofF_len] at hk
  obtain ⟨cs, hr', hl, hj⟩ := hc k (by rw [ofF_len]; exact hk)
  have e1 : (ofF n raw)[k]'(by rw [ofF_len]; exact hk) = raw k := by
    have := ofF_get (f := raw) hk
    rw [List.getElem?_eq_getElem (by rw [ofF_len]; exact hk)] at this
    exact Option.some.inj this
  have e2 : (ofF n l)[k]'(by rw [ofF_len]; exact hk) = l k := by
    have := ofF_get (f := l) hk
    rw [List.getElem?_eq_getElem (by rw [ofF_len]; exact hk)] at this
    exact Option.some.inj this
  refine ⟨cs, ?_, hl, hj⟩
  rw [e2]
  rw [e1] at hr'
  obtain ⟨h1, h2⟩ := h k hk
  exact ⟨_, _, _, by rw [← h1]; exact hr', h2⟩
/-- a slice of cards of the call's own -/
def OwnC (w : World) (base : Nat) (e : TypeId) (v : Value) (n : Nat) (l : Nat → Crd) : Prop :=
  ∃ raw : Nat → Cw, Own 2 sEnc w base e v (ofF n raw) ∧ Fit w raw l n ∧ ∀ k, k < n → 0 < (raw k).2.2.1 → ∀ b off, (raw k).2.1 = some ⟨b, off, none⟩ → v.ownBlock ≠ some b
theorem OwnC.nil {w : World} {base : Nat} {e : TypeId} {l : Nat → Crd} : OwnC w base e (.slice none 0 0) 0 l := ⟨fun _ => (0, none, 0, 0), Own.nil, fun k hk => absurd hk (by omega), fun k hk => absurd hk (by omega)⟩
theorem OwnC.below {w w' : World} {base : Nat} {e : TypeId} {v : Value} {n : Nat} {l : Nat → Crd} (h : OwnC w base e v n l) (hb : Below w.heap.size w w') : OwnC w' base e v n l := by
  obtain ⟨raw, h1, h2, h3⟩ := h
  exact ⟨raw, h1.below hb, h2.below hb, h3⟩
theorem OwnC.rd {w : World} {base : Nat} {e : TypeId} {v : Value} {n : Nat} {l : Nat → Crd} (h : OwnC w base e v n l) (hn : n ≤ 140737488351232) : ∃ A cap, v = .slice A n cap ∧ RdC w w.heap.size A n cap (ofF n l) := by
  obtain ⟨raw, h1, h2, -⟩ := h
  obtain ⟨A, cap, rfl, hr⟩ := h1.rd sSized (by rw [ofF_len]; exact hn)
  rw [ofF_len] at hr ⊢
  exact ⟨A, cap, rfl, h2.rdC hr⟩
/-- one card more -/
theorem OwnC.app {w w' : World} {base : Nat} {e : TypeId} {v v' : Value} {n : Nat} {l : Nat → Crd} {raw : Nat → Cw} (h1 : Own 2 sEnc w base e v (ofF n raw)) (h2 : Fit w raw l n) (h3 : ∀ k, k < n → 0 < (raw k).2.2.1 → ∀ b off, (raw k).2.1 = some ⟨b, off, none⟩ → v.ownBlock ≠ some b)
    {A : Option Addr} {m cap : Nat} (hA : RdP w w.heap.size A m cap (l n).2) (hA2 : 0 < m → ∀ b off, A = some ⟨b, off, none⟩ → v.ownBlock ≠ some b)
    (ho : Own 2 sEnc w' base e v' (ofF n raw ++ [((l n).1, A, m, cap)])) (hg : w.grownBy w' v.ownBlock) (hx : v'.ownBlock = v.ownBlock ∨ v'.ownBlock = some w.heap.size) : OwnC w' base e v' (n + 1) l := by
  have hsz : w.heap.size ≤ w'.heap.size := hg.size
  refine ⟨fun k => if k < n then raw k else ((l n).1, A, m, cap), ?_, fun k hk => ?_, fun k hk hp b off he => ?_⟩
  · rw [ofF_succ, if_neg (Nat.lt_irrefl n), ofF_congr (g := raw) (fun i hi => if_pos hi)]
    exact ho
  · by_cases hkn : k < n
    · simp only [if_pos hkn]
      exact ⟨(h2 k hkn).1, (h2 k hkn).2.apart (Nat.le_refl _) hsz hg (h3 k hkn)⟩
    · have : k = n := by omega
      subst this
      simp only [if_neg hkn]
      exact ⟨trivial, hA.apart (Nat.le_refl _) hsz hg hA2⟩
  · have key : ∀ {A : Option Addr} {m cap : Nat} {x : List (Int × Int)}, RdP w w.heap.size A m cap x → 0 < m → A = some ⟨b, off, none⟩ → v.ownBlock ≠ some b → v'.ownBlock ≠ some b := fun hr hm he h => by
      obtain ⟨b', off', e1, hb, -⟩ := hr.2.2.2 hm
      rw [he] at e1
      injection e1 with e1
      injection e1 with e1
      rcases hx with hx | hx <;> rw [hx]
      · exact h
      · intro e2
        injection e2 with e2
        omega
    by_cases hkn : k < n
    · simp only [if_pos hkn] at hp he
      exact key (h2 k hkn).2 hp he (h3 k hkn hp b off he)
    · have : k = n := by omega
      subst this
      simp only [if_neg hkn] at hp he
      exact key hA hp he (hA2 hp b off he)
end Go.Proofs.Ytfidjhhpcjmioaa
