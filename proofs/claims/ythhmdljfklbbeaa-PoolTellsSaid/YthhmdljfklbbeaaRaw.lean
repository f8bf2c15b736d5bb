/- Slices of slices, by their headers. No condition. -/
import Derived.Test.YthhmdljfklbbeaaP5
namespace Go.Proofs.Ythhmdljfklbbeaa
open Go.RowKit

/-- the header of a slice -/
def sEnc : Option Addr × Nat × Nat → List Value := fun x => [.slice x.1 x.2.1 x.2.2]
theorem sSized : Sized 1 sEnc := ⟨by omega, fun x => ⟨rfl, by intro u hu; simp [sEnc] at hu; subst hu; rfl⟩⟩
theorem RdII.raw {w : World} {B : Nat} {A : Option Addr} {n cap : Nat} {cl : List (List Int)} (h : RdII w B A n cap cl) :
    ∃ raw : List (Option Addr × Nat × Nat), Rd 1 (flat sEnc) w B A n cap raw ∧ ∀ k, k < n → ∃ x, raw[k]? = some x ∧ RdI w B x.1 x.2.1 x.2.2 (clAt cl k) := by
  have hlen := h.len
  have hex : ∀ k, ∃ x : Option Addr × Nat × Nat, k < n → (∀ b off, A = some ⟨b, off, none⟩ → w.cell? ⟨b, off + k, none⟩ = some (.slice x.1 x.2.1 x.2.2)) ∧ RdI w B x.1 x.2.1 x.2.2 (clAt cl k) := fun k => by
    by_cases hk : k < n
    · obtain ⟨b, off, A', n', cap', l, rfl, hbB, hx, c0, hl'⟩ := h.atII hk
      refine ⟨(A', n', cap'), fun _ => ⟨fun b' off' e => ?_, by rw [clAt_eq hx]; exact hl'⟩⟩
      injection e with e; injection e with e1 e2 e3
      subst e1; subst e2; exact c0
    · exact ⟨(none, 0, 0), fun h => absurd h hk⟩
  obtain ⟨f, hf⟩ := Classical.axiomOfChoice hex
  refine ⟨ofF n f, ⟨ofF_len, h.2.1, h.2.2.1, fun hn => ?_⟩, fun k hk => ⟨f k, ofF_get hk, (hf k hk).2⟩⟩
  obtain ⟨b, off, rfl, hb, hc⟩ := h.2.2.2 hn
  refine ⟨b, off, rfl, hb, fun k hk => ?_⟩
  have hkn : k < n := by rw [ofF_len] at hk; exact hk
  have e : (ofF n f)[k] = f k := by
    have h1 := ofF_get (f := f) hkn
    rw [List.getElem?_eq_getElem hk] at h1
    exact Option.some.inj h1
  refine ⟨_, rfl, rfl, fun j u hu => ?_⟩
  rw [e] at hu
  cases j with
  | zero =>
    simp [sEnc] at hu
    subst hu
    simpa using (hf k hkn).1 b off rfl
  | succ j => simp [sEnc] at hu
theorem RdII.ofRaw {w : World} {B : Nat} {A : Option Addr} {n cap : Nat} {raw : List (Option Addr × Nat × Nat)} {cl : List (List Int)} (h : Rd 1 (flat sEnc) w B A n cap raw) (hl : cl.length = n)
    (hk : ∀ k, k < n → ∃ x, raw[k]? = some x ∧ RdI w B x.1 x.2.1 x.2.2 (clAt cl k)) : RdII w B A n cap cl := by
  have hlen := h.len
  refine ⟨hl, h.2.1, h.2.2.1, fun hn => ?_⟩
  obtain ⟨b, off, rfl, hb, hc⟩ := h.2.2.2 hn
  refine ⟨b, off, rfl, hb, fun k hkl => ?_⟩
  obtain ⟨x, hx, hr⟩ := hk k (by omega)
  obtain ⟨cs, rfl, h1, hj⟩ := hc k (by omega)
  have e : raw[k]'(by omega) = x := by
    rw [List.getElem?_eq_getElem (by omega)] at hx
    exact Option.some.inj hx
  rw [e] at hj
  refine ⟨_, ⟨x.1, x.2.1, x.2.2, rfl, ?_⟩, rfl, hj⟩
  have e2 : clAt cl k = cl[k] := clAt_eq (List.getElem?_eq_getElem hkl)
  rw [← e2]; exact hr
/-- all but the first -/
theorem Rd.tail1 {α : Type} {sz : Nat} {R : Enc α} {w : World} {B : Nat} {b off n cap : Nat} {l : List α} (h : Rd sz R w B (some ⟨b, off, none⟩) n cap l) (hn : 0 < n) :
    Rd sz R w B (some ⟨b, off + sz, none⟩) (n - 1) (cap - 1) (l.drop 1) := by
  have hlen := h.len
  have hcaps := h.caps
  refine ⟨by rw [List.length_drop]; omega, by omega, ⟨by omega, by omega⟩, fun h1 => ?_⟩
  obtain ⟨b', off', e, hb, hc⟩ := h.2.2.2 hn
  injection e with e; injection e with e1 e2 e3
  subst e1; subst e2
  refine ⟨b, off + sz, rfl, hb, fun k hk => ?_⟩
  rw [List.length_drop] at hk
  obtain ⟨cs, h1, h2, hj⟩ := hc (k + 1) (by omega)
  refine ⟨cs, by simpa [Nat.add_comm] using h1, h2, fun j u hu => ?_⟩
  have := hj j u hu
  rw [show off + (k + 1) * sz + j = off + sz + k * sz + j by rw [Nat.add_mul]; omega] at this
  exact this
theorem clAt_cons_succ (l : List Int) (cl : List (List Int)) (k : Nat) : clAt (l :: cl.drop 1) (k + 1) = clAt cl (k + 1) := by
  simp [clAt, List.getD, Nat.add_comm]
/-- an own slice of headers, with another first one -/
theorem RdII.cons {w : World} {base : Nat} {e : TypeId} {v : Value} {A' : Option Addr} {n' c' n : Nat} {raw : List (Option Addr × Nat × Nat)} {cl : List (List Int)} {l : List Int}
    (own : Own 1 sEnc w base e v ((A', n', c') :: raw.drop 1)) (hr : RdI w w.heap.size A' n' c' l) (hrk : ∀ k, k < n → ∃ x, raw[k]? = some x ∧ RdI w w.heap.size x.1 x.2.1 x.2.2 (clAt cl k))
    (hraw : raw.length = n) (hcl : cl.length = n) (hn : 0 < n) (hm : n ≤ 140737488351232) : ∃ A c, v = .slice A n c ∧ RdII w w.heap.size A n c (l :: cl.drop 1) := by
  have hlen : ((A', n', c') :: raw.drop 1).length = n := by simp only [List.length_cons, List.length_drop]; omega
  obtain ⟨A, c, hv, hrd⟩ := own.rd sSized (by rw [hlen]; exact hm)
  rw [hlen] at hv hrd
  refine ⟨A, c, hv, RdII.ofRaw hrd (by simp only [List.length_cons, List.length_drop]; omega) fun k hk => ?_⟩
  cases k with
  | zero => exact ⟨(A', n', c'), rfl, hr⟩
  | succ k =>
    obtain ⟨x, hx, hrx⟩ := hrk (k + 1) hk
    refine ⟨x, ?_, by rw [clAt_cons_succ]; exact hrx⟩
    simpa [Nat.add_comm] using hx
/-- an empty literal, at an address of our own spelling -/
theorem Own.litB {w : World} {base H : Nat} {e : TypeId} (hH : w.heap.size = H) (hb : base ≤ w.heap.size) : Own 1 iEnc (w.alloc (.cells #[] e)) base e (.slice (some ⟨H, 0, none⟩) 0 0) ([] : List Int) := by
  subst hH
  exact Own.lit (n := 0) iSized hb [] #[] rfl rfl (by omega)
end Go.Proofs.Ythhmdljfklbbeaa
