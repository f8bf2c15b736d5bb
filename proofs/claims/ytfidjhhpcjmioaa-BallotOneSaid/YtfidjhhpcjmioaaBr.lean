/- Plain law of layer 34, and words: one vote turned, one card left out, one card twice. -/
import Derived.Test.YtfidjhhpcjmioaaBq
import Derived.Test.YtfidjhhpcjmioaaB11
namespace Go.Proofs.Ytfidjhhpcjmioaa
open Go.RowKit Alg
set_option linter.unusedVariables false

theorem vote_info : (Try.prog.info? 43).map (fun i => (i.zero, i.size, i.bytes)) = some (some (.agg #[.int .i64 0, .bool false, .int .i64 0]), 3, 24) := by kernel_rfl
section
variable {w : World} {base : Nat} {e : TypeId} {g n cap : Nat}
theorem Own.cellV {f : Nat → Vt} (h : Own 3 vEnc w base e (.slice (some ⟨g, 0, none⟩) n cap) (ofF n f)) {i : Nat} (hi : i < n) : w.cell? ⟨g, i * 3 + 1, none⟩ = some (.bool (f i).2.1) ∧ w.frozen? ⟨g, i * 3 + 1, none⟩ = false := by
  unfold Own at h
  rw [ofF_len] at h
  refine ⟨?_, World.ownsRow.frozenAt h _⟩
  have h1 := World.ownsRow.cellAt h (i * 3 + 1) (by omega)
  have h2 := flatMap_get vSized (ofF n f) i 1 (by omega)
  rw [ofF_get hi] at h2
  rw [h1, h2]
  rfl
theorem Own.setV {f : Nat → Vt} (h : Own 3 vEnc w base e (.slice (some ⟨g, 0, none⟩) n cap) (ofF n f)) {i : Nat} (hi : i < n) (x : Bool) :
    Own 3 vEnc (w.setCell ⟨g, i * 3 + 1, none⟩ (.bool x)) base e (.slice (some ⟨g, 0, none⟩) n cap) (ofF n (fun j => if j = i then ((f i).1, x, (f i).2.2) else f j)) := by
  have h1 := (Own.stored (k := i) (j := 1) (y := ((f i).1, x, (f i).2.2)) (u := .bool x) vSized h ofF_len (ofF_get hi) (by omega) rfl).1
  rw [ofF_set] at h1
  exact h1
end
theorem vAt_ofF {n : Nat} {f : Nat → Vt} {j : Nat} (h : j < n) : vAt (ofF n f) j = f j := vAt_eq (ofF_get h)
theorem ofF_vAt {l : List Vt} {n : Nat} (h : l.length = n) : l = ofF n (vAt l) := by
  apply List.ext_getElem?
  intro i
  by_cases hi : i < n
  · rw [ofF_get hi, List.getElem?_eq_getElem (by omega)]
    unfold vAt
    rw [List.getD, List.getElem?_eq_getElem (by omega)]; rfl
  · rw [List.getElem?_eq_none (by omega), List.getElem?_eq_none (by rw [ofF_len]; omega)]
theorem ofF_rest {α : Type} {n I : Nat} {f : Nat → α} (h : I < n) : (ofF n f).take I ++ (ofF n f).drop (I + 1) = ofF (n - 1) (fun j => f (skip I j)) := by
  apply List.ext_getElem?
  intro j
  have hl : ((ofF n f).take I).length = I := by rw [List.length_take, ofF_len]; omega
  by_cases hj : j < I
  · rw [List.getElem?_append_left (by omega), List.getElem?_take, if_pos hj, ofF_get (by omega), ofF_get (by omega)]
    simp [skip, hj]
  · rw [List.getElem?_append_right (by omega), hl, List.getElem?_drop, show I + 1 + (j - I) = j + 1 by omega]
    by_cases h2 : j + 1 < n
    · rw [ofF_get h2, ofF_get (by omega)]
      simp [skip, hj]
    · rw [List.getElem?_eq_none (by rw [ofF_len]; omega), List.getElem?_eq_none (by rw [ofF_len]; omega)]
theorem ofF_more {α : Type} {n : Nat} {f : Nat → α} {x : α} : ofF n f ++ [x] = ofF (n + 1) (fun j => if j < n then f j else x) := by
  rw [ofF_succ, if_neg (Nat.lt_irrefl n), ofF_congr (g := f) (fun i hi => if_pos hi)]

/-- the votes with one turned -/
def turnV (l : List Vt) (n I : Nat) (y : Bool) : List Vt := ofF n (fun j => if j = I then ((vAt l I).1, y, (vAt l I).2.2) else vAt l j)
section
variable {l : List Vt} {n I : Nat}
theorem turnV_fst (y : Bool) {j : Nat} (hj : j < n) : (vAt (turnV l n I y) j).1 = (vAt l j).1 := by
  unfold turnV
  rw [vAt_ofF hj]
  split
  · rename_i e; rw [e]
  · rfl
theorem turnV_yes (hI : I < n) : yesN (vAt (turnV l n I (!(vAt l I).2.1))) n = yesN (vAt l) n + (if (vAt l I).2.1 then -1 else 1) := by
  unfold yesN
  rw [sumN_change (f := fun j => yesI (vAt l j).2.1) (i := I) n hI (fun j hj hji => by
    show yesI (vAt l j).2.1 = _
    unfold turnV
    rw [vAt_ofF hj, if_neg hji])]
  have e : (vAt (turnV l n I (!(vAt l I).2.1)) I).2.1 = !(vAt l I).2.1 := by
    unfold turnV
    rw [vAt_ofF hI, if_pos rfl]
  rw [e]
  cases (vAt l I).2.1 <;> simp [yesI] <;> omega
theorem skip_yes (V : Nat → Vt) (hI : I < n) : yesN (fun j => V (skip I j)) (n - 1) = yesN V n - yesI (V I).2.1 := by
  have h := sumN_skip (fun j => yesI (V j).2.1) I (n - 1) (by omega)
  rw [show n - 1 + 1 = n by omega] at h
  exact h
theorem skip_mono {I i j : Nat} (h : i < j) : skip I i < skip I j := by unfold skip; split <;> split <;> omega
theorem turnV_len (y : Bool) : (turnV l n I y).length = n := ofF_len
theorem turnV_mem {y : Bool} (h : ∀ x ∈ l, I64 x.1 ∧ I64 x.2.2) (hl : l.length = n) (hI : I < n) : ∀ x ∈ turnV l n I y, -9223372036854775808 ≤ x.2.2 ∧ x.2.2 ≤ 9223372036854775807 := fun x hx => by
  have hat : ∀ j, j < n → vAt l j ∈ l := fun j hj => by
    have : vAt l j = l[j] := by unfold vAt; rw [List.getD, List.getElem?_eq_getElem (by omega)]; rfl
    rw [this]; exact List.getElem_mem _
  obtain ⟨j, hj, rfl⟩ := ofF_mem hx
  split
  · exact (h _ (hat I hI)).2
  · exact (h _ (hat j hj)).2
end

/-- cards, with where they lie -/
def CardsRaw (w : World) (n : Nat) (L : Nat → Crd) (e : Ending) (w' : World) : Prop :=
  ∃ A cap raw, e = .returned (.tuple #[.slice A n cap, .bool true]) ∧ Rd 2 (flat sEnc) w' w'.heap.size A n cap (ofF n raw) ∧ Fit w' raw L n ∧ Below w.heap.size w w'
theorem cards_raw (A : Option Addr) (n cap : Nat) (l : List Vt) (t k : Nat) (w : World) (hl : RdV w w.heap.size A n cap l) (hm : ∀ i, i < n → memF (vAt l i).1 = true) (hs : ∀ x ∈ l, -9223372036854775808 ≤ x.2.2 ∧ x.2.2 ≤ 9223372036854775807) (hk : 1 ≤ k) (hkt : k ≤ t) (ht : t ≤ 20) (hn : n ≤ 1000000) :
  Calls Try.prog 36 #[.slice A n cap, .int .i64 t, .int .i64 k] w (CardsRaw w n (fun i => cardOf t k (vAt l i))) :=
  (cards_any A n cap l t k w hl hm hs hk hkt ht hn).mono fun e w' ⟨v, he, ⟨raw, ho, hf, _⟩, hb⟩ => by
    obtain ⟨A', cap', rfl, hr⟩ := ho.rd sSized (by rw [ofF_len]; omega)
    rw [ofF_len] at hr he
    exact ⟨A', cap', raw, he, hr, hf, hb⟩
/-- a card more -/
theorem Fit.more {w : World} {raw : Nat → Cw} {L : Nat → Crd} {n : Nat} (h : Fit w raw L n) {x : Cw} {c : Crd} (hx : x.1 = c.1 ∧ RdP w w.heap.size x.2.1 x.2.2.1 x.2.2.2 c.2) : Fit w (fun j => if j < n then raw j else x) (fun j => if j < n then L j else c) (n + 1) := fun k hk => by
  by_cases hkn : k < n
  · simp only [if_pos hkn]; exact h k hkn
  · simp only [if_neg hkn]; exact hx
theorem Fit.skip {w : World} {raw : Nat → Cw} {L : Nat → Crd} {n I : Nat} (h : Fit w raw L n) (hI : I < n) : Fit w (fun j => raw (Proofs.Ytfidjhhpcjmioaa.skip I j)) (fun j => L (Proofs.Ytfidjhhpcjmioaa.skip I j)) (n - 1) := fun k hk => h _ (skip_lt (by omega))
theorem Rd.atS {w : World} {B : Nat} {A : Option Addr} {n cap : Nat} {raw : Nat → Cw} (h : Rd 2 (flat sEnc) w B A n cap (ofF n raw)) {k : Nat} (hk : k < n) :
    ∃ b off, A = some ⟨b, off, none⟩ ∧ b < B ∧ w.cell? ⟨b, off + k * 2, none⟩ = some (.int .i64 (raw k).1) ∧ w.cell? ⟨b, off + k * 2 + 1, none⟩ = some (.slice (raw k).2.1 (raw k).2.2.1 (raw k).2.2.2) := by
  obtain ⟨b, off, rfl, hb, hc⟩ := h.2.2.2 (by omega)
  obtain ⟨cs, hr, hl, hj⟩ := hc k (by rw [ofF_len]; exact hk)
  have e : (ofF n raw)[k]'(by rw [ofF_len]; exact hk) = raw k := by
    have := ofF_get (f := raw) hk
    rw [List.getElem?_eq_getElem (by rw [ofF_len]; exact hk)] at this
    exact Option.some.inj this
  rw [e] at hr
  unfold flat at hr
  subst hr
  exact ⟨b, off, rfl, hb, hj 0 _ rfl, hj 1 _ rfl⟩
end Go.Proofs.Ytfidjhhpcjmioaa
