/- Words for memory: a table of rows that the call itself makes by appending, whatever the rows' capacities; a row copied by append. No condition. -/
import Derived.Test.YtmcamadcoglodaaGr
import Derived.Test.YtmcamadcoglodaaKeep
namespace Go.Proofs.Ytmcamadcoglodaa
open Go.RowKit
set_option linter.unusedVariables false

theorem RdII.ofRawQ {w : World} {B : Nat} {A : Option Addr} {n cap : Nat} {raw : List Iw} {cl : List (List Int)} (h : Rd 1 (flat qEnc) w B A n cap raw) (hl : cl.length = n)
    (hk : ∀ k, k < n → ∃ x, raw[k]? = some x ∧ RdI w B x.1 x.2.1 x.2.2 (clAt cl k)) : RdII w B A n cap cl := by
  have hlen := h.len
  refine ⟨hl, h.2.1, h.2.2.1, fun hn => ?_⟩
  obtain ⟨b, off, rfl, hb, hc⟩ := h.2.2.2 hn
  refine ⟨b, off, rfl, hb, fun k hkl => ?_⟩
  obtain ⟨x, hx, hr⟩ := hk k (by omega)
  obtain ⟨cs, rfl, h1, hj⟩ := hc k (by omega)
  have e : raw[k]'(by omega) = x := by
    rw [List.getElem?_eq_getElem (by omega)] at hx
    exact Option.some.inj hx
  rw [e] at hj
  refine ⟨_, ⟨x.1, x.2.1, x.2.2, rfl, ?_⟩, rfl, hj⟩
  have e2 : clAt cl k = cl[k] := clAt_eq (List.getElem?_eq_getElem hkl)
  rw [← e2]; exact hr
/-- a table of the call's own, whose blocks are among S -/
def TbO (w : World) (base : Nat) (S : Nat → Prop) (v : Value) (L : List (List Int)) : Prop :=
  (∀ b, S b → base ≤ b ∧ b < w.heap.size) ∧ (∀ b, v.ownBlock = some b → S b) ∧ ∃ raw : List Iw, Own 1 qEnc w base 23 v raw ∧ raw.length = L.length ∧
    ∀ k, k < L.length → ∃ x, raw[k]? = some x ∧ RdI w w.heap.size x.1 x.2.1 x.2.2 (clAt L k) ∧ ∀ b off, x.1 = some ⟨b, off, none⟩ → S b ∧ v.ownBlock ≠ some b
section
variable {w w' : World} {base : Nat} {S : Nat → Prop} {v : Value} {L : List (List Int)}
theorem TbO.nil (w : World) (base : Nat) : TbO w base (fun _ => False) (.slice none 0 0) [] := ⟨(fun b h => h.elim), (fun b h => by cases h), [], Own.nil, rfl, (fun k hk => absurd hk (Nat.not_lt_zero k))⟩
theorem TbO.below (h : TbO w base S v L) (hb : Below w.heap.size w w') : TbO w' base S v L := by
  obtain ⟨h1, h2, raw, h3, h4, h5⟩ := h
  refine ⟨fun b hs => by have := h1 b hs; have := hb.size; omega, h2, raw, h3.below hb, h4, fun k hk => ?_⟩
  obtain ⟨x, hx, hr, hs⟩ := h5 k hk
  exact ⟨x, hx, hr.up (flat_lasts _) hb, hs⟩
theorem TbO.keptS {R : Nat → Prop} (h : TbO w base S v L) (hk : Kept R w w') (hR : ∀ b, S b → ¬ R b) : TbO w' base S v L := by
  obtain ⟨h1, h2, raw, h3, h4, h5⟩ := h
  refine ⟨fun b hs => by have := h1 b hs; have := hk.size; omega, h2, raw, h3.keptS hk (fun g hg => hR g (h2 g hg)), h4, fun k hkk => ?_⟩
  obtain ⟨x, hx, hr, hs⟩ := h5 k hkk
  exact ⟨x, hx, hr.keptS hk (Nat.le_refl _) hk.size (fun _ b off e => hR b (hs b off e).1), hs⟩
theorem TbO.drewN (h : TbO w base S v L) (q : Nat) : TbO (w.drewN q) base S v L := h.below (below_drewN (Below.refl _ _) q)
theorem TbO.mono {base' : Nat} (h : TbO w base S v L) (hb : base' ≤ base) : TbO w base' S v L := by
  obtain ⟨h1, h2, raw, h3, h4, h5⟩ := h
  exact ⟨fun b hs => by have := h1 b hs; omega, h2, raw, h3.mono hb, h4, h5⟩
theorem TbO.rd (h : TbO w base S v L) (hn : L.length ≤ 140737488351232) : ∃ A cap, v = .slice A L.length cap ∧ RdII w w.heap.size A L.length cap L := by
  obtain ⟨h1, h2, raw, h3, h4, h5⟩ := h
  obtain ⟨A, cap, e, hr⟩ := h3.rd qSized (by omega)
  rw [h4] at e hr
  refine ⟨A, cap, e, RdII.ofRawQ hr rfl fun k hk => ?_⟩
  obtain ⟨x, hx, hrx, _⟩ := h5 k hk
  exact ⟨x, hx, hrx⟩
end
theorem clAt_app (L : List (List Int)) (l : List Int) {k : Nat} (hk : k < (L ++ [l]).length) : clAt (L ++ [l]) k = if k < L.length then clAt L k else l := by
  unfold clAt
  simp only [List.getD]
  by_cases h : k < L.length
  · rw [if_pos h, List.getElem?_append_left h]
  · rw [if_neg h, List.getElem?_append_right (by omega)]
    simp at hk
    rw [show k - L.length = 0 by omega]
    rfl
theorem TbO.push {w w' : World} {base : Nat} {S : Nat → Prop} {v v' : Value} {L : List (List Int)} {raw : List Iw} {A : Option Addr} {n c : Nat} {l : List Int}
    (h1 : ∀ b, S b → base ≤ b ∧ b < w.heap.size) (h2 : ∀ b, v.ownBlock = some b → S b) (h4 : raw.length = L.length)
    (h5 : ∀ k, k < L.length → ∃ x, raw[k]? = some x ∧ RdI w w.heap.size x.1 x.2.1 x.2.2 (clAt L k) ∧ ∀ b off, x.1 = some ⟨b, off, none⟩ → S b ∧ v.ownBlock ≠ some b)
    (hr : RdI w w.heap.size A n c l) (hA : ∀ b off, A = some ⟨b, off, none⟩ → ¬ S b ∧ base ≤ b ∧ b < w.heap.size)
    (ho : Own 1 qEnc w' base 23 v' (raw ++ [(A, n, c)])) (hk : Kept (fun b => v.ownBlock = some b) w w') (hv : ∀ g, v'.ownBlock = some g → v.ownBlock = some g ∨ w.heap.size ≤ g) :
    ∃ S', TbO w' base S' v' (L ++ [l]) ∧ (∀ b, S' b → S b ∨ (∃ off, A = some ⟨b, off, none⟩) ∨ w.heap.size ≤ b) := by
  refine ⟨fun b => S b ∨ (∃ off, A = some ⟨b, off, none⟩) ∨ v'.ownBlock = some b, ⟨fun b hb => ?_, fun b hb => Or.inr (Or.inr hb), raw ++ [(A, n, c)], ho, by simp [h4], fun k hk2 => ?_⟩, fun b hb => ?_⟩
  · rcases hb with hb | ⟨off, hb⟩ | hb
    · have := h1 b hb; have := hk.size; omega
    · have := hA b off hb; have := hk.size; omega
    · exact ho.lt b hb
  · rw [clAt_app L l hk2]
    by_cases hkl : k < L.length
    · rw [if_pos hkl]
      obtain ⟨x, hx, hrx, hs⟩ := h5 k hkl
      refine ⟨x, by rw [List.getElem?_append_left (by omega)]; exact hx, hrx.keptS hk (Nat.le_refl _) hk.size (fun _ b off e => (hs b off e).2), fun b off e => ⟨Or.inl (hs b off e).1, fun e2 => ?_⟩⟩
      rcases hv b e2 with h | h
      · exact (hs b off e).2 h
      · have := (h1 b (hs b off e).1).2; omega
    · rw [if_neg hkl]
      have hkk : k = raw.length := by simp at hk2; omega
      refine ⟨(A, n, c), by rw [hkk, List.getElem?_append_right (Nat.le_refl _), Nat.sub_self]; rfl, hr.keptS hk (Nat.le_refl _) hk.size (fun _ b off e h => (hA b off e).1 (h2 b h)), fun b off e => ⟨Or.inr (Or.inl ⟨off, e⟩), fun e2 => ?_⟩⟩
      have h6 := hA b off e
      rcases hv b e2 with h | h
      · exact h6.1 (h2 b h)
      · omega
  · rcases hb with hb | hb | hb
    · exact Or.inl hb
    · exact Or.inr (Or.inl hb)
    · rcases hv b hb with h | h
      · exact Or.inl (h2 b h)
      · exact Or.inr (Or.inr h)
section
variable {P : Program}
/-- one row, appended to a table of the call's own -/
theorem wpList_push {ops : Array Oper} {rest : List Oper} {o : Oper} {a : Act} {Q : Exit → Act → World → Prop} (hgd : o.guard = none) (s x : Operand) (t : TypeId)
    (ho : o.op = .call { callee := .builtin .append, args := #[s, x], argTypes := #[t, t] })
    (base : Nat) (i : TypeInfo) (z : Value) (ht : P.underlying t = some (.slice 23)) (hi : P.info? 23 = some i) (hz : i.zero = some z)
    (hsize : i.size = 1) (hby : i.bytes = 24) (hzs : z.cells.size = 1)
    {w : World} {S : Nat → Prop} (v : Value) (L : List (List Int)) (hv : a.eval s = v) (hT : TbO w base S v L) (A : Option Addr) (n c : Nat) (l : List Int) (hr : RdI w w.heap.size A n c l) (hA : ∀ b off, A = some ⟨b, off, none⟩ → ¬ S b ∧ base ≤ b ∧ b < w.heap.size)
    (H : Nat) (hH : w.heap.size = H) (hx : a.eval x = .slice (some ⟨H, 0, none⟩) 1 1) (hlen : L.length ≤ 1000000) (hbase : base ≤ w.heap.size)
    (h : ∀ v' w' S', TbO w' base S' v' (L ++ [l]) → Kept (fun b => v.ownBlock = some b) w w' → (∀ b, S' b → S b ∨ (∃ off, A = some ⟨b, off, none⟩) ∨ w.heap.size ≤ b) → (∀ B w0, B ≤ base → Below B w0 w → Below B w0 w') → wpList P ops Q rest (a.put o.dst v') w') :
    wpList P ops Q (o :: rest) a (w.alloc (.cells #[.slice A n c] 23)) := by
  obtain ⟨h1, h2, raw, h3, h4, h5⟩ := hT
  refine wpList_app1 qSized hgd s x t ho base 23 i z 24 ht hi hz hsize hby hzs v raw hv h3 ((A, n, c) : Iw) _ rfl H hH hx (by omega) (by omega) hbase ?_
  intro v' w' ho' hk hv' hb
  obtain ⟨S', hT', hS'⟩ := TbO.push h1 h2 h4 h5 hr hA ho' hk hv'
  exact h v' w' S' hT' hk hS' hb
/-- a row copied: append onto an empty literal -/
theorem wpList_row {ops : Array Oper} {rest : List Oper} {o : Oper} {a : Act} {Q : Exit → Act → World → Prop} (hgd : o.guard = none) (s x : Operand) (t : TypeId)
    (ho : o.op = .call { callee := .builtin .append, args := #[s, x], argTypes := #[t, t] })
    (i : TypeInfo) (z : Value) (ht : P.underlying t = some (.slice 3)) (hi : P.info? 3 = some i) (hz : i.zero = some z)
    (hsize : i.size = 1) (hby : i.bytes = 8) (hzs : z.cells.size = 1)
    {w : World} (H : Nat) (hH : w.heap.size = H) (hv : a.eval s = .slice (some ⟨H, 0, none⟩) 0 0) (A : Option Addr) (m c : Nat) (l : List Int) (hx : a.eval x = .slice A m c) (hr : RdI w w.heap.size A m c l) (hm : 0 < m) (hm2 : m ≤ 1000000)
    (h : ∀ g c' w', Own 1 iEnc w' w.heap.size 3 (.slice (some ⟨g, 0, none⟩) m c') l → Below w.heap.size w w' → wpList P ops Q rest (a.put o.dst (.slice (some ⟨g, 0, none⟩) m c')) w') :
    wpList P ops Q (o :: rest) a (w.alloc (.cells #[] 3)) := by
  subst hH
  have hl := hr.len
  have hb0 := (Below.refl w.heap.size w).alloc (Nat.le_refl _) (.cells #[] 3)
  have ho0 : Own 1 iEnc (w.alloc (.cells #[] 3)) w.heap.size 3 (.slice (some ⟨w.heap.size, 0, none⟩) 0 0) ([] : List Int) := Own.lit (n := 0) iSized (Nat.le_refl _) [] #[] rfl rfl (by omega)
  refine wpList_app _ iSized hgd s x t ho w.heap.size 3 i z 8 ht hi hz hsize hby hzs _ ([] : List Int) hv ho0 _ A m c l hx (hr.up (flat_lasts _) hb0) (by simp only [maxLen, List.length_nil]; omega) (by simp only [List.length_nil]; omega) (by simp) ?_
  intro v' w' ho' hg hx'
  have hb : Below w.heap.size w w' := Own.grow ho0 (Nat.le_refl _) hb0 (by simp) hg
  rw [List.nil_append] at ho'
  obtain ⟨g, c', rfl, -⟩ := ho'.form (by omega)
  rw [hl] at ho' ⊢
  exact h g c' w' ho' hb
end
end Go.Proofs.Ytmcamadcoglodaa
