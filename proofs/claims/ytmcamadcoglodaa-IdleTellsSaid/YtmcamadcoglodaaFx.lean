/- Words for memory: a table of ints whose rows the call itself owns, of any capacities; plain words of Solve's table. No condition. -/
import Derived.Test.YtmcamadcoglodaaK3
namespace Go.Proofs.Ytmcamadcoglodaa
open Go.RowKit
set_option linter.unusedVariables false

/-- the first k rows of a table of m times n -/
structure Fx (w : World) (base m n k h : Nat) (rows caps : Nat → Nat) (D : Nat → Nat → Int) : Prop where
  hdr : Own 1 qEnc w base 23 (.slice (some ⟨h, 0, none⟩) m m) (ofF m (fun i => if i < k then ((some ⟨rows i, 0, none⟩, n, caps i) : Iw) else (none, 0, 0)))
  row : ∀ i, i < k → Own 1 iEnc w base 3 (.slice (some ⟨rows i, 0, none⟩) n (caps i)) (ofF n (D i))
  inj : ∀ i j, i < k → j < k → rows i = rows j → i = j
  ne : ∀ i, i < k → rows i ≠ h
section
variable {w w' : World} {base m n k h : Nat} {rows caps : Nat → Nat} {D : Nat → Nat → Int}
theorem Fx.hlt (g : Fx w base m n k h rows caps D) : base ≤ h ∧ h < w.heap.size := g.hdr.lt h rfl
theorem Fx.rlt (g : Fx w base m n k h rows caps D) {i : Nat} (hi : i < k) : base ≤ rows i ∧ rows i < w.heap.size := (g.row i hi).lt _ rfl
theorem Fx.below (g : Fx w base m n k h rows caps D) (hb : Below w.heap.size w w') : Fx w' base m n k h rows caps D := ⟨g.hdr.below hb, fun i hi => (g.row i hi).below hb, g.inj, g.ne⟩
theorem Fx.mono {base' : Nat} (g : Fx w base m n k h rows caps D) (hb : base' ≤ base) : Fx w base' m n k h rows caps D := ⟨g.hdr.mono hb, fun i hi => (g.row i hi).mono hb, g.inj, g.ne⟩
theorem Fx.drewN (g : Fx w base m n k h rows caps D) (q : Nat) : Fx (w.drewN q) base m n k h rows caps D := ⟨g.hdr, g.row, g.inj, g.ne⟩
theorem Fx.drew (g : Fx w base m n k h rows caps D) : Fx w.drew base m n k h rows caps D := ⟨g.hdr, g.row, g.inj, g.ne⟩
theorem Fx.head (g : Fx w base m n k h rows caps D) {i : Nat} (hi : i < k) (him : i < m) : w.cell? ⟨h, i, none⟩ = some (.slice (some ⟨rows i, 0, none⟩) n (caps i)) := by
  have h1 := (g.hdr.cellQ him).1
  rw [if_pos hi] at h1
  exact h1
theorem Fx.spot (g : Fx w base m n k h rows caps D) {i : Nat} (him : i < m) : (∃ u, w.cell? ⟨h, i, none⟩ = some u) ∧ w.frozen? ⟨h, i, none⟩ = false := ⟨⟨_, (g.hdr.cellQ him).1⟩, (g.hdr.cellQ him).2⟩
theorem Fx.congr {D' : Nat → Nat → Int} (g : Fx w base m n k h rows caps D) (he : ∀ i j, i < k → j < n → D i j = D' i j) : Fx w base m n k h rows caps D' := ⟨g.hdr, fun i hi => by
  have := g.row i hi
  rw [ofF_congr (fun j hj => he i j hi hj)] at this
  exact this, g.inj, g.ne⟩
theorem Fx.keptS {S : Nat → Prop} (g : Fx w base m n k h rows caps D) (hk : Kept S w w') (h1 : ¬ S h) (h2 : ∀ i, i < k → ¬ S (rows i)) : Fx w' base m n k h rows caps D :=
  ⟨g.hdr.keptS hk (fun q hq => by
    have : h = q := by simpa [Value.ownBlock] using hq
    rw [← this]; exact h1), fun i hi => (g.row i hi).keptS hk (fun q hq => by
    have : rows i = q := by simpa [Value.ownBlock] using hq
    rw [← this]; exact h2 i hi), g.inj, g.ne⟩
def updR (D : Nat → Nat → Int) (i : Nat) (f : Nat → Int) : Nat → Nat → Int := fun a => if a = i then f else D a
/-- a row that has turned -/
theorem Fx.turn (g : Fx w base m n k h rows caps D) {i : Nat} (hi : i < k) {f : Nat → Int} (hk : Kept (fun b => b = rows i) w w') (ho : Own 1 iEnc w' base 3 (.slice (some ⟨rows i, 0, none⟩) n (caps i)) (ofF n f)) : Fx w' base m n k h rows caps (updR D i f) :=
  ⟨g.hdr.keptS hk (fun q hq e => by
    have : h = q := by simpa [Value.ownBlock] using hq
    exact g.ne i hi (by omega)), fun j hj => by
    by_cases e : j = i
    · subst e; unfold updR; rw [if_pos rfl]; exact ho
    · unfold updR; rw [if_neg e]
      exact (g.row j hj).keptS hk (fun q hq e2 => by
        have : rows j = q := by simpa [Value.ownBlock] using hq
        exact e (g.inj j i hj hi (by omega))), g.inj, g.ne⟩
/-- one more row, made since -/
theorem Fx.next (g : Fx w base m n k h rows caps D) (hkm : k < m) (hb : Below w.heap.size w w') {r c : Nat} {f : Nat → Int} (ho : Own 1 iEnc w' w.heap.size 3 (.slice (some ⟨r, 0, none⟩) n c) (ofF n f)) (hbase : base ≤ w.heap.size) :
    Fx (w'.setCell ⟨h, k, none⟩ (.slice (some ⟨r, 0, none⟩) n c)) base m n (k + 1) h (fun i => if i = k then r else rows i) (fun i => if i = k then c else caps i) (updR D k f) := by
  have g' := g.below hb
  have hr := ho.lt r rfl
  have hh := g.hlt
  have hk := grown_kept (grown_set w' h k (.slice (some ⟨r, 0, none⟩) n c))
  refine ⟨?_, fun i hi => ?_, fun i j hi hj e => ?_, fun i hi => ?_⟩
  · have h1 := g'.hdr.setQ hkm (some ⟨r, 0, none⟩, n, c)
    rw [ofF_congr (g := fun i => if i < k + 1 then ((some ⟨if i = k then r else rows i, 0, none⟩, n, if i = k then c else caps i) : Iw) else (none, 0, 0)) (fun i hi => by
      by_cases e : i = k
      · subst e; simp
      · by_cases e2 : i < k
        · simp only [if_neg e, if_pos e2, if_pos (show i < k + 1 by omega)]
        · simp only [if_neg e, if_neg e2, if_neg (show ¬ i < k + 1 by omega)])] at h1
    exact h1
  · by_cases e : i = k
    · subst e
      unfold updR
      simp only [if_true]
      exact (ho.mono hbase).keptS hk (fun q hq e2 => by
        have h1 : r = q := by simpa [Value.ownBlock] using hq
        have h2 : h = q := by simpa using e2
        omega)
    · unfold updR
      simp only [if_neg e]
      exact (g'.row i (by omega)).keptS hk (fun q hq e2 => by
        have h1 : rows i = q := by simpa [Value.ownBlock] using hq
        have h2 : h = q := by simpa using e2
        exact g.ne i (by omega) (by omega))
  · by_cases e1 : i = k <;> by_cases e2 : j = k
    · omega
    · simp only [if_pos e1, if_neg e2] at e; have := (g.rlt (show j < k by omega)).2; omega
    · simp only [if_neg e1, if_pos e2] at e; have := (g.rlt (show i < k by omega)).2; omega
    · simp only [if_neg e1, if_neg e2] at e; exact g.inj i j (by omega) (by omega) e
  · by_cases e1 : i = k
    · simp only [if_pos e1]; omega
    · simp only [if_neg e1]; exact g.ne i (by omega)
theorem Own.capOf {α : Type} {sz : Nat} {enc : α → List Value} {w : World} {base g n cap : Nat} {e : TypeId} {l : List α} (h : Own sz enc w base e (.slice (some ⟨g, 0, none⟩) n cap) l) (hn : 0 < l.length) : n ≤ cap ∧ cap ≤ 9223372036854775807 := by
  obtain ⟨g', cap', he, h1, h2, h3, h4, -⟩ := h.form hn
  injection he with e1 e2 e3
  omega
/-- the table read as a list of lists -/
def tabL (m n : Nat) (D : Nat → Nat → Int) : List (List Int) := ofF m (fun i => ofF n (D i))
theorem Fx.rd (g : Fx w base m n m h rows caps D) (hn : 0 < n) (hn2 : n ≤ 1000) (hm : m ≤ 1000) : RdII w w.heap.size (some ⟨h, 0, none⟩) m m (tabL m n D) := by
  refine ⟨ofF_len, Nat.le_refl _, ⟨by omega, by omega⟩, fun _ => ⟨h, 0, rfl, g.hlt.2, fun k hk => ?_⟩⟩
  have hk' : k < m := by have h1 := hk; unfold tabL at h1; rw [ofF_len] at h1; exact h1
  have hc := (g.row k hk').capOf (by rw [ofF_len]; exact hn)
  have hget : (tabL m n D)[k] = ofF n (D k) := (ofF_get_some (n := m) (f := fun i => ofF n (D i)) (List.getElem?_eq_getElem hk)).2
  obtain ⟨A, c, h1, h2⟩ := (g.row k hk').rd iSized (by rw [ofF_len]; omega)
  rw [ofF_len] at h1 h2
  injection h1 with e1 e2 e3
  subst e1 e3
  refine ⟨[.slice (some ⟨rows k, 0, none⟩) n (caps k)], ⟨some ⟨rows k, 0, none⟩, n, caps k, rfl, ?_⟩, rfl, fun j u hu => ?_⟩
  · rw [hget]
    exact h2
  · match j, hu with
    | 0, hu =>
      simp at hu
      subst hu
      have := g.head hk' hk'
      simpa using this
    | j + 1, hu => simp at hu
theorem tabL_at {i j : Nat} (hi : i < m) (hj : j < n) : tb (tabL m n D) i j = D i j := by
  unfold tb tabL
  rw [clAt_eq (ofF_get hi), gi_eq (ofF_get hj)]
theorem tabL_tab {M : Int} (hD : ∀ r k, r < m → k < n → 0 ≤ D r k ∧ D r k ≤ M) (hmn : 1 ≤ m ∧ m ≤ n ∧ n ≤ 40 ∧ m ≤ 20) (hM : 0 ≤ M ∧ M ≤ 68719476736) : Tab (tabL m n D) m n M where
  len := ofF_len
  row := fun r hr => by
    unfold tabL
    rw [clAt_eq (ofF_get hr), ofF_len]
  bd := fun r k hr hk => by rw [tabL_at hr hk]; exact hD r k hr hk
  mn := hmn
  hM := hM
end
end Go.Proofs.Ytmcamadcoglodaa
