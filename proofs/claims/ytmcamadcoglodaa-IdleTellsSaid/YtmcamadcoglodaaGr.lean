/- Words for memory: a grid of ints that the call itself made, row by row. No condition. -/
import Derived.Test.YtmcamadcoglodaaIa
import Derived.Test.YtmcamadcoglodaaIm
namespace Go.Proofs.Ytmcamadcoglodaa
open Go.RowKit
set_option linter.unusedVariables false

abbrev Iw := Option Addr × Nat × Nat
def qEnc : Iw → List Value := fun x => [.slice x.1 x.2.1 x.2.2]
theorem qSized : Sized 1 qEnc := ⟨by omega, fun x => ⟨rfl, by intro u hu; simp [qEnc] at hu; subst hu; rfl⟩⟩
/-- the first m rows of a grid of n times n -/
structure Grid (w : World) (base n m h : Nat) (rows : Nat → Nat) (D : Nat → Nat → Int) : Prop where
  hdr : Own 1 qEnc w base 23 (.slice (some ⟨h, 0, none⟩) n n) (ofF n (fun i => if i < m then ((some ⟨rows i, 0, none⟩, n, n) : Iw) else (none, 0, 0)))
  row : ∀ i, i < m → Own 1 iEnc w base 3 (.slice (some ⟨rows i, 0, none⟩) n n) (ofF n (D i))
  inj : ∀ i j, i < m → j < m → rows i = rows j → i = j
  ne : ∀ i, i < m → rows i ≠ h
section
variable {w w' : World} {base n m h : Nat} {rows : Nat → Nat} {D : Nat → Nat → Int}
theorem Own.cellQ {w : World} {base : Nat} {e : TypeId} {g n cap : Nat} {f : Nat → Iw} (h : Own 1 qEnc w base e (.slice (some ⟨g, 0, none⟩) n cap) (ofF n f)) {i : Nat} (hi : i < n) : w.cell? ⟨g, i, none⟩ = some (.slice (f i).1 (f i).2.1 (f i).2.2) ∧ w.frozen? ⟨g, i, none⟩ = false := by
  unfold Own at h
  rw [ofF_len] at h
  refine ⟨?_, World.ownsRow.frozenAt h i⟩
  have h1 := World.ownsRow.cellAt h i (by omega)
  have h2 := flatMap_get qSized (ofF n f) i 0 (by omega)
  rw [ofF_get hi] at h2
  rw [show i * 1 + 0 = i by omega] at h2
  rw [h1, h2]
  rfl
theorem Own.setQ {w : World} {base : Nat} {e : TypeId} {g n cap : Nat} {f : Nat → Iw} (h : Own 1 qEnc w base e (.slice (some ⟨g, 0, none⟩) n cap) (ofF n f)) {i : Nat} (hi : i < n) (x : Iw) :
    Own 1 qEnc (w.setCell ⟨g, i, none⟩ (.slice x.1 x.2.1 x.2.2)) base e (.slice (some ⟨g, 0, none⟩) n cap) (ofF n (fun j => if j = i then x else f j)) := by
  have h1 := (Own.stored (k := i) (j := 0) (y := x) (u := .slice x.1 x.2.1 x.2.2) qSized h ofF_len (ofF_get hi) (by omega) rfl).1
  rw [ofF_set] at h1
  simpa using h1
theorem Grid.head (g : Grid w base n m h rows D) {i : Nat} (hi : i < m) (hin : i < n) : w.cell? ⟨h, i, none⟩ = some (.slice (some ⟨rows i, 0, none⟩) n n) := by
  have h1 := (g.hdr.cellQ hin).1
  rw [if_pos hi] at h1
  exact h1
theorem Grid.at_ (g : Grid w base n m h rows D) {i k : Nat} (hi : i < m) (hk : k < n) : w.cell? ⟨rows i, k, none⟩ = some (.int .i64 (D i k)) ∧ w.frozen? ⟨rows i, k, none⟩ = false := (g.row i hi).cellI hk
theorem Grid.below (g : Grid w base n m h rows D) (hb : Below w.heap.size w w') : Grid w' base n m h rows D := ⟨g.hdr.below hb, fun i hi => (g.row i hi).below hb, g.inj, g.ne⟩
theorem Grid.drewN (g : Grid w base n m h rows D) (q : Nat) : Grid (w.drewN q) base n m h rows D := ⟨g.hdr, g.row, g.inj, g.ne⟩
theorem Grid.drew (g : Grid w base n m h rows D) : Grid w.drew base n m h rows D := ⟨g.hdr, g.row, g.inj, g.ne⟩
theorem Grid.mono {base' : Nat} (g : Grid w base n m h rows D) (hb : base' ≤ base) : Grid w base' n m h rows D := ⟨g.hdr.mono hb, fun i hi => (g.row i hi).mono hb, g.inj, g.ne⟩
theorem Grid.hlt (g : Grid w base n m h rows D) : base ≤ h ∧ h < w.heap.size := g.hdr.lt h rfl
theorem Grid.rlt (g : Grid w base n m h rows D) {i : Nat} (hi : i < m) : base ≤ rows i ∧ rows i < w.heap.size := (g.row i hi).lt _ rfl
theorem Grid.congr {D' : Nat → Nat → Int} (g : Grid w base n m h rows D) (he : ∀ i k, i < m → k < n → D i k = D' i k) : Grid w base n m h rows D' := ⟨g.hdr, fun i hi => by
  have := g.row i hi
  rw [ofF_congr (fun k hk => he i k hi hk)] at this
  exact this, g.inj, g.ne⟩
/-- a store into a row -/
theorem Grid.set (g : Grid w base n m h rows D) {i k : Nat} (hi : i < m) (hk : k < n) (x : Int) : Grid (w.setCell ⟨rows i, k, none⟩ (.int .i64 x)) base n m h rows (fs D i k x) ∧ (∀ B w0, B ≤ base → Below B w0 w → Below B w0 (w.setCell ⟨rows i, k, none⟩ (.int .i64 x))) := by
  have hg := grown_kept (grown_set w (rows i) k (.int .i64 x))
  refine ⟨⟨g.hdr.keptS hg (fun q hq e => ?_), fun j hj => ?_, g.inj, g.ne⟩, fun B w0 hB hb => hb.setCell (by have := (g.rlt hi).1; show B ≤ rows i; omega) _⟩
  · have h1 : h = q := by simpa [Value.ownBlock] using hq
    have h2 : rows i = q := by simpa using e
    exact g.ne i hi (by omega)
  · by_cases e : j = i
    · subst e
      have h1 := (g.row j hj).setI hk x
      rw [ofF_congr (g := fs D j k x j) (fun a ha => by
        by_cases e : a = k
        · subst e; rw [if_pos rfl, fs_same]
        · rw [if_neg e, fs_other _ _ _ _ (fun q => e q.2)])] at h1
      exact h1
    · have h1 := (g.row j hj).keptS hg (fun q hq e2 => by
        have h1 : rows j = q := by simpa [Value.ownBlock] using hq
        have h2 : rows i = q := by simpa using e2
        exact e (g.inj j i hj hi (by omega)))
      rw [ofF_congr (g := fs D i k x j) (fun a ha => by rw [fs_other _ _ _ _ (fun q => e q.1)])] at h1
      exact h1
/-- one more row -/
theorem Grid.next (g : Grid w base n m h rows D) (hm : m < n) (hn : n ≤ 140737488351232) : Grid ((w.setCell ⟨h, m, none⟩ (.slice (some ⟨w.heap.size, 0, none⟩) n n)).alloc (.cells (madeCells #[.int .i64 0] n) 3)) base n (m + 1) h (fun i => if i = m then w.heap.size else rows i) (fun i => if i = m then (fun _ => 0) else D i) := by
  have hg := (grown_kept (grown_set w h m (.slice (some ⟨w.heap.size, 0, none⟩) n n))).alloc (.cells (madeCells #[.int .i64 0] n) 3)
  have hsz : (w.setCell ⟨h, m, none⟩ (.slice (some ⟨w.heap.size, 0, none⟩) n n)).heap.size = w.heap.size := by simp [World.setCell]
  have hh := g.hlt
  refine ⟨?_, fun i hi => ?_, fun i j hi hj e => ?_, fun i hi => ?_⟩
  · have h1 := (g.hdr.setQ hm (some ⟨w.heap.size, 0, none⟩, n, n)).alloc (.cells (madeCells #[.int .i64 0] n) 3)
    rw [ofF_congr (g := fun i => if i < m + 1 then ((some ⟨if i = m then w.heap.size else rows i, 0, none⟩, n, n) : Iw) else (none, 0, 0)) (fun i hi => by
      by_cases e : i = m
      · subst e; simp
      · by_cases e2 : i < m
        · simp only [if_neg e, if_pos e2, if_pos (show i < m + 1 by omega)]
        · simp only [if_neg e, if_neg e2, if_neg (show ¬ i < m + 1 by omega)])] at h1
    exact h1
  · by_cases e : i = m
    · simp only [if_pos e]
      exact Own.made hsz (by rw [Nat.mul_one]; rfl) (by omega) hn
    · simp only [if_neg e]
      exact (g.row i (by omega)).keptS hg (fun q hq e2 => by
        have h1 : rows i = q := by simpa [Value.ownBlock] using hq
        have h2 : h = q := by simpa using e2
        exact g.ne i (by omega) (by omega))
  · by_cases e1 : i = m <;> by_cases e2 : j = m
    · omega
    · simp only [if_pos e1, if_neg e2] at e; have := (g.rlt (show j < m by omega)).2; omega
    · simp only [if_neg e1, if_pos e2] at e; have := (g.rlt (show i < m by omega)).2; omega
    · simp only [if_neg e1, if_neg e2] at e; exact g.inj i j (by omega) (by omega) e
  · by_cases e1 : i = m
    · simp only [if_pos e1]; omega
    · simp only [if_neg e1]; exact g.ne i (by omega)
end
/-- what a make of headers leaves -/
theorem Own.madeQ {w : World} {base n H : Nat} {e : TypeId} {cs : Array Value} (hH : w.heap.size = H) (hcs : cs = madeCells #[Value.slice none 0 0] n) (hb : base ≤ w.heap.size) (hm : n ≤ 140737488351232) :
    Own 1 qEnc (w.alloc (.cells cs e)) base e (.slice (some ⟨H, 0, none⟩) n n) (ofF n (fun _ => ((none, 0, 0) : Iw))) := by
  subst hH
  subst hcs
  rw [← ofF_rep]
  refine Own.lit qSized hb (List.replicate n ((none, 0, 0) : Iw)) _ ?_ (by simp) hm
  have := madeCells_rep qSized ((none, 0, 0) : Iw) (.slice none 0 0) rfl n
  rw [← this, Nat.mul_one]
  rfl
end Go.Proofs.Ytmcamadcoglodaa
