/- Words for memory: rows and cells of numbers, truths and headers, all of the call's own and apart from each other. No condition. -/
import Derived.Test.YtmcamadcoglodaaGr
namespace Go.Proofs.Ytmcamadcoglodaa
open Go.RowKit
set_option linter.unusedVariables false

/-- a number, a truth or a header -/
abbrev Cv := Int ⊕ (Bool ⊕ Iw)
def cV : Cv → Value
  | .inl x => .int .i64 x
  | .inr (.inl b) => .bool b
  | .inr (.inr h) => .slice h.1 h.2.1 h.2.2
def cEnc : Cv → List Value := fun x => [cV x]
theorem cSized : Sized 1 cEnc := ⟨by omega, fun x => ⟨rfl, by
  intro u hu
  simp [cEnc] at hu
  subst hu
  rcases x with x | x | x <;> rfl⟩⟩
/-- N rows, apart from each other -/
structure HM (w : World) (base N : Nat) (blk len : Nat → Nat) (T : Nat → TypeId) (F : Nat → Nat → Cv) : Prop where
  own : ∀ a, a < N → Own 1 cEnc w base (T a) (.slice (some ⟨blk a, 0, none⟩) (len a) (len a)) (ofF (len a) (F a))
  inj : ∀ a b, a < N → b < N → blk a = blk b → a = b
section
variable {w w' : World} {base N : Nat} {blk len : Nat → Nat} {T : Nat → TypeId} {F : Nat → Nat → Cv}
theorem Own.cellC {w : World} {base : Nat} {e : TypeId} {g n cap : Nat} {f : Nat → Cv} (h : Own 1 cEnc w base e (.slice (some ⟨g, 0, none⟩) n cap) (ofF n f)) {i : Nat} (hi : i < n) : w.cell? ⟨g, i, none⟩ = some (cV (f i)) ∧ w.frozen? ⟨g, i, none⟩ = false := by
  unfold Own at h
  rw [ofF_len] at h
  refine ⟨?_, World.ownsRow.frozenAt h i⟩
  have h1 := World.ownsRow.cellAt h i (by omega)
  have h2 := flatMap_get cSized (ofF n f) i 0 (by omega)
  rw [ofF_get hi] at h2
  rw [show i * 1 + 0 = i by omega] at h2
  rw [h1, h2]
  rfl
theorem Own.setC {w : World} {base : Nat} {e : TypeId} {g n cap : Nat} {f : Nat → Cv} (h : Own 1 cEnc w base e (.slice (some ⟨g, 0, none⟩) n cap) (ofF n f)) {i : Nat} (hi : i < n) (x : Cv) :
    Own 1 cEnc (w.setCell ⟨g, i, none⟩ (cV x)) base e (.slice (some ⟨g, 0, none⟩) n cap) (ofF n (fun j => if j = i then x else f j)) := by
  have h1 := (Own.stored (k := i) (j := 0) (y := x) (u := cV x) cSized h ofF_len (ofF_get hi) (by omega) rfl).1
  rw [ofF_set] at h1
  simpa using h1
theorem HM.at_ (h : HM w base N blk len T F) {a k : Nat} (ha : a < N) (hk : k < len a) : w.cell? ⟨blk a, k, none⟩ = some (cV (F a k)) ∧ w.frozen? ⟨blk a, k, none⟩ = false := (h.own a ha).cellC hk
theorem HM.lt (h : HM w base N blk len T F) {a : Nat} (ha : a < N) : base ≤ blk a ∧ blk a < w.heap.size := (h.own a ha).lt _ rfl
theorem HM.ne (h : HM w base N blk len T F) {a b : Nat} (ha : a < N) (hb : b < N) (hab : a ≠ b) : blk a ≠ blk b := fun e => hab (h.inj a b ha hb e)
theorem HM.below (h : HM w base N blk len T F) (hb : Below w.heap.size w w') : HM w' base N blk len T F := ⟨fun a ha => (h.own a ha).below hb, h.inj⟩
theorem HM.drewN (h : HM w base N blk len T F) (q : Nat) : HM (w.drewN q) base N blk len T F := ⟨h.own, h.inj⟩
theorem HM.drew (h : HM w base N blk len T F) : HM w.drew base N blk len T F := ⟨h.own, h.inj⟩
theorem HM.alloc (h : HM w base N blk len T F) (o : Obj) : HM (w.alloc o) base N blk len T F := ⟨fun a ha => (h.own a ha).alloc o, h.inj⟩
theorem HM.fewer (h : HM w base N blk len T F) {M : Nat} (hM : M ≤ N) : HM w base M blk len T F := ⟨fun a ha => h.own a (by omega), fun a b ha hb => h.inj a b (by omega) (by omega)⟩
theorem HM.congr {F' : Nat → Nat → Cv} (h : HM w base N blk len T F) (he : ∀ a k, a < N → k < len a → F a k = F' a k) : HM w base N blk len T F' := ⟨fun a ha => by
  have := h.own a ha
  rw [ofF_congr (fun k hk => he a k ha hk)] at this
  exact this, h.inj⟩
theorem HM.turn {blk' len' : Nat → Nat} {T' : Nat → TypeId} {F' : Nat → Nat → Cv} (h : HM w base N blk len T F) (h1 : ∀ a, a < N → blk a = blk' a) (h2 : ∀ a, a < N → len a = len' a) (h3 : ∀ a, a < N → T a = T' a) (he : ∀ a k, a < N → k < len a → F a k = F' a k) : HM w base N blk' len' T' F' := ⟨fun a ha => by
  have := h.own a ha
  rw [ofF_congr (fun k hk => he a k ha hk), h1 a ha, h2 a ha, h3 a ha] at this
  exact this, fun a b ha hb e => h.inj a b ha hb (by rw [h1 a ha, h1 b hb]; exact e)⟩
/-- a store -/
theorem HM.set (h : HM w base N blk len T F) {a k : Nat} (ha : a < N) (hk : k < len a) (x : Cv) :
    HM (w.setCell ⟨blk a, k, none⟩ (cV x)) base N blk len T (fun b j => if b = a ∧ j = k then x else F b j) ∧ (∀ B w0, B ≤ base → Below B w0 w → Below B w0 (w.setCell ⟨blk a, k, none⟩ (cV x))) := by
  have hg := grown_kept (grown_set w (blk a) k (cV x))
  refine ⟨⟨fun b hb => ?_, h.inj⟩, fun B w0 hB hb => hb.setCell (by have := (h.lt ha).1; show B ≤ blk a; omega) _⟩
  by_cases e : b = a
  · subst e
    have h1 := (h.own b hb).setC hk x
    rw [ofF_congr (g := fun j => if b = b ∧ j = k then x else F b j) (fun j hj => by
      by_cases e : j = k
      · rw [if_pos e, if_pos ⟨rfl, e⟩]
      · rw [if_neg e, if_neg (fun q => e q.2)])] at h1
    exact h1
  · have h1 := (h.own b hb).keptS hg (fun q hq e2 => by
      have h1 : blk b = q := by simpa [Value.ownBlock] using hq
      have h2 : blk a = q := by simpa using e2
      exact h.ne hb ha e (by omega))
    rw [ofF_congr (g := fun j => if b = a ∧ j = k then x else F b j) (fun j hj => by rw [if_neg (fun q => e q.1)])] at h1
    exact h1
def upd {α : Type} (f : Nat → α) (a : Nat) (x : α) : Nat → α := fun b => if b = a then x else f b
theorem upd_same {α : Type} (f : Nat → α) (a : Nat) (x : α) : upd f a x a = x := by simp [upd]
theorem upd_other {α : Type} (f : Nat → α) {a b : Nat} (x : α) (h : b ≠ a) : upd f a x b = f b := by simp [upd, h]
/-- one more row -/
theorem HM.push (h : HM w base N blk len T F) {g l : Nat} {t : TypeId} {f : Nat → Cv} (ho : Own 1 cEnc w base t (.slice (some ⟨g, 0, none⟩) l l) (ofF l f)) (hg : ∀ a, a < N → blk a ≠ g) : HM w base (N + 1) (upd blk N g) (upd len N l) (upd T N t) (upd F N f) := by
  refine ⟨fun a ha => ?_, fun a b ha hb e => ?_⟩
  · by_cases e : a = N
    · subst e; simp only [upd_same]; exact ho
    · simp only [upd_other _ _ e]; exact h.own a (by omega)
  · by_cases e1 : a = N <;> by_cases e2 : b = N
    · omega
    · subst e1; rw [upd_same, upd_other _ _ e2] at e; exact absurd e.symm (hg b (by omega))
    · subst e2; rw [upd_same, upd_other _ _ e1] at e; exact absurd e (hg a (by omega))
    · rw [upd_other _ _ e1, upd_other _ _ e2] at e; exact h.inj a b (by omega) (by omega) e
theorem HM.empty (w : World) (base : Nat) (blk len : Nat → Nat) (T : Nat → TypeId) (F : Nat → Nat → Cv) : HM w base 0 blk len T F := ⟨fun a ha => absurd ha (by omega), fun a b ha => absurd ha (by omega)⟩
end
/-- a row that was made, and one cell -/
theorem Own.madeC {w : World} {base n H : Nat} {e : TypeId} {cs : Array Value} (x : Cv) (hH : w.heap.size = H) (hcs : cs = (List.replicate n (cV x)).toArray) (hb : base ≤ w.heap.size) (hm : n ≤ 140737488351232) :
    Own 1 cEnc (w.alloc (.cells cs e)) base e (.slice (some ⟨H, 0, none⟩) n n) (ofF n (fun _ => x)) := by
  subst hH
  subst hcs
  rw [← ofF_rep]
  refine Own.lit cSized hb (List.replicate n x) _ ?_ (by simp) hm
  congr 1
  induction n with
  | zero => rfl
  | succ n ih => rw [List.replicate_succ, List.replicate_succ, List.flatMap_cons, ← ih (by omega)]; rfl
theorem Own.one {w : World} {base H : Nat} {e : TypeId} {cs : Array Value} (x : Cv) (hH : w.heap.size = H) (hcs : cs = #[cV x]) (hb : base ≤ w.heap.size) :
    Own 1 cEnc (w.alloc (.cells cs e)) base e (.slice (some ⟨H, 0, none⟩) 1 1) (ofF 1 (fun _ => x)) := Own.madeC x hH (by rw [hcs]; rfl) hb (by omega)
/-- ints are such rows -/
theorem ofF_flat {α β : Type} {enc : α → List Value} {enc' : β → List Value} {n : Nat} {f : Nat → α} {g : Nat → β} (h : ∀ i, i < n → enc (f i) = enc' (g i)) : (ofF n f).flatMap enc = (ofF n g).flatMap enc' := by
  induction n with
  | zero => rfl
  | succ n ih => rw [ofF_succ, ofF_succ, List.flatMap_append, List.flatMap_append, ih (fun i hi => h i (by omega)), List.flatMap_cons, List.flatMap_cons, h n (by omega)]; rfl
theorem Own.like {α β : Type} {enc : α → List Value} {enc' : β → List Value} {w : World} {base n : Nat} {e : TypeId} {v : Value} {f : Nat → α} {g : Nat → β} (ho : Own 1 enc w base e v (ofF n f)) (h : ∀ i, i < n → enc (f i) = enc' (g i)) : Own 1 enc' w base e v (ofF n g) := by
  unfold Own at ho ⊢
  rw [ofF_len] at ho ⊢
  rw [← ofF_flat h]
  exact ho
theorem HM.ints {w : World} {base N : Nat} {blk len : Nat → Nat} {T : Nat → TypeId} {F : Nat → Nat → Cv} (h : HM w base N blk len T F) {a : Nat} (ha : a < N) (f : Nat → Int) (hf : ∀ k, F a k = .inl (f k)) : Own 1 iEnc w base (T a) (.slice (some ⟨blk a, 0, none⟩) (len a) (len a)) (ofF (len a) f) :=
  (h.own a ha).like fun i hi => by rw [hf]; rfl
end Go.Proofs.Ytmcamadcoglodaa
