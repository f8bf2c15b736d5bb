/- Walks over package pool: the two closures that keep a window. Conditions stand in each theorem. -/
import Derived.Test.YthhmdljfklbbeaaP2
import Derived.StillTailTactics
import Derived.Outline
namespace Go.Proofs.Ythhmdljfklbbeaa
open Go.RowKit
set_option linter.unusedVariables false

theorem int_info : (Try.prog.info? 3).map (fun i => (i.zero, i.size, i.bytes)) = some (some (.int .i64 0), 1, 8) := by kernel_rfl
theorem info_parts {o : Option TypeInfo} {z : Value} {s b : Nat} (h : o.map (fun i => (i.zero, i.size, i.bytes)) = some (some z, s, b)) : ∃ i, o = some i ∧ i.zero = some z ∧ i.size = s ∧ i.bytes = b := by
  cases o with
  | none => cases h
  | some i => simp at h; exact ⟨i, rfl, h.1, h.2.1, h.2.2⟩
/-- the window's state behind block H: the pool at H, the sums at H + 1, the window's sum at H + 2 -/
structure Win (w : World) (H : Nat) (p : Pl) (v : Value) (i : Nat) (s : Nat → Int) (win : Int) : Prop where
  cw : w.cell? ⟨H, 4, none⟩ = some (.int .i64 p.wi)
  ct : w.cell? ⟨H, 5, none⟩ = some (.int .i64 p.to)
  cs : w.cell? ⟨H + 1, 0, none⟩ = some v
  fs : w.frozen? ⟨H + 1, 0, none⟩ = false
  cn : w.cell? ⟨H + 2, 0, none⟩ = some (.int .i64 win)
  fn : w.frozen? ⟨H + 2, 0, none⟩ = false
  own : Own 1 iEnc w (H + 3) 3 v (ofF i s)
  lt : H + 2 < w.heap.size
theorem Win.keptS {S : Nat → Prop} {w w' : World} {H : Nat} {p : Pl} {v : Value} {i : Nat} {s : Nat → Int} {win : Int} (h : Win w H p v i s win) (hk : Kept S w w') (h0 : ¬ S H) (h1 : ¬ S (H + 1)) (h2 : ¬ S (H + 2)) (hv : ∀ g, v.ownBlock = some g → ¬ S g) : Win w' H p v i s win := by
  have hlt := h.lt
  refine ⟨(hk.cell (p := ⟨H, 4, none⟩) (by show H < _; omega) h0).trans h.cw, (hk.cell (p := ⟨H, 5, none⟩) (by show H < _; omega) h0).trans h.ct, (hk.cell (p := ⟨H + 1, 0, none⟩) (by show H + 1 < _; omega) h1).trans h.cs, (hk.frozen (p := ⟨H + 1, 0, none⟩) (by show H + 1 < _; omega) h1).trans h.fs, (hk.cell (p := ⟨H + 2, 0, none⟩) (by show H + 2 < _; omega) h2).trans h.cn, (hk.frozen (p := ⟨H + 2, 0, none⟩) (by show H + 2 < _; omega) h2).trans h.fn, h.own.keptS hk hv, Nat.lt_of_lt_of_le hlt hk.size⟩
theorem Win.below {w w' : World} {H : Nat} {p : Pl} {v : Value} {i : Nat} {s : Nat → Int} {win : Int} (h : Win w H p v i s win) (hb : Below w.heap.size w w') : Win w' H p v i s win :=
  h.keptS (below_keptAll hb) (fun h => h) (fun h => h) (fun h => h) (fun _ _ h => h)

theorem new_cell {w : World} {cs : Array Value} {T : TypeId} {H j : Nat} {u : Value} (hH : w.heap.size = H) (hu : cs[j]? = some u) : (w.alloc (.cells cs T)).cell? ⟨H, j, none⟩ = some u := by
  subst hH; simp [hu]
theorem new_frozen {w : World} {cs : Array Value} {T : TypeId} {H j : Nat} (hH : w.heap.size = H) : (w.alloc (.cells cs T)).frozen? ⟨H, j, none⟩ = false := by
  subst hH; simp
theorem old_cell {w : World} {o : Obj} {H j : Nat} {u : Value} (hH : H < w.heap.size) (h : w.cell? ⟨H, j, none⟩ = some u) : (w.alloc o).cell? ⟨H, j, none⟩ = some u := (World.cell?_alloc_lt _ _ _ hH).trans h
theorem old_frozen {w : World} {o : Obj} {H j : Nat} (hH : H < w.heap.size) (h : w.frozen? ⟨H, j, none⟩ = false) : (w.alloc o).frozen? ⟨H, j, none⟩ = false := (World.frozen?_alloc_old _ _ _ (by show H ≠ _; omega)).trans h
theorem rest_any (p : Pl) (w : World) : Calls Try.prog 32 #[plV p] w fun e w' =>
    e = .returned (.tuple #[.func (.func 36) #[] #[.pointer (some ⟨w.heap.size + 1, 0, none⟩), .pointer (some ⟨w.heap.size, 0, none⟩), .pointer (some ⟨w.heap.size + 2, 0, none⟩)], .func (.func 37) #[] #[.pointer (some ⟨w.heap.size + 1, 0, none⟩), .pointer (some ⟨w.heap.size + 2, 0, none⟩)]]) ∧
    Win w' w.heap.size p (.slice none 0 0) 0 (fun _ => 0) 0 ∧ Below w.heap.size w w' := by
  obtain ⟨mo, pr, ms, co, wi, to⟩ := p
  simp only [plV, plC]
  go_enter Try.func32, Try.ntmps32
  go_wp2
  go_ret2
  refine ⟨rfl, ⟨old_cell (by simp <;> omega) (old_cell (by simp) (new_cell rfl rfl)), old_cell (by simp <;> omega) (old_cell (by simp) (new_cell rfl rfl)), old_cell (by simp) (new_cell (by simp) rfl), old_frozen (by simp) (new_frozen (by simp)), new_cell (by simp) rfl, new_frozen (by simp), Own.nil, by simp⟩, ?_⟩
  exact (((Below.refl w.heap.size w).alloc (Nat.le_refl _) _).alloc (by simp) _).alloc (by simp <;> omega) _

/-- what the window's sum is when a new period begins -/
def winN (p : Pl) (i : Nat) (s : Nat → Int) (win : Int) : Int := if p.wi ≤ i then win - s (i - p.wi.toNat) else win
def LeftPost (w : World) (H : Nat) (p : Pl) (v : Value) (i : Nat) (s : Nat → Int) (win : Int) (e : Ending) (w' : World) : Prop :=
  e = .returned (.int .i64 (p.to - winN p i s win)) ∧ Win w' H p v i s (winN p i s win) ∧ Kept (fun b => b = H + 2) w w'
theorem left_any (H : Nat) (p : Pl) (v : Value) (i : Nat) (s : Nat → Int) (win : Int) (w : World) (hw : Win w H p v i s win) (h1 : 1 ≤ p.wi ∧ p.wi ≤ 1000) (h2 : 0 ≤ p.to ∧ p.to ≤ 1000000000000000) (hi : i ≤ 1000) (hs : ∀ j, j < i → 0 ≤ s j ∧ s j ≤ 1000000000000000) (hwin : 0 ≤ win ∧ win ≤ 1000000000000000) :
  Calls Try.prog 36 #[.pointer (some ⟨H + 1, 0, none⟩), .pointer (some ⟨H, 0, none⟩), .pointer (some ⟨H + 2, 0, none⟩)] w (LeftPost w H p v i s win) := by
  obtain ⟨mo, pr, ms, co, wi, to⟩ := p
  simp only at h1 h2
  obtain ⟨h11, h12⟩ := h1
  obtain ⟨h21, h22⟩ := h2
  obtain ⟨w1, w2⟩ := hwin
  obtain ⟨A, cap, rfl, rd⟩ := hw.own.rd iSized (by rw [ofF_len]; omega)
  rw [ofF_len] at rd hw ⊢
  have hcaps := rd.caps
  have hlt := hw.lt
  obtain ⟨cw, ct, cs, fs, cn, fn, own, -⟩ := hw
  simp only at cw ct
  obtain ⟨W, rfl⟩ := Int.eq_ofNat_of_zero_le (show 0 ≤ wi by omega)
  by_cases hWi : W ≤ i
  · obtain ⟨b, off, x, rfl, hbB, hx, c0⟩ := rd.atI (k := i - W) (by omega)
    obtain ⟨-, ex⟩ := ofF_get_some hx
    obtain ⟨x1, x2⟩ := hs (i - W) (by omega)
    rw [← ex] at x1 x2
    have Ex := Lib.hid ex
    have hge : (W : Int) ≤ (i : Int) := by omega
    have hsub : IntKind.i64.wrap ((i : Int) - (W : Int)) = ((i - W : Nat) : Int) := by rw [IntWalk.i64_in _ (by omega)]; omega
    have hi1 : ((i - W : Nat) : Int) < (i : Int) := by omega
    have hi0 : (0 : Int) ≤ ((i - W : Nat) : Int) := by omega
    have htn : ((i - W : Nat) : Int).toNat = i - W := by omega
    have hws : IntKind.i64.wrap (win - x) = win - x := IntWalk.i64_in _ (by omega)
    clear hs hx ex rd
    go_enter Try.func36, Try.ntmps36
    go_wp2_with fail
    go_still_tail 10, (by kernel_rfl)
    change wpList _ _ _ _ _ w.drew
    go_wp2
    go_ret
    have hwn : winN ⟨mo, pr, ms, co, (W : Int), to⟩ i s win = win - x := by unfold winN; simp only [Int.toNat_natCast]; rw [if_pos hge, ← Ex.out]
    have hk : Kept (fun b => b = H + 2) w (w.setCell ⟨H + 2, 0, none⟩ (.int .i64 (win - x))).drew := ((Kept.refl (fun b => b = H + 2) w).setCell _ (Or.inl rfl)).drew
    refine ⟨by rw [hwn]; rfl, ?_, hk⟩
    rw [hwn]
    have hown : ∀ g, (Value.slice (some ⟨b, off, none⟩) i cap).ownBlock = some g → ¬ g = H + 2 := fun g hg => by have := (own.lt g hg).1; omega
    refine ⟨(hk.cell (p := ⟨H, 4, none⟩) (by show H < _; omega) (by show ¬ H = _; omega)).trans cw, (hk.cell (p := ⟨H, 5, none⟩) (by show H < _; omega) (by show ¬ H = _; omega)).trans ct, (hk.cell (p := ⟨H + 1, 0, none⟩) (by show H + 1 < _; omega) (by show ¬ H + 1 = _; omega)).trans cs, (hk.frozen (p := ⟨H + 1, 0, none⟩) (by show H + 1 < _; omega) (by show ¬ H + 1 = _; omega)).trans fs, World.cell?_setCell_same w ⟨H + 2, 0, none⟩ _ cn, ?_, own.keptS hk hown, Nat.lt_of_lt_of_le hlt hk.size⟩
    exact (World.frozen?_setCell _ _ _ _).trans fn
  · have hge : ¬ (W : Int) ≤ (i : Int) := by omega
    have hwn : winN ⟨mo, pr, ms, co, (W : Int), to⟩ i s win = win := by unfold winN; rw [if_neg hge]
    have hd : decide ((W : Int) ≤ (i : Int)) = false := by simp; omega
    have Hwn := Lib.hid hwn
    clear hs rd hwn
    go_enter Try.func36, Try.ntmps36
    go_wp2
    go_ret
    exact ⟨by rw [Hwn.out]; rfl, by rw [Hwn.out]; exact ⟨cw, ct, cs, fs, cn, fn, own, hlt⟩, Kept.refl _ _⟩
end Go.Proofs.Ythhmdljfklbbeaa
