/- Laws and walks laid together; the conditions stand in each theorem. -/
import Derived.Deep.CutRange
import Derived.Test.YtdlcglndhhndpaaT06
import Derived.Test.YtdlcglndhhndpaaT04
set_option linter.unusedSimpArgs false
set_option linter.unusedVariables false
namespace Go.Proofs.Ytdlcglndhhndpaa
open Go.RowKit
def cmpQ (x y : Rat) : Int := if x < y then -1 else if y < x then 1 else 0
theorem cmpQ_num (x y : Rat) : cmpQ x y = cmpI (x.num * y.den) (y.num * x.den) := by
  unfold cmpQ cmpI
  simp only [Rat.lt_iff]
theorem cmpI_neg (x y : Int) : cmpI y x = - cmpI x y := by
  unfold cmpI
  by_cases h1 : x < y
  · rw [if_neg (by omega), if_pos h1, if_pos h1]; rfl
  · by_cases h2 : y < x
    · rw [if_pos h2, if_neg h1, if_pos h2]
    · rw [if_neg h2, if_neg h1, if_neg h1, if_neg h2]; rfl
theorem cmpI_zero {x y : Int} : cmpI x y = 0 ↔ x = y := by
  unfold cmpI
  split
  · omega
  · split <;> omega
def CmpI (C sg p q r s : Int) : Prop := 0 < q ∧ 0 < s ∧ (sg = 1 ∨ sg = -1) ∧ sg * cmpI (p * s) (r * q) = C
theorem CmpI.start (x y : Rat) : CmpI (cmpQ x y) 1 x.num x.den y.num y.den := ⟨den_pos x, den_pos y, Or.inl rfl, by rw [cmpQ_num, Int.one_mul]⟩
theorem CmpI.rests {C sg p q r s : Int} (h : CmpI C sg p q r s) (hc : cmpI (fq p q) (fq r s) = 0) : sg * cmpI (fr p q * s) (fr r s * q) = C ∧ (0 ≤ fr p q ∧ fr p q < q) ∧ (0 ≤ fr r s ∧ fr r s < s) := by
  obtain ⟨hq, hs, -, rfl⟩ := h
  have e1 := fr_def p q
  have e2 := fr_def r s
  have b1 := (fr_bounds (x := p) (y := q) (by omega)).resolve_right (by omega)
  have b2 := (fr_bounds (x := r) (y := s) (by omega)).resolve_right (by omega)
  refine ⟨?_, b1.2, b2.2⟩
  congr 1
  have hxy := cmpI_zero.1 hc
  rw [← hxy] at e2
  generalize fq p q = x at *
  generalize fr p q = u at *
  generalize fr r s = v at *
  have e3 : p * s = q * s * x + u * s := by rw [← e1]; grind
  have e4 : r * q = q * s * x + v * q := by rw [← e2]; grind
  rw [e3, e4]
  unfold cmpI
  have h1 : q * s * x + u * s < q * s * x + v * q ↔ u * s < v * q := by omega
  have h2 : q * s * x + v * q < q * s * x + u * s ↔ v * q < u * s := by omega
  simp only [h1, h2]
theorem CmpI.stop {C sg p q r s : Int} (h : CmpI C sg p q r s) (hc : cmpI (fq p q) (fq r s) = 0) (h0 : fr p q = 0 ∨ fr r s = 0) : sg * (sgI (fr p q) - sgI (fr r s)) = C := by
  obtain ⟨h1, h2, h3⟩ := h.rests hc
  obtain ⟨hq, hs, -, -⟩ := h
  rw [← h1]
  congr 1
  generalize fr p q = u at *
  generalize fr r s = v at *
  rcases h0 with rfl | rfl
  · by_cases hv : v = 0
    · subst hv; simp [sgI, cmpI]
    · have hp : 0 < v * q := Int.mul_pos (by omega) hq
      rw [Int.zero_mul, cmpI_lt hp]
      unfold sgI
      rw [if_neg (by omega), if_pos rfl, if_neg (by omega), if_neg hv]
      omega
  · by_cases hu : u = 0
    · subst hu; simp [sgI, cmpI]
    · have hp : 0 < u * s := Int.mul_pos (by omega) hs
      rw [Int.zero_mul, cmpI_gt hp]
      unfold sgI
      rw [if_neg (by omega), if_neg hu, if_neg (by omega), if_pos rfl]
      omega
theorem CmpI.step {C sg p q r s : Int} (h : CmpI C sg p q r s) (hc : cmpI (fq p q) (fq r s) = 0) (hu : fr p q ≠ 0) (hv : fr r s ≠ 0) : CmpI C (-sg) q (fr p q) s (fr r s) := by
  obtain ⟨h1, h2, h3⟩ := h.rests hc
  obtain ⟨hq, hs, hsg, -⟩ := h
  refine ⟨by omega, by omega, by omega, ?_⟩
  rw [← h1, Int.mul_comm q, Int.mul_comm s, cmpI_neg (fr p q * s) (fr r s * q), Int.neg_mul_neg]
end Go.Proofs.Ytdlcglndhhndpaa
namespace Go.Proofs.Ytdlcglndhhndpaa
open Go.RowKit
def NB (H b0 b1 : Nat) (cs0 cs1 : Array Value) (T : TypeId) (W : World) : Prop := (b0 < H ∧ b1 < H ∧ H ≤ W.heap.size) ∧ (Hb W b0 cs0 T ∧ Hb W b1 cs1 T) ∧ ∀ g, H ≤ g → g < W.heap.size → ∃ cs T, cs.size = 2 ∧ Hb W g cs T
section
variable {H b0 b1 : Nat} {cs0 cs1 : Array Value} {T : TypeId} {W : World}
theorem alloc_size (W : World) (o : Obj) : (W.alloc o).heap.size = W.heap.size + 1 := by simp
theorem NB.alloc (h : NB H b0 b1 cs0 cs1 T W) (u v : Value) (t : TypeId) : NB H b0 b1 cs0 cs1 T (W.alloc (.cells #[u, v] t)) := by
  obtain ⟨⟨h1, h2, h3⟩, ⟨h4, h5⟩, h6⟩ := h
  have hb := (Below.refl W.heap.size W).alloc (Nat.le_refl _) (.cells #[u, v] t)
  refine ⟨⟨h1, h2, Nat.le_trans h3 hb.size⟩, ⟨h4.of (hb.block _ h4.lt), h5.of (hb.block _ h5.lt)⟩, fun g hg1 hg2 => ?_⟩
  rw [alloc_size] at hg2
  by_cases e : g = W.heap.size
  · subst e; exact ⟨_, _, rfl, Hb.new W _ t⟩
  · obtain ⟨cs, T', h7, h8⟩ := h6 g hg1 (by omega)
    exact ⟨cs, T', h7, h8.of (hb.block _ h8.lt)⟩
theorem NB.drew (h : NB H b0 b1 cs0 cs1 T W) : NB H b0 b1 cs0 cs1 T W.drew := h
theorem NB.set (h : NB H b0 b1 cs0 cs1 T W) {g j : Nat} {v : Value} (hg : H ≤ g) : NB H b0 b1 cs0 cs1 T (W.setCell ⟨g, j, none⟩ v) := by
  obtain ⟨⟨h1, h2, h3⟩, ⟨h4, h5⟩, h6⟩ := h
  obtain ⟨-, -, -, o4, o5⟩ := OnlyB.set W g j v
  refine ⟨⟨h1, h2, by omega⟩, ⟨h4.of (o5 _ (by omega)), h5.of (o5 _ (by omega))⟩, fun q hq1 hq2 => ?_⟩
  obtain ⟨cs, T', h7, h8⟩ := h6 q hq1 (by omega)
  by_cases e : q = g
  · subst e; exact ⟨_, T', by simpa using h7, h8.set v⟩
  · exact ⟨cs, T', h7, h8.of (o5 _ e)⟩
theorem NB.cellD (h : NB H b0 b1 cs0 cs1 T W) : (∀ g, H ≤ g → g < W.heap.size → W.cell? ⟨g, 0, none⟩ = some (Go.Proofs.Ytdlcglndhhndpaa.cellD W ⟨g, 0, none⟩)) ∧ (∀ g, H ≤ g → g < W.heap.size → W.cell? ⟨g, 1, none⟩ = some (Go.Proofs.Ytdlcglndhhndpaa.cellD W ⟨g, 1, none⟩)) ∧ ∀ g j, H ≤ g → g < W.heap.size → W.frozen? ⟨g, j, none⟩ = false := by
  refine ⟨fun g h1 h2 => ?_, fun g h1 h2 => ?_, fun g j h1 h2 => ?_⟩
  · obtain ⟨cs, T', h7, h8⟩ := h.2.2 g h1 h2
    exact cellD_iff.2 (by rw [h8.cell (Array.getElem?_eq_getElem (show 0 < cs.size by omega))]; rfl)
  · obtain ⟨cs, T', h7, h8⟩ := h.2.2 g h1 h2
    exact cellD_iff.2 (by rw [h8.cell (Array.getElem?_eq_getElem (show 1 < cs.size by omega))]; rfl)
  · obtain ⟨cs, T', h7, h8⟩ := h.2.2 g h1 h2
    exact h8.thaw
end
end Go.Proofs.Ytdlcglndhhndpaa
namespace Go.Proofs.Ytdlcglndhhndpaa
open Go.RowKit
theorem divInt_1 (a : Int) : Rat.divInt a 1 = (a : Rat) := by
  have h := rat_parts (a : Rat)
  rw [Rat.num_intCast, Rat.den_intCast] at h
  exact h
end Go.Proofs.Ytdlcglndhhndpaa
namespace Go.Proofs.Ytdlcglndhhndpaa
open Go.RowKit
structure Fv where
  s : Int
  l : List Int
  t : Int
  m : List Int
def Fv.ok (x : Fv) : Bool := rightF x.s x.l x.t x.m
def Fv.rat (x : Fv) : Rat := ratF x.s x.l x.t x.m
def fE : Enc Fv := fun w B x cs => ∃ A n c A' n' c', cs = [.int .i64 x.s, .slice A n c, .int .i64 x.t, .slice A' n' c'] ∧ RdI w B A n c x.l ∧ RdI w B A' n' c' x.m
theorem fE_lasts : Lasts fE := fun w w' B B' x cs ⟨A, n, c, A', n', c', h, h1, h2⟩ hB hk => ⟨A, n, c, A', n', c', h, h1.keep (flat_lasts _) hB hk, h2.keep (flat_lasts _) hB hk⟩
abbrev RdF := Rd 4 fE
theorem Rd.atF {w : World} {B : Nat} {A : Option Addr} {n cap : Nat} {l : List Fv} (h : RdF w B A n cap l) {k : Nat} (hk : k < n) :
    ∃ b off A1 n1 c1 A2 n2 c2 x, A = some ⟨b, off, none⟩ ∧ b < B ∧ l[k]? = some x ∧ (w.cell? ⟨b, off + k * 4, none⟩ = some (.int .i64 x.s) ∧ w.cell? ⟨b, off + k * 4 + 1, none⟩ = some (.slice A1 n1 c1) ∧ w.cell? ⟨b, off + k * 4 + 2, none⟩ = some (.int .i64 x.t) ∧ w.cell? ⟨b, off + k * 4 + 3, none⟩ = some (.slice A2 n2 c2)) ∧ RdI w B A1 n1 c1 x.l ∧ RdI w B A2 n2 c2 x.m := by
  obtain ⟨b, off, rfl, hb, hc⟩ := h.2.2.2 (by omega)
  have hl := h.1
  obtain ⟨cs, ⟨A1, n1, c1, A2, n2, c2, rfl, h1, h2⟩, _, hj⟩ := hc k (by omega)
  exact ⟨b, off, A1, n1, c1, A2, n2, c2, l[k], rfl, hb, List.getElem?_eq_getElem (by omega), ⟨by simpa using hj 0 _ rfl, by simpa using hj 1 _ rfl, by simpa using hj 2 _ rfl, by simpa using hj 3 _ rfl⟩, h1, h2⟩
end Go.Proofs.Ytdlcglndhhndpaa
