/- Laws and walks laid together; the conditions stand in each theorem. -/
import Derived.WalkKit
import Derived.Laws.OwnMore
import Derived.Deep.Draws
import Derived.Deep.AppendLies
import Derived.Lib.Hide
import Derived.ProofKit
import Derived.OpenShut
import Derived.ShutString
import Derived.ChangeOld
import Derived.Below
import Derived.SizedLaws
import Derived.Deep.SlicePairs
import Derived.Deep.Slices
import Derived.ChangeSame
import Derived.Maps.AppendAt
import Derived.RegionTactic
import Derived.OwnWalk
import Derived.Laws.CopyRow
import Derived.Laws.CopyOwn
import Derived.Deep.RegionHeld3
import Derived.Test.YtdlcglndhhndpaaProg
import Derived.LoopTactic
import Derived.Deep.QuietTactic
import Derived.BigQuiet
import Derived.Deep.LoopGhost
import Derived.IntWalk
import Derived.Handy
import Derived.Shelf.Abstract
import Derived.Lib.MinMax
import Derived.ArgAppend
import Derived.Laws.BitsLemmas
import Derived.Laws.BitsAllLaws
import Derived.Lib.LazyBuf
import Derived.Deep.CutRange
import Derived.Deep.CutBlock
import Derived.Outline
import Derived.OrdersHeld
import Derived.BigRegion
import Derived.Maps.RangeWalk
import Derived.Test.YtdlcglndhhndpaaT07
import Derived.Test.YtdlcglndhhndpaaT06
import Derived.Test.YtdlcglndhhndpaaT04
import Derived.Test.YtdlcglndhhndpaaT08
import Derived.Test.YtdlcglndhhndpaaT09
import Derived.Test.YtdlcglndhhndpaaT21
import Derived.Test.YtdlcglndhhndpaaT33
import Derived.Test.YtdlcglndhhndpaaT13
import Derived.Test.YtdlcglndhhndpaaT17
set_option linter.unusedSimpArgs false
set_option linter.unusedVariables false
namespace Go.Proofs.Ytdlcglndhhndpaa
open Go.RowKit
theorem CmpI.parts {C sg p q r s : Int} (h : CmpI C sg p q r s) (hc : cmpI (fq p q) (fq r s) ≠ 0) : sg * cmpI (fq p q) (fq r s) = C := by
  obtain ⟨hq, hs, -, rfl⟩ := h
  congr 1
  have e1 := fr_def p q
  have e2 := fr_def r s
  have b1 := (fr_bounds (x := p) (y := q) (by omega)).resolve_right (by omega)
  have b2 := (fr_bounds (x := r) (y := s) (by omega)).resolve_right (by omega)
  generalize fq p q = x at *
  generalize fq r s = y at *
  generalize fr p q = u at *
  generalize fr r s = v at *
  have hne : x ≠ y := fun e => hc (cmpI_zero.2 e)
  have hqs := Int.mul_pos hq hs
  rcases Int.lt_or_gt_of_ne hne with h | h
  · rw [cmpI_lt h, cmpI_lt]
    rw [← e1, ← e2]
    have h1 : (q * s) * (x + 1) ≤ (q * s) * y := Int.mul_le_mul_of_nonneg_left (by omega) (by omega)
    have h2 : u * s < q * s := Int.mul_lt_mul_of_pos_right b1.2.2 hs
    have h3 : 0 ≤ v * q := Int.mul_nonneg b2.2.1 (by omega)
    have e3 : (q * x + u) * s = (q * s) * x + u * s := by grind
    have e4 : (s * y + v) * q = (q * s) * y + v * q := by grind
    rw [e3, e4]
    rw [Int.mul_add, Int.mul_one] at h1
    omega
  · rw [cmpI_gt h, cmpI_gt]
    rw [← e1, ← e2]
    have h1 : (q * s) * (y + 1) ≤ (q * s) * x := Int.mul_le_mul_of_nonneg_left (by omega) (by omega)
    have h2 : v * q < s * q := Int.mul_lt_mul_of_pos_right b2.2.2 hq
    have h3 : 0 ≤ u * s := Int.mul_nonneg b1.2.1 (by omega)
    have e3 : (q * x + u) * s = (q * s) * x + u * s := by grind
    have e4 : (s * y + v) * q = (q * s) * y + v * q := by grind
    have e5 : s * q = q * s := Int.mul_comm _ _
    rw [e3, e4]
    rw [Int.mul_add, Int.mul_one] at h1
    omega
end Go.Proofs.Ytdlcglndhhndpaa
namespace Go.Proofs.Ytdlcglndhhndpaa
open Go.RowKit
section
variable {H b0 b1 : Nat} {cs0 cs1 : Array Value} {T : TypeId} {W : World}
end
theorem fits_fq {x y : Int} (hy : 0 < y) (h : fits x = true) : fits (fq x y) = true := fits_le h (by
  rw [(fr_pos hy).1]
  exact Int.natAbs_ediv_le_natAbs _ _)
theorem fits_fr {x y : Int} (hy : 0 < y) (h : fits y = true) : fits (fr x y) = true := fits_le h (by
  have := (fr_bounds (x := x) (y := y) (by omega)).resolve_right (by omega)
  omega)
def cmpF (ok : Bool) (x y : Rat) : Int := if ok = true then cmpQ x y else 0
end Go.Proofs.Ytdlcglndhhndpaa
namespace Go.Proofs.Ytdlcglndhhndpaa
open Go.RowKit
theorem cmpQ_le {x y : Rat} : cmpQ x y ≤ 0 ↔ x ≤ y := by
  unfold cmpQ
  split
  · grind
  · split <;> grind
end Go.Proofs.Ytdlcglndhhndpaa
namespace Go.Proofs.Ytdlcglndhhndpaa
open Go.RowKit
section
variable {w W W' : World} {L L' : List Blk} {D : List Hl} {n : Nat} {v : Nat → Rw}
end
section
variable {P : Program} {ops : Array Oper} {rest : List Oper} {o : Oper} {a : Act} {Q : Exit → Act → World → Prop}
variable {w W : World} {L L' : List Blk} {D : List Hl}
end
section
variable {α : Type} {sz : Nat} {enc : α → List Value} {e : TypeId} {v : Value} {l : List α} {X : List Blk} {w W W' : World} {L : List Blk} {D : List Hl}
variable {P : Program} {ops : Array Oper} {rest : List Oper} {o : Oper} {a : Act} {Q : Exit → Act → World → Prop}
end
theorem fv_form {x : Fv} (h : x.ok = true) : x = fvQ x.rat := (rightF_std h).1.fv
section
variable {w W W' : World} {L X : List Blk} {D : List Hl} {n : Nat} {v : Nat → Rw}
end
section
variable {w W W' : World} {L : List Blk} {D : List Hl}
end
end Go.Proofs.Ytdlcglndhhndpaa
namespace Go.Proofs.Ytdlcglndhhndpaa
open Go.RowKit
theorem RowI.parts {n : Nat} {K B : Int} {row : Nat → Rat} (h : RowI n K B row) {k : Nat} (hk : k < n) : ((row k).num.natAbs : Int) ≤ B ∧ ((row k).den : Int) ≤ K := by
  obtain ⟨z, h1, h2⟩ := h.2 k hk
  have e : Rat.divInt z K = row k := by
    have := int_ne h.1
    rw [Rat.divInt_eq_div, ← h1]
    grind
  obtain ⟨e1, e2⟩ := divInt_parts (x := z) h.1
  rw [e] at e1 e2
  refine ⟨?_, ?_⟩
  · rw [e1, Int.natAbs_ediv_of_dvd (Int.gcd_dvd_left ..)]
    have := Nat.div_le_self z.natAbs (Int.gcd z K : Int).natAbs
    omega
  · rw [e2]
    exact Int.ediv_le_self _ (by have := h.1; omega)
end Go.Proofs.Ytdlcglndhhndpaa
namespace Go.Proofs.Ytdlcglndhhndpaa
open Go.RowKit
end Go.Proofs.Ytdlcglndhhndpaa
namespace Go.Proofs.Ytdlcglndhhndpaa
open Go.RowKit
end Go.Proofs.Ytdlcglndhhndpaa
namespace Go.Proofs.Ytdlcglndhhndpaa
open Go.RowKit
end Go.Proofs.Ytdlcglndhhndpaa
namespace Go.Proofs.Ytdlcglndhhndpaa
open Go.RowKit
end Go.Proofs.Ytdlcglndhhndpaa
namespace Go.Proofs.Ytdlcglndhhndpaa
open Go.RowKit
end Go.Proofs.Ytdlcglndhhndpaa
namespace Go.Proofs.Ytdlcglndhhndpaa
open Go.RowKit
end Go.Proofs.Ytdlcglndhhndpaa
namespace Go.Proofs.Ytdlcglndhhndpaa
open Go.RowKit
end Go.Proofs.Ytdlcglndhhndpaa
namespace Go.Proofs.Ytdlcglndhhndpaa
open Go.RowKit
section
variable {m n : Nat} {A : Nat → Nat → Rat} {b c : Nat → Rat}
theorem more_ends {E E' : LpEnd} (A' : Nat → Nat → Rat) (b' : Nat → Rat) (hA : ∀ i j, i < m → A' i j = A i j) (hb : ∀ i, i < m → b' i = b i) (h : LpSays m n A b c E) (h' : LpSays (m + 1) n A' b' c E') (hE : E ≠ .full) (hE' : E' ≠ .full) :
    (∀ y, E = .none y → ∃ z, E' = .none z) ∧ (∀ x y z, E = .best x y → ¬ E' = .ray z) ∧ ∀ x y u v, E = .best x y → E' = .best u v → smQ (fun j => c j * u j) n ≤ smQ (fun j => c j * x j) n := by
  have sol : ∀ {x : Nat → Rat}, Sol (m + 1) n A' b' x → Sol m n A b x := fun hx => ⟨hx.1, fun i hi => by
    have := hx.2 i (by omega)
    rw [hb i hi, smQ_congr (fun j _ => by rw [hA i j hi])] at this
    exact this⟩
  refine ⟨fun y e => ?_, fun x y z e e' => ?_, fun x y u v e e' => ?_⟩
  · subst e
    cases E' with
    | full => exact absurd rfl hE'
    | none z => exact ⟨z, rfl⟩
    | ray z => obtain ⟨x0, h0⟩ := h'.rayF; exact (cerN_no h.isN (sol h0)).elim
    | best u v => exact (cerN_no h.isN (sol h'.isB.1)).elim
  · subst e e'
    refine cerR_no (A := A) (m := m) ⟨⟨h'.isR.1.1, fun i hi => ?_⟩, h'.isR.2⟩ h.isB.2.1
    have := h'.isR.1.2 i (by omega)
    rw [smQ_congr (fun j _ => by rw [hA i j hi])] at this
    exact this
  · subst e e'
    have h1 := weak (sol h'.isB.1) h.isB.2.1
    have h2 := h.isB.2.2
    grind
end
end Go.Proofs.Ytdlcglndhhndpaa
namespace Go.Proofs.Ytdlcglndhhndpaa
open Go.RowKit
section
variable {w W W' : World} {L L' X : List Blk} {D : List Hl} {n : Nat} {u : Nat → Rr} {S : Nat → Nat → Prop}
theorem St.rrPut (h : St w L D W) (hm : rrF n u S ∈ D) (k : Nat) (y : Rr) (T : Nat → Prop) (hy : (⟨y.on, T⟩ : Hl).ok L W) : St w L (rrF n (putF u k y) (putF S k T) :: D) W :=
  h.fam fun i hi => by
    by_cases e : i = k
    · rw [e, putF_same, putF_same]; exact hy
    · rw [putF_other e, putF_other e]; exact h.famAt hm (i := i) hi
theorem St.okOld (h : St w L D W) {P : World → Prop} (hP : ∀ W' : World, w.heap.size ≤ W'.heap.size → (∀ b, b < w.heap.size → W'.heap[b]? = w.heap[b]?) → P W') : (⟨P, oldS w⟩ : Hl).ok L W :=
  ⟨hP W h.1.size (fun b hb => h.1.block b hb), fun b hS => ⟨Nat.lt_of_lt_of_le hS h.1.size, fun p hp => by have := (h.2.1 p hp).1; have hS : b < w.heap.size := hS; omega⟩, fun W' h1 h2 => hP W' (Nat.le_trans h.1.size h1) (fun b hb => (h2 b hb).trans (h.1.block b hb))⟩
theorem St.okRow (h : St w L D W) (x : Rr) (hx : x.on w) : (⟨x.on, oldS w⟩ : Hl).ok L W :=
  h.okOld fun W' h1 h2 => ⟨hx.1.keep fE_lasts h1 (fun p hp => cell_of (h2 _ hp)), hx.2.1.keep (flat_lasts _) h1 (fun p hp => cell_of (h2 _ hp)), hx.2.2.keep (flat_lasts _) h1 (fun p hp => cell_of (h2 _ hp))⟩
end
theorem rdR_raw {w : World} {B : Nat} {A : Option Addr} {n cap : Nat} {l : List Rv} (h : RdR w B A n cap l) (hB : B = w.heap.size) : ∃ v : Nat → Rr, Rd 5 (flat Rr.cs) w B A n cap (ofF n v) ∧ (∀ i, i < n → (v i).on w) ∧ ∀ i, i < n → l[i]? = some (v i).rv := by
  by_cases hn : n = 0
  · subst hn
    exact ⟨fun _ => Rr.zero, ⟨rfl, h.2.1, h.2.2.1, fun h => absurd h (by omega)⟩, fun i hi => absurd hi (by omega), fun i hi => absurd hi (by omega)⟩
  · obtain ⟨b, off, rfl, hb, hc⟩ := h.2.2.2 (by omega)
    have hl := h.1
    have ex : ∀ k, k < n → ∃ x : Rr, l[k]? = some x.rv ∧ (∀ (j : Nat) u, x.cs[j]? = some u → w.cell? ⟨b, off + k * 5 + j, none⟩ = some u) ∧ x.on w := fun k hk => by
      obtain ⟨cs, ⟨A0, n0, c0, cs', rfl, h0, A1, n1, c1, A2, n2, c2, rfl, h1, h2⟩, _, hj⟩ := hc k (by omega)
      have hx : l[k]? = some l[k] := List.getElem?_eq_getElem (by omega)
      subst hB
      exact ⟨⟨A0, n0, c0, (l[k]).a, ⟨(l[k]).b.s, A1, n1, c1, (l[k]).b.l, (l[k]).b.t, A2, n2, c2, (l[k]).b.m⟩⟩, hx, hj, h0, h1, h2⟩
    obtain ⟨v, hv⟩ : ∃ v : Nat → Rr, ∀ k, k < n → l[k]? = some (v k).rv ∧ (∀ (j : Nat) u, (v k).cs[j]? = some u → w.cell? ⟨b, off + k * 5 + j, none⟩ = some u) ∧ (v k).on w := by
      refine ⟨fun k => if h : k < n then (ex k h).choose else Rr.zero, fun k hk => ?_⟩
      simp only [dif_pos hk]
      exact (ex k hk).choose_spec
    refine ⟨v, ⟨ofF_len, h.2.1, h.2.2.1, fun _ => ⟨b, off, rfl, hb, fun k hk => ?_⟩⟩, fun i hi => (hv i hi).2.2, fun i hi => (hv i hi).1⟩
    rw [ofF_len] at hk
    refine ⟨(v k).cs, ?_, rfl, fun j u hu => (hv k hk).2.1 j u hu⟩
    have e : (ofF n v)[k]'(by rw [ofF_len]; exact hk) = v k := by
      have := ofF_get (f := v) hk
      rw [List.getElem?_eq_getElem (by rw [ofF_len]; exact hk)] at this
      exact Option.some.inj this
    rw [e]
    rfl
end Go.Proofs.Ytdlcglndhhndpaa
