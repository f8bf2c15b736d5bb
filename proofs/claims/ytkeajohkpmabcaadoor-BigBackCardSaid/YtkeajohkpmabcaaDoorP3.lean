/- Walk over Text of package big. Conditions stand in the theorem. -/
import Derived.Test.YtkeajohkpmabcaaDoorP2
import Derived.Test.YtkeajohkpmabcaaDoorD3
import Derived.Test.YtkeajohkpmabcaaDoorSh
import Derived.Lib.AppendIntMem
import Derived.Shelf.Slices.Cells
namespace Go.Proofs.YtkeajohkpmabcaaDoor
open Go.RowKit
set_option linter.unusedVariables false
set_option linter.unusedSimpArgs false

/-- the library's table of powers of ten, for whatever comes after this world -/
def Tab (w : World) : Prop := Lib.TabBelow Tryd.prog w.heap.size w "internal/strconv.uint64pow10" .u64 Lib.pow10Tab
theorem Tab.at {w W : World} (h : Tab w) (hb : Below w.heap.size w W) : Lib.TabIs Tryd.prog W "internal/strconv.uint64pow10" .u64 Lib.pow10Tab := h W hb
theorem Tab.on {w W : World} (h : Tab w) (hb : Below w.heap.size w W) : Tab W := fun W' hb' => h W' (hb.trans (hb'.mono hb.size))
def sEnc : ByteArray → List Value := fun x => [.string x]
theorem sSized : Sized 1 sEnc := ⟨by omega, fun x => ⟨rfl, by intro u hu; simp [sEnc] at hu; subst hu; rfl⟩⟩
theorem string_info : (Tryd.prog.info? 9).map (fun i => (i.zero, i.size, i.bytes)) = some (some (.string ⟨#[]⟩), 1, 16) := by kernel_rfl
/-- the text of a big integer -/
def textB (s : Int) (l : List Int) : ByteArray := if rightB s l = true then ⟨(Lib.itoa (bval s l)).toArray⟩ else ⟨#[]⟩
theorem repeat_zero (k : Nat) : Lib.repeatL [48] k = List.replicate k 48 := by
  have := Lib.repeatL_replicate 48 1 k
  rw [Nat.mul_one] at this
  exact this
theorem below_sc {B b : Nat} {a : World} (hb : B ≤ b) : ∀ (vs : List Value) (o : Nat) (w : World), Below B a w → Below B a (w.setCells b o vs)
  | [], _, _, h => h
  | v :: r, o, w, h => below_sc hb r (o + 1) _ (h.setCell (by exact hb) v)
theorem size_sc (b : Nat) : ∀ (vs : List Value) (o : Nat) (w : World), (w.setCells b o vs).heap.size = w.heap.size
  | [], _, _ => rfl
  | v :: r, o, w => by rw [World.setCells, size_sc b r]; simp [World.setCell]
theorem strs_at (ps : List ByteArray) (j : Nat) (h : j < ps.length) : (Lib.strsOf (fun i => ps.getD i ⟨#[]⟩) ps.length)[j]? = some ps[j].data.toList := by
  unfold Lib.strsOf
  rw [List.getElem?_map, List.getElem?_range h, Option.map_some]
  show some (ps.getD j ⟨#[]⟩).data.toList = _
  rw [List.getD_eq_getElem?_getD, List.getElem?_eq_getElem h]
  rfl
/-- the parts turned around -/
theorem rev_any {w : World} {base : Nat} {v : Value} {ps : List ByteArray} (h : Own 1 sEnc w base 9 v ps) (hb : base ≤ w.heap.size) (hn : ps.length ≤ 1000000) :
    Calls Tryd.prog 40 #[v] w fun e w' => e = .returned (.tuple #[]) ∧ Below base w w' ∧ ∃ A cap, v = .slice A ps.length cap ∧ (0 < ps.length → ∃ g, A = some ⟨g, 0, none⟩ ∧ base ≤ g ∧ g < w'.heap.size ∧ ps.length ≤ cap ∧ ∀ (j : Nat) x, ps.reverse[j]? = some x → w'.cell? ⟨g, 0 + j, none⟩ = some (.string x)) := by
  rcases Nat.eq_zero_or_pos ps.length with h0 | h0
  · obtain ⟨A, cap, rfl, -⟩ := h.rd sSized (by omega)
    rw [h0]
    refine (Tryd.slices_Reverse_string_empty A cap w).mono fun e w' ⟨he, hw⟩ => ?_
    subst hw
    exact ⟨he, Below.refl _ _, A, cap, rfl, fun h => absurd h (by omega)⟩
  · obtain ⟨g, cap, rfl, hg, hgs, hc1, hc2, hf, -⟩ := h.form h0
    have hcell : ∀ i, i < ps.length → w.cell? ⟨g, 0 + i, none⟩ = some (.string (ps.getD i ⟨#[]⟩)) := by
      intro i hi
      obtain ⟨A, c, e, hr⟩ := h.rd sSized (by omega)
      injection e with e1 e2 e3
      subst e1 e3
      obtain ⟨b', off, e, hlt, hk⟩ := hr.2.2.2 h0
      injection e with e
      injection e with e1 e2
      subst e1 e2
      obtain ⟨cs, hrc, hlen, hj⟩ := hk i hi
      have := hj 0 (.string (ps.getD i ⟨#[]⟩)) (by
        have : cs = sEnc _ := hrc
        rw [this, List.getD_eq_getElem?_getD, List.getElem?_eq_getElem hi]; rfl)
      simpa using this
    refine (Tryd.slices_Reverse_string_cells g 0 ps.length cap (fun i => ps.getD i ⟨#[]⟩) w (by omega) hcell (fun j _ => by rw [Nat.zero_add]; exact hf j)).mono ?_
    rintro e w' ⟨he, q, rfl⟩
    have hl := Lib.strsOf_length (fun i => ps.getD i ⟨#[]⟩) ps.length
    refine ⟨he, below_sc hg _ _ _ (below_drewN (Below.refl _ _) q), _, cap, rfl, fun _ => ⟨g, rfl, hg, ?_, hc1, fun j x hx => ?_⟩⟩
    · rw [size_sc]; exact hgs
    · have hj : j < ps.length := by
        have := (List.getElem?_eq_some_iff.1 hx).1
        simpa using this
      have hl2 : ((Lib.strsOf (fun i => ps.getD i ⟨#[]⟩) ps.length).reverse.map encStr).length = ps.length := by rw [List.length_map, List.length_reverse, hl]
      rw [World.cell?_setCells_in g _ 0 _ (fun i hi => by
        have := hcell i (by rw [hl2] at hi; exact hi)
        show (w.cell? ⟨g, 0 + i, none⟩).isSome = true
        rw [this]; rfl) j (by rw [hl2]; exact hj)]
      rw [List.getElem?_reverse hj] at hx
      have hx3 : ((Lib.strsOf (fun i => ps.getD i ⟨#[]⟩) ps.length).reverse.map encStr)[j]? = some (.string x) := by
        rw [List.getElem?_map, List.getElem?_reverse (by rw [hl]; exact hj), hl, strs_at ps _ (by omega)]
        have hx4 := hx
        rw [List.getElem?_eq_getElem (by omega)] at hx4
        injection hx4 with hx4
        rw [hx4]
        simp [encStr, Lib.mk_data]
      rw [List.getElem?_eq_getElem (by rw [hl2]; exact hj)] at hx3
      exact hx3
theorem digs_len_mono {m n : Nat} (h : m ≤ n) : (digs m).length ≤ (digs n).length :=
  digs_len.2 (by have := (digs_len (n := n)).1 (Nat.le_refl _); omega)
/-- short, as a fresh slice -/
theorem shortD (A : Option Addr) (n cap : Nat) (u : Nat) (w : World) (ha : RdI w w.heap.size A n cap (digs u)) (hn : n ≤ 10000) :
    Calls Tryd.prog 37 #[.slice A n cap, .int .i64 100000] w fun e w' => ∃ A' n' c', e = .returned (.tuple #[.slice A' n' c', .int .i64 ((u : Int) % 100000)]) ∧ RdI w' w'.heap.size A' n' c' (digs (u / 100000)) ∧ FrA w.heap.size A' ∧ Below w.heap.size w w' :=
  (bshort_any A n cap (digs u) 100000 w ha (digs_cn u).1 hn (by omega)).mono fun e w' ⟨⟨v, he, ho⟩, hb⟩ => by
    rw [digs_val] at he ho
    have e1 : ((u : Int) / 100000).toNat = u / 100000 := by omega
    rw [e1] at ho
    have hlen : (digs (u / 100000)).length ≤ 140737488351232 := by
      have h1 := digs_len_mono (show u / 100000 ≤ u by omega)
      have := ha.len
      omega
    obtain ⟨A', c', rfl, hr⟩ := ho.rd iSized hlen
    exact ⟨A', _, c', he, hr, ho.fr rfl, hb⟩
theorem itoaD (n : Int) (h0 : 0 ≤ n) (h1 : n < 100000) (w w1 : World) (ht : Tab w) (hb : Below w.heap.size w w1) :
    Calls Tryd.prog 38 #[.int .i64 n] w1 fun e w' => ∃ P : ByteArray, e = .returned (.string P) ∧ P.data.toList = Lib.itoa n ∧ P.size = (Lib.itoa n).length ∧ Below w1.heap.size w1 w' :=
  (Tryd.strconv_Itoa n (by omega) (by omega) w1 (ht.at hb)).mono fun e w' ⟨he, k, os, hw⟩ => ⟨_, he, rfl, by rw [Lib.size_eq], by subst hw; exact Lib.below_grow _ _ (Nat.le_refl _) k os⟩
theorem repD (k : Nat) (hk : k ≤ 5) (w : World) :
    Calls Tryd.prog 39 #[.string ⟨#[48]⟩, .int .i64 (k : Int)] w fun e w' => ∃ P : ByteArray, e = .returned (.string P) ∧ P.data.toList = List.replicate k 48 ∧ P.size = k ∧ Below w.heap.size w w' :=
  (Tryd.strings_Repeat ⟨#[48]⟩ k w (by omega) (by show 1 * k ≤ _; omega)).mono fun e w' ⟨he, hb⟩ => by
    have e1 : Lib.repeatL (⟨#[48]⟩ : ByteArray).data.toList k = List.replicate k 48 := repeat_zero k
    rw [e1] at he
    exact ⟨_, he, rfl, by rw [Lib.size_eq]; simp, hb⟩
end Go.Proofs.YtkeajohkpmabcaaDoor
