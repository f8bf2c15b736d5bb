/- Laws and walks laid together; the conditions stand in each theorem. -/
import Derived.BigRegion
import Derived.Maps.RangeWalk
import Derived.Test.YtdlcglndhhndpaaT10
import Derived.Test.YtdlcglndhhndpaaT11
import Derived.Test.YtdlcglndhhndpaaT12
import Derived.Test.YtdlcglndhhndpaaT08
set_option linter.unusedSimpArgs false
set_option linter.unusedVariables false
namespace Go.Proofs.Ytdlcglndhhndpaa
open Go.RowKit
theorem row_zero : (Try.prog.info? 45).map (fun i => i.zero.map (·.cells)) = some (some #[.slice none 0 0, .int .i64 0, .slice none 0 0, .int .i64 0, .slice none 0 0]) := by kernel_rfl
theorem row_size : (Try.prog.info? 45).map (·.size) = some 5 := by kernel_rfl
section
variable {w W W' : World} {L L' A B X : List Blk} {D : List Hl}
theorem St.mid {x : Blk} (K : St w (x :: (A ++ B)) D W) : St w (A ++ (x :: B)) D W := K.perm List.perm_middle
theorem St.cutm {x : Blk} (K : St w (A ++ (x :: B)) D W) : St w (A ++ B) D W := K.part (List.Sublist.append_left (List.sublist_cons_self _ _) _)
end
theorem OwL.shape {α : Type} {sz : Nat} {enc : α → List Value} {e : TypeId} {v : Value} {l : List α} {X : List Blk} (h : OwL sz enc e v l X) : ∃ A n c, v = .slice A n c := by
  rcases h with ⟨rfl, _⟩ | ⟨g, cap, J, rfl, _⟩
  · exact ⟨_, _, _, rfl⟩
  · exact ⟨_, _, _, rfl⟩
theorem OwL.shapeL {α : Type} {sz : Nat} {enc : α → List Value} {e : TypeId} {v : Value} {l : List α} {X : List Blk} (h : OwL sz enc e v l X) : ∃ A c, v = .slice A l.length c := by
  rcases h with ⟨rfl, rfl, _⟩ | ⟨g, cap, J, rfl, _⟩
  · exact ⟨_, _, rfl⟩
  · exact ⟨_, _, rfl⟩
def sfE : Enc (List Fv) := fun w B x cs => ∃ A n c, cs = [.slice A n c] ∧ RdF w B A n c x
abbrev RdFF := Rd 1 sfE
def ElimO (w : World) (n : Nat) (stop : Bool) (m0 : Mx) (e : Ending) (w' : World) : Prop :=
  ∃ (mb : Nat) (A : Option Addr) (cc : Nat) (Af : Option Addr) (cf : Nat) (b : Bool) (fr : List Nat) (m' : Mx), e = .returned (.tuple #[.pointer (some ⟨mb, 0, none⟩), .slice Af (List.length fr) cf]) ∧ Below w.heap.size w w' ∧ (w'.cell? ⟨mb, 0, none⟩ = some (.slice A n cc) ∧ w'.cell? ⟨mb, 2, none⟩ = some (.bool b)) ∧ RdI w' w'.heap.size Af fr.length cf (fr.map fun c : Nat => (c : Int)) ∧
    (b = true → elimF n stop n m0 [] = none) ∧ (b = false → elimF n stop n m0 [] = some (m', fr) ∧ (∀ i k, i < n → k < n + 1 → fitsF (m' i k) = true) ∧ RdFF w' w'.heap.size A n cc (ofF n fun i => ofF (n + 1) fun k => fvQ (m' i k)))
theorem Mm.rdRow {w W : World} {L : List Blk} {D : List Hl} {M : Mm} {n i : Nat} {m : Mx} (K : St w L D W) (hm : M.fam n ∈ D) (hi : i < n) (hb : ((M.rb i, rwA M.N (M.V i) (M.J i), 40) : Blk) ∈ L) (hg : M.good n m) (hN : M.N = n + 1) (hc : M.N ≤ M.cp i ∧ M.cp i ≤ 9223372036854775807) (hn : n ≤ 1000) :
    RdF W W.heap.size (some ⟨M.rb i, 0, none⟩) M.N (M.cp i) (ofF (n + 1) fun k => fvQ (m i k)) := by
  have hB := K.blk hb
  refine ⟨by rw [ofF_len, hN], hc.1, ⟨hc.2, by omega⟩, fun _ => ⟨M.rb i, 0, rfl, hB.lt, fun k hk => ?_⟩⟩
  rw [ofF_len] at hk
  refine ⟨(M.V i k).cs, ?_, rfl, fun j u hu => ?_⟩
  · have e : (ofF (n + 1) fun k => fvQ (m i k))[k]'(by rw [ofF_len]; exact hk) = (M.V i k).fv := by
      have := ofF_get (f := fun k => fvQ (m i k)) hk
      rw [List.getElem?_eq_getElem (by rw [ofF_len]; exact hk)] at this
      rw [Option.some.inj this]
      exact ((hg i k hi (by omega)).1.fv).symm
    rw [e]
    have := K.famOn (M := M) hm hi (j := k) (by omega)
    exact ⟨_, _, _, _, _, _, rfl, this.1, this.2⟩
  · have hj : j < 4 := (List.getElem?_eq_some_iff.1 hu).1
    rw [Nat.zero_add]
    exact hB.cell ((rwA_get (by omega) hj).trans hu)
theorem ElimO.mk {w W : World} {n mb hb hc : Nat} {HJ : List Value} {stop b : Bool} {m0 m' : Mx} {M : Mm} {fr : List Nat} {Xf : List Blk} {vf : Value} (K : St w ((mb, #[.slice (some ⟨hb, 0, none⟩) n hc, .int .i64 n, .bool b], 81) :: (hb, recA Hd.cs n (M.hd n) HJ, 23) :: (M.rows n ++ Xf)) [M.fam n] W) (hcp : M.caps n) (hn : n ≤ 1000) (hfr : fr.length ≤ n) (ho : OwL 1 iEnc 3 vf (fr.map fun c : Nat => (c : Int)) Xf) (hcc : n ≤ hc ∧ hc ≤ 9223372036854775807)
    (h1 : b = true → elimF n stop n m0 [] = none) (h2 : b = false → elimF n stop n m0 [] = some (m', fr) ∧ M.good n m') : ElimO w n stop m0 (.returned (.tuple #[.pointer (some ⟨mb, 0, none⟩), vf])) W := by
  have K3 : St w (Xf ++ (_ :: _ :: M.rows n)) [M.fam n] W := K.perm List.perm_append_comm
  obtain ⟨Af, cf, hv, hr⟩ := (ho.own iSized K3).rd iSized (by rw [List.length_map]; omega)
  rw [List.length_map] at hv hr
  subst hv
  have hB := K.blk (b := mb) ZMB
  have hH := K.blk (b := hb) ZMB
  refine ⟨mb, some ⟨hb, 0, none⟩, hc, Af, cf, b, fr, m', rfl, K.1, ⟨hB.cell rfl, hB.cell rfl⟩, hr, h1, fun hb0 => ?_⟩
  obtain ⟨g1, g2⟩ := h2 hb0
  refine ⟨g1, fun i k hi hk => (g2 i k hi (by have := hcp.1; omega)).2, ofF_len, hcc.1, ⟨hcc.2, by omega⟩, fun _ => ⟨hb, 0, rfl, hH.lt, fun k hk => ?_⟩⟩
  rw [ofF_len] at hk
  refine ⟨[.slice (some ⟨M.rb k, 0, none⟩) M.N (M.cp k)], ?_, rfl, fun j u hu => ?_⟩
  · have e : (ofF n fun i => ofF (n + 1) fun k => fvQ (m' i k))[k]'(by rw [ofF_len]; exact hk) = ofF (n + 1) fun j => fvQ (m' k j) := by
      have := ofF_get (f := fun i => ofF (n + 1) fun k => fvQ (m' i k)) hk
      exact ZQ30
    rw [e]
    exact ⟨_, _, _, rfl, Mm.rdRow K List.mem_cons_self hk (List.mem_cons_of_mem _ (List.mem_cons_of_mem _ (Mm.mem hk))) g2 hcp.1 (hcp.2 k hk) hn⟩
  · have hj : j = 0 := by
      have : j < 1 := (List.getElem?_eq_some_iff.1 hu).1
      omega
    subst hj
    rw [Nat.zero_add, Nat.mul_one, Nat.add_zero]
    exact (hH.cell (hdA_get hk)).trans hu
end Go.Proofs.Ytdlcglndhhndpaa
namespace Go.Proofs.Ytdlcglndhhndpaa
open Go.RowKit
theorem RdFF.at {w : World} {B : Nat} {A : Option Addr} {n cap : Nat} {l : List (List Fv)} (h : RdFF w B A n cap l) {k : Nat} (hk : k < n) :
    ∃ b off A1 n1 c1 x, A = some ⟨b, off, none⟩ ∧ b < B ∧ l[k]? = some x ∧ w.cell? ⟨b, off + k, none⟩ = some (.slice A1 n1 c1) ∧ RdF w B A1 n1 c1 x := by
  obtain ⟨b, off, rfl, hb, hc⟩ := h.2.2.2 (by omega)
  have hl := h.1
  obtain ⟨cs, ⟨A1, n1, c1, rfl, h1⟩, _, hj⟩ := hc k (by omega)
  exact ⟨b, off, A1, n1, c1, l[k], rfl, hb, List.getElem?_eq_getElem (by omega), by simpa using hj 0 _ rfl, h1⟩
end Go.Proofs.Ytdlcglndhhndpaa
