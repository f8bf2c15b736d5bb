/- Words for lists of rows that a call appends to and stores into. Conditions stand in each theorem. -/
import Derived.Test.YtdlcglndhhndpaaMt
import Derived.Test.YtdlcglndhhndpaaMs
namespace Go.Proofs.Ytdlcglndhhndpaa
open Go.RowKit
set_option linter.unusedVariables false
set_option linter.unusedSimpArgs false

section
variable {P : Program} {ops : Array Oper} {rest : List Oper} {o : Oper} {a : Act} {Q : Exit → Act → World → Prop} {w W : World} {L L' X : List Blk} {D : List Hl}
/-- append(s, x...) -/
theorem St.appW {α : Type} {sz : Nat} {enc : α → List Value} {e : TypeId} {v : Value} {l : List α} (K : St w (X ++ L) D W) (ho : OwL sz enc e v l X) (hs : Sized sz enc) (hgd : o.guard = none) (s x : Operand) (t : TypeId)
    (hop : o.op = .call { callee := .builtin .append, args := #[s, x], argTypes := #[t, t] }) (z : Array Value) (bytes : Nat) (ht : P.underlying t = some (.slice e)) (hi : (P.info? e).map (fun i => (i.zero.map (·.cells), i.size, i.bytes)) = some (some z, sz, bytes)) (hz : z.size = sz)
    (hv : a.eval s = v) (A : Option Addr) (n cap : Nat) (l2 : List α) (hx : a.eval x = .slice A n cap) (hr : Rd sz (flat enc) W W.heap.size A n cap l2) (hlen : l.length + n ≤ 1000000) (hbb : bytes ≤ 1000)
    (h : ∀ v' X' W', OwL sz enc e v' (l ++ l2) X' → St w (X' ++ L) D W' → wpList P ops Q rest (a.put o.dst v') W') : wpList P ops Q (o :: rest) a W := by
  obtain ⟨i, h1, h2⟩ := Option.map_eq_some_iff.1 hi
  simp only [Prod.mk.injEq] at h2
  obtain ⟨h2, h3, h4⟩ := h2
  obtain ⟨zv, h5, h6⟩ := Option.map_eq_some_iff.1 h2
  have hbyt : (l.length + n) * bytes ≤ 1000000 * 1000 := Nat.mul_le_mul hlen hbb
  refine wpList_app W hs hgd s x t hop w.heap.size e i zv bytes ht h1 h5 h3 h4 (by rw [h6, hz]) v l hv (ho.own hs K) W.heap.size A n cap l2 hx hr (by unfold maxLen; omega) (by omega) K.1.size ?_
  intro v' W' g1 g2 g3
  obtain ⟨X', hX, K'⟩ := ho.of hs K g1 (grown_kept g2) (fun g hg => by
    rcases g3 with g3 | g3
    · exact Or.inl (g3 ▸ hg)
    · rw [g3] at hg
      injection hg with hg
      right
      omega)
  exact h v' X' W' hX K'
/-- []T{} -/
theorem OwL.empty {α : Type} (sz : Nat) (enc : α → List Value) (e : TypeId) (g : Nat) : OwL sz enc e (.slice (some ⟨g, 0, none⟩) 0 0) ([] : List α) [(g, #[], e)] := Or.inr ⟨g, 0, [], rfl, rfl, Nat.le_refl _, by unfold maxLen; omega, by simp⟩
/-- a row stored into a block of rows -/
theorem St.storeRR (K : St w L D W) (hgd : o.guard = none) (hd : o.dst = none) (ty : TypeId) (x y : Operand) (ho : o.op = .store ty x y) (g i N : Nat) {v : Nat → Rr} {J : List Value} {t : TypeId} (z : Rr)
    (hx : a.eval x = .pointer (some ⟨g, i * 5, none⟩)) (hy : a.eval y = .agg #[.slice z.A z.n z.c, .int .i64 z.y.s, .slice z.y.A z.y.n z.y.c, .int .i64 z.y.t, .slice z.y.B z.y.m z.y.d]) (hi : i < N) (hU : Upd g (recA Rr.cs N v J) t (recA Rr.cs N (putF v i z) J) L L') (hz : (P.info? ty).map (·.size) = some 5)
    (h : ∀ W', St w L' D W' → wpList P ops Q rest a W') : wpList P ops Q (o :: rest) a W :=
  K.store (off := i * 5) hgd hd ty x y ho _ hx hy z.cs rfl hU (recA_spl rr_sized hi z) hz (by
    rw [recA_size rr_sized]
    have := mul_step (sz := 5) hi
    show i * 5 + 5 ≤ _
    omega) (fun u hu => (rr_sized.2 z).2 u hu) h
theorem St.setRR {n i g : Nat} {v : Nat → Rr} {t : TypeId} {J : List Value} (h : St w L D W) (x : Rr) (hi : i < n) (hU : Upd g (recA Rr.cs n v J) t (recA Rr.cs n (putF v i x) J) L L') :
    St w L' D (((((W.setCell ⟨g, i * 5, none⟩ (.slice x.A x.n x.c)).setCell ⟨g, i * 5 + 1, none⟩ (.int .i64 x.y.s)).setCell ⟨g, i * 5 + 2, none⟩ (.slice x.y.A x.y.n x.y.c)).setCell ⟨g, i * 5 + 3, none⟩ (.int .i64 x.y.t)).setCell ⟨g, i * 5 + 4, none⟩ (.slice x.y.B x.y.m x.y.d)) := by
  refine h.upd hU (((((OnlyB.set W g _ _).trans (OnlyB.set _ g _ _)).trans (OnlyB.set _ g _ _)).trans (OnlyB.set _ g _ _)).trans (OnlyB.set _ g _ _)) ?_
  rw [← recA_spl rr_sized hi x]
  exact (((((h.blk hU.mem).set (j := i * 5) (.slice x.A x.n x.c)).set (j := i * 5 + 1) (.int .i64 x.y.s)).set (j := i * 5 + 2) (.slice x.y.A x.y.n x.y.c)).set (j := i * 5 + 3) (.int .i64 x.y.t)).set (j := i * 5 + 4) (.slice x.y.B x.y.m x.y.d)
theorem St.cellRR {n i g : Nat} {v : Nat → Rr} {t : TypeId} {J : List Value} (h : St w L D W) (hi : i < n) (hb : ((g, recA Rr.cs n v J, t) : Blk) ∈ L) : (W.cell? ⟨g, i * 5, none⟩ = some (.slice (v i).A (v i).n (v i).c) ∧ W.cell? ⟨g, i * 5 + 1, none⟩ = some (.int .i64 (v i).y.s) ∧ W.cell? ⟨g, i * 5 + 2, none⟩ = some (.slice (v i).y.A (v i).y.n (v i).y.c) ∧ W.cell? ⟨g, i * 5 + 3, none⟩ = some (.int .i64 (v i).y.t) ∧ W.cell? ⟨g, i * 5 + 4, none⟩ = some (.slice (v i).y.B (v i).y.m (v i).y.d)) ∧ ∀ j, W.frozen? ⟨g, j, none⟩ = false := by
  have hB := h.blk hb
  exact ⟨⟨hB.cell (recA_get rr_sized (j := 0) hi (by omega)), hB.cell (recA_get rr_sized (j := 1) hi (by omega)), hB.cell (recA_get rr_sized (j := 2) hi (by omega)), hB.cell (recA_get rr_sized (j := 3) hi (by omega)), hB.cell (recA_get rr_sized (j := 4) hi (by omega))⟩, fun j => hB.thaw⟩
end
/-- the cells of a slice of rows -/
theorem rr_cells {w : World} {B : Nat} {A : Option Addr} {n cap : Nat} {v : Nat → Rr} (h : Rd 5 (flat Rr.cs) w B A n cap (ofF n v)) (hn : 0 < n) : ∃ b off, A = some ⟨b, off, none⟩ ∧ b < B ∧ ∀ i, i < n → w.cell? ⟨b, off + i * 5, none⟩ = some (.slice (v i).A (v i).n (v i).c) ∧ w.cell? ⟨b, off + i * 5 + 1, none⟩ = some (.int .i64 (v i).y.s) ∧ w.cell? ⟨b, off + i * 5 + 2, none⟩ = some (.slice (v i).y.A (v i).y.n (v i).y.c) ∧ w.cell? ⟨b, off + i * 5 + 3, none⟩ = some (.int .i64 (v i).y.t) ∧ w.cell? ⟨b, off + i * 5 + 4, none⟩ = some (.slice (v i).y.B (v i).y.m (v i).y.d) := by
  obtain ⟨b, off, rfl, hb, hc⟩ := h.2.2.2 hn
  refine ⟨b, off, rfl, hb, fun i hi => ?_⟩
  obtain ⟨cs, h1, h2, h3⟩ := hc i (by rw [ofF_len]; exact hi)
  have e : (ofF n v)[i]'(by rw [ofF_len]; exact hi) = v i := by
    have := ofF_get (f := v) hi
    rw [List.getElem?_eq_getElem (by rw [ofF_len]; exact hi)] at this
    exact Option.some.inj this
  rw [e] at h1
  have h1 : cs = (v i).cs := h1
  subst h1
  exact ⟨h3 0 _ rfl, h3 1 _ rfl, h3 2 _ rfl, h3 3 _ rfl, h3 4 _ rfl⟩
/-- a block of rows reads as their list -/
theorem St.rdRR {w W : World} {L : List Blk} {D : List Hl} {n g cap : Nat} {u : Nat → Rr} {S : Nat → Nat → Prop} {J : List Value} (K : St w L D W) (hb : ((g, recA Rr.cs n u J, 45) : Blk) ∈ L) (hm : rrF n u S ∈ D) (hn : n ≤ 1000000) (hc : n ≤ cap ∧ cap ≤ 9223372036854775807) : RdR W W.heap.size (some ⟨g, 0, none⟩) n cap (ofF n fun i => (u i).rv) := by
  have hB := K.blk hb
  refine ⟨ofF_len, hc.1, ⟨hc.2, by omega⟩, fun hn => ⟨g, 0, rfl, hB.lt, fun k hk => ?_⟩⟩
  rw [ofF_len] at hk
  refine ⟨(u k).cs, ?_, rfl, fun j v hv => ?_⟩
  · have e : (ofF n fun i => (u i).rv)[k]'(by rw [ofF_len]; exact hk) = (u k).rv := by
      have := ofF_get (f := fun i => (u i).rv) hk
      rw [List.getElem?_eq_getElem (by rw [ofF_len]; exact hk)] at this
      exact Option.some.inj this
    rw [e]
    have ho := (K.famAt hm (i := k) hk).1
    exact ⟨_, _, _, _, rfl, ho.1, _, _, _, _, _, _, rfl, ho.2.1, ho.2.2⟩
  · have hj : j < 5 := (List.getElem?_eq_some_iff.1 hv).1
    rw [Nat.zero_add]
    exact hB.cell ((recA_get (J := J) (v := u) rr_sized hk hj).trans hv)
theorem putF_rv {n a : Nat} {v : Nat → Rr} {z : Rr} : (ofF n fun i => (putF v a z i).rv) = ofF n (putF (fun i => (v i).rv) a z.rv) := ofF_congr fun i hi => by
  by_cases e : i = a
  · rw [e, putF_same, putF_same]
  · rw [putF_other e, putF_other e]
theorem tmod_nat {i : Int} {n : Nat} (h0 : 0 ≤ i) (hn : 0 < n) : Int.tmod i (n : Int) = ((i.toNat % n : Nat) : Int) ∧ i.toNat % n < n := by
  refine ⟨?_, Nat.mod_lt _ hn⟩
  have e : i = ((i.toNat : Nat) : Int) := by omega
  rw [e, Int.tmod_eq_emod_of_nonneg (by omega)]
  rfl
end Go.Proofs.Ytdlcglndhhndpaa
