/- copy into a slice of the call's own, of whatever reads as a list. No condition. -/
import Derived.Test.YtmcamadcoglodaaApp
import Derived.Laws.CopyRow
import Derived.Laws.CopyOwn
namespace Go.Proofs.Ytmcamadcoglodaa
open Go.RowKit
section
variable {α : Type} {sz : Nat} {enc : α → List Value}
theorem flatMap_take (hs : Sized sz enc) : ∀ (l : List α) (k : Nat), (l.take k).flatMap enc = (l.flatMap enc).take (k * sz)
  | [], k => by simp
  | x :: l, 0 => by simp
  | x :: l, k + 1 => by
    rw [List.take_succ_cons, List.flatMap_cons, List.flatMap_cons, List.take_append, (hs.2 x).1, flatMap_take hs l k, List.take_of_length_le (l := enc x) (i := (k + 1) * sz) (by rw [(hs.2 x).1, Nat.add_mul]; omega), show (k + 1) * sz - sz = k * sz by rw [Nat.add_mul]; omega]
theorem flatMap_drop (hs : Sized sz enc) : ∀ (l : List α) (k : Nat), (l.drop k).flatMap enc = (l.flatMap enc).drop (k * sz)
  | [], k => by simp
  | x :: l, 0 => by simp
  | x :: l, k + 1 => by
    rw [List.drop_succ_cons, List.flatMap_cons, List.drop_append, (hs.2 x).1, flatMap_drop hs l k, List.drop_eq_nil_of_le (as := enc x) (by rw [(hs.2 x).1, Nat.add_mul]; omega), show (k + 1) * sz - sz = k * sz by rw [Nat.add_mul]; omega, List.nil_append]
theorem grown_row (w : World) (g : Nat) (cs : Array Value) : w.grownBy (w.setRow g cs) (some g) :=
  ⟨rfl, rfl, rfl, by simp [World.setRow], fun i _ hne => setRow_other w g i cs (fun e => hne (by rw [e]))⟩

variable {P : Program} {w : World}
theorem run_cp (hs : Sized sz enc) {base : Nat} {e dT sT ty : TypeId} {i : TypeInfo} (hu : P.underlying dT = some (.slice e)) (hi : P.info? e = some i) (hsz : i.size = sz)
    {g n cap : Nat} {l : List α} (hown : Own sz enc w base e (.slice (some ⟨g, 0, none⟩) n cap) l) (hln : l.length = n)
    (dp : Option Addr) (dLen dCap k m : Nat) (B : Nat) (A : Option Addr) (sLen c : Nat) (l2 : List α) (hr : Rd sz (flat enc) w B A sLen c l2) (hm : m = Nat.min sLen dLen) (hfit : k + m ≤ n)
    (hd : dp = some ⟨g, k * sz, none⟩ ∨ m = 0 ∧ ∃ o, dp = some ⟨g, o, none⟩) :
    ∃ w', (Builtin.copy_ #[dT, sT] ty #[.slice dp dLen dCap, .slice A sLen c]).run P w = .ok (goInt m) w' ∧ Own sz enc w' base e (.slice (some ⟨g, 0, none⟩) n cap) (l.take k ++ l2.take m ++ l.drop (k + m)) ∧ w.grownBy w' (some g) := by
  have hkm : (k + m) * sz = k * sz + m * sz := Nat.add_mul _ _ _
  have hle : (k + m) * sz ≤ n * sz := Nat.mul_le_mul_right sz hfit
  have hl2 := hr.len
  have hms : m ≤ sLen := by rw [hm]; exact Nat.min_le_left _ _
  rcases hown.2 with ⟨h, _⟩ | ⟨g', cap', cur, hv, hg, hh, hnc, hcm, hcs, htake⟩
  · cases h
  · injection hv with e1 e2 e3
    injection e1 with e1
    injection e1 with e1
    subst e1 e3
    rw [hln] at hnc htake
    by_cases h0 : m = 0
    · refine ⟨w, ?_, ?_, World.grownBy.refl w _⟩
      · obtain ⟨o, ho⟩ : ∃ o, dp = some ⟨g, o, none⟩ := by
          rcases hd with h | ⟨_, h⟩
          · exact ⟨_, h⟩
          · exact h
        subst ho
        have hn0 : Nat.min sLen dLen = 0 := by omega
        rcases A with _ | ad
        · simp [Builtin.copy_, run_underlying hu, Builtin.lenOf, Builtin.firstCells, sizeOf, typeInfo, hi, hn0, h0, storeCells]
        · simp [Builtin.copy_, run_underlying hu, Builtin.lenOf, Builtin.firstCells, sizeOf, typeInfo, hi, hn0, h0, storeCells, loadCells, loadCellsFrom]
      · subst h0
        simpa using hown
    · have hdp : dp = some ⟨g, k * sz, none⟩ := by
        rcases hd with h | ⟨h, _⟩
        · exact h
        · exact absurd h h0
      subst hdp
      obtain ⟨b, off, rfl, hb, hc⟩ := hr.cells hs (by omega)
      have hlen : ((l2.take m).flatMap enc).length = m * sz := by rw [flatMap_len hs, List.length_take]; congr 1; omega
      have hfitc : k * sz + ((l2.take m).flatMap enc).length ≤ cur.size := by
        have := Nat.mul_le_mul_right sz hnc
        omega
      have hld := run_loadCells_list (P := P) w ⟨b, off, none⟩ ((l2.take m).flatMap enc) (fun j v hj => by
        have h1 : (l2.flatMap enc)[j]? = some v := by
          rw [flatMap_take hs, List.getElem?_take] at hj
          split at hj
          · exact hj
          · cases hj
        have h2 := hc j v h1
        have e : (⟨b, off, none⟩ : Addr).add j = ⟨b, off + j, none⟩ := by
          unfold Addr.add
          split
          · rename_i h0; rw [h0]; rfl
          · rfl
        rw [e]; exact h2)
      have hst := run_storeCells_at P g (k * sz) e ((l2.take m).flatMap enc) 0 cur w hh (by simpa using hfitc) (fun u hu => by
        obtain ⟨x, _, hx⟩ := List.mem_flatMap.1 hu; exact (hs.2 x).2 u hx)
      rw [hlen] at hld
      rw [Nat.add_zero] at hst
      refine ⟨w.setRow g (cur.toList.take (k * sz) ++ (l2.take m).flatMap enc ++ cur.toList.drop (k * sz + ((l2.take m).flatMap enc).length)).toArray, ?_, ?_, grown_row w g _⟩
      · simp [Builtin.copy_, run_underlying hu, Builtin.lenOf, Builtin.firstCells, sizeOf, typeInfo, hi, hsz, ← hm, hld, hst]
      · have hnew : (cur.toList.take (k * sz) ++ (l2.take m).flatMap enc ++ cur.toList.drop (k * sz + ((l2.take m).flatMap enc).length)).take (n * sz) = (l.take k ++ l2.take m ++ l.drop (k + m)).flatMap enc := by
          have h1 : (cur.toList.take (k * sz)).length = k * sz := by rw [List.length_take, Array.length_toList]; omega
          rw [List.flatMap_append, List.flatMap_append, flatMap_take hs l k, flatMap_drop hs l (k + m), ← htake, List.take_take, Nat.min_eq_left (by omega : k * sz ≤ n * sz), List.drop_take, hlen, ← hkm]
          rw [List.take_append, List.length_append, h1, hlen, ← hkm, List.take_of_length_le (l := _ ++ _) (by rw [List.length_append, h1, hlen]; omega)]
        have hlnew : (l.take k ++ l2.take m ++ l.drop (k + m)).length = n := by
          rw [List.length_append, List.length_append, List.length_take, List.length_take, List.length_drop, hln, hl2]; omega
        refine ⟨flatMap_len hs _, .inr ⟨g, cap, _, by rw [hlnew], hg, setRow_heap w g cur _ e _ hh, by rw [hlnew]; exact hnc, hcm, ?_, by rw [hlnew]; exact hnew⟩⟩
        simp only [List.size_toArray, List.length_append, List.length_take, List.length_drop, Array.length_toList, hlen]
        omega

theorem wpList_cp (w : World) (hs : Sized sz enc) {ops : Array Oper} {rest : List Oper} {o : Oper} {a : Act} {Q : Exit → Act → World → Prop} (hgd : o.guard = none) (d s : Operand) (dT sT : TypeId)
    (ho : o.op = .call { callee := .builtin .copy, args := #[d, s], argTypes := #[dT, sT] })
    {base : Nat} {e : TypeId} {i : TypeInfo} (hu : P.underlying dT = some (.slice e)) (hi : P.info? e = some i) (hsz : i.size = sz)
    {g n cap : Nat} {l : List α} (hown : Own sz enc w base e (.slice (some ⟨g, 0, none⟩) n cap) l) (hln : l.length = n)
    (dp : Option Addr) (dLen dCap k m : Nat) (hdv : a.eval d = .slice dp dLen dCap) (B : Nat) (A : Option Addr) (sLen c : Nat) (l2 : List α) (hsv : a.eval s = .slice A sLen c) (hr : Rd sz (flat enc) w B A sLen c l2) (hm : m = Nat.min sLen dLen) (hfit : k + m ≤ n)
    (hd : dp = some ⟨g, k * sz, none⟩ ∨ m = 0 ∧ ∃ o, dp = some ⟨g, o, none⟩)
    (h : ∀ w', Own sz enc w' base e (.slice (some ⟨g, 0, none⟩) n cap) (l.take k ++ l2.take m ++ l.drop (k + m)) → w.grownBy w' (some g) → wpList P ops Q rest (a.put o.dst (goInt m)) w') : wpList P ops Q (o :: rest) a w := by
  refine wpList_plain hgd fun _ hK => ?_
  obtain ⟨w', hrun, h2, h3⟩ := run_cp (P := P) (w := w) (ty := o.type) (sT := sT) hs hu hi hsz hown hln dp dLen dCap k m B A sLen c l2 hr hm hfit hd
  unfold Oper.wp execOp
  simp only [ho, resolve, invoke, builtin, Sem.run_bind, Sem.run_pure, Result.andThen_ok, List.map_toArray, List.map_cons, List.map_nil, hdv, hsv, hrun]
  exact hK _ _ (h w' h2 h3)
theorem step_cp (w : World) (hs : Sized sz enc) {ops : Array Oper} {o : Oper} {a : Act} {K : Act → World → Prop} {Q : Exit → Act → World → Prop} {E : Prop} (hgd : o.guard = none) (d s : Operand) (dT sT : TypeId)
    (ho : o.op = .call { callee := .builtin .copy, args := #[d, s], argTypes := #[dT, sT] })
    {base : Nat} {e : TypeId} {i : TypeInfo} (hu : P.underlying dT = some (.slice e)) (hi : P.info? e = some i) (hsz : i.size = sz)
    {g n cap : Nat} {l : List α} (hown : Own sz enc w base e (.slice (some ⟨g, 0, none⟩) n cap) l) (hln : l.length = n)
    (dp : Option Addr) (dLen dCap k m : Nat) (hdv : a.eval d = .slice dp dLen dCap) (B : Nat) (A : Option Addr) (sLen c : Nat) (l2 : List α) (hsv : a.eval s = .slice A sLen c) (hr : Rd sz (flat enc) w B A sLen c l2) (hm : m = Nat.min sLen dLen) (hfit : k + m ≤ n)
    (hd : dp = some ⟨g, k * sz, none⟩ ∨ m = 0 ∧ ∃ o, dp = some ⟨g, o, none⟩)
    (h : ∀ w', Own sz enc w' base e (.slice (some ⟨g, 0, none⟩) n cap) (l.take k ++ l2.take m ++ l.drop (k + m)) → w.grownBy w' (some g) → K (a.put o.dst (goInt m)) w') : 
    if Region.wanted o (yielded ops a.tmps) = true then Oper.wp P o a w K Q else E := by
  have hw : Region.wanted o (yielded ops a.tmps) = true := by simp [Region.wanted, hgd]
  rw [if_pos hw]
  obtain ⟨w', hrun, h2, h3⟩ := run_cp (P := P) (w := w) (ty := o.type) (sT := sT) hs hu hi hsz hown hln dp dLen dCap k m B A sLen c l2 hr hm hfit hd
  unfold Oper.wp execOp
  simp only [ho, resolve, invoke, builtin, Sem.run_bind, Sem.run_pure, Result.andThen_ok, List.map_toArray, List.map_cons, List.map_nil, hdv, hsv, hrun]
  exact h w' h2 h3
end
end Go.Proofs.Ytmcamadcoglodaa
