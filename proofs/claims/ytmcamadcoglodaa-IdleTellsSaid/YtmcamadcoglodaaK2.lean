/- Words for memory: what prices of package idle keeps in its rows and cells. No condition. -/
import Derived.Test.YtmcamadcoglodaaK1
namespace Go.Proofs.Ytmcamadcoglodaa
open Go.RowKit
set_option linter.unusedVariables false

def hLen (n m : Nat) : Nat → Nat
  | 0 => n + 1
  | 1 => m + 1
  | 2 => n + 1
  | 3 => n + 1
  | 10 => 3
  | 11 => n + 1
  | 12 => n + 1
  | _ => 1
def hTy : Nat → TypeId
  | 4 => 3
  | 5 => 22
  | 6 => 23
  | 7 => 23
  | 8 => 23
  | 9 => 23
  | 10 => 25
  | 12 => 4
  | 13 => 23
  | 14 => 66
  | _ => 3
/-- owner, rows, cols, way; n, costs, and the cells of the four; least, done, and their cells; at -/
def hF (n m : Nat) (hd : Iw) (b : Nat → Nat) (O W : Nat → Nat) (U V L : Nat → Int) (D : Nat → Bool) (at' : Nat) : Nat → Nat → Cv
  | 0 => fun k => .inl (O k)
  | 1 => fun k => .inl (U k)
  | 2 => fun k => .inl (V k)
  | 3 => fun k => .inl (W k)
  | 4 => fun _ => .inl n
  | 5 => fun _ => .inr (.inr hd)
  | 6 => fun _ => .inr (.inr (some ⟨b 0, 0, none⟩, n + 1, n + 1))
  | 7 => fun _ => .inr (.inr (some ⟨b 1, 0, none⟩, m + 1, m + 1))
  | 8 => fun _ => .inr (.inr (some ⟨b 2, 0, none⟩, n + 1, n + 1))
  | 9 => fun _ => .inr (.inr (some ⟨b 3, 0, none⟩, n + 1, n + 1))
  | 10 => fun _ => .inr (.inr (none, 0, 0))
  | 11 => fun k => .inl (L k)
  | 12 => fun k => .inr (.inl (D k))
  | 13 => fun _ => .inr (.inr (some ⟨b 11, 0, none⟩, n + 1, n + 1))
  | 14 => fun _ => .inr (.inr (some ⟨b 12, 0, none⟩, n + 1, n + 1))
  | _ => fun _ => .inl at'
abbrev HS (w : World) (base N n m : Nat) (hd : Iw) (b : Nat → Nat) (O W : Nat → Nat) (U V L : Nat → Int) (D : Nat → Bool) (at' : Nat) : Prop := HM w base N b (hLen n m) hTy (hF n m hd b O W U V L D at')
section
variable {w : World} {base N n m : Nat} {hd : Iw} {b : Nat → Nat} {O W : Nat → Nat} {U V L : Nat → Int} {D : Nat → Bool} {at' : Nat}
theorem HS.drewN (h : HS w base N n m hd b O W U V L D at') (q : Nat) : HS (w.drewN q) base N n m hd b O W U V L D at' := HM.drewN h q
theorem HS.drew (h : HS w base N n m hd b O W U V L D at') : HS w.drew base N n m hd b O W U V L D at' := HM.drew h
theorem HS.cO (h : HS w base N n m hd b O W U V L D at') (hN : 11 ≤ N ∧ N ≤ 16) {k : Nat} (hk : k ≤ n) : w.cell? ⟨b 0, k, none⟩ = some (.int .i64 (O k)) ∧ w.frozen? ⟨b 0, k, none⟩ = false := h.at_ (a := 0) (by omega) (show k < n + 1 by omega)
theorem HS.cU (h : HS w base N n m hd b O W U V L D at') (hN : 11 ≤ N ∧ N ≤ 16) {k : Nat} (hk : k ≤ m) : w.cell? ⟨b 1, k, none⟩ = some (.int .i64 (U k)) ∧ w.frozen? ⟨b 1, k, none⟩ = false := h.at_ (a := 1) (by omega) (show k < m + 1 by omega)
theorem HS.cV (h : HS w base N n m hd b O W U V L D at') (hN : 11 ≤ N ∧ N ≤ 16) {k : Nat} (hk : k ≤ n) : w.cell? ⟨b 2, k, none⟩ = some (.int .i64 (V k)) ∧ w.frozen? ⟨b 2, k, none⟩ = false := h.at_ (a := 2) (by omega) (show k < n + 1 by omega)
theorem HS.cW (h : HS w base N n m hd b O W U V L D at') (hN : 11 ≤ N ∧ N ≤ 16) {k : Nat} (hk : k ≤ n) : w.cell? ⟨b 3, k, none⟩ = some (.int .i64 (W k)) ∧ w.frozen? ⟨b 3, k, none⟩ = false := h.at_ (a := 3) (by omega) (show k < n + 1 by omega)
theorem HS.cL (h : HS w base N n m hd b O W U V L D at') (hN : N = 16) {k : Nat} (hk : k ≤ n) : w.cell? ⟨b 11, k, none⟩ = some (.int .i64 (L k)) ∧ w.frozen? ⟨b 11, k, none⟩ = false := h.at_ (a := 11) (by omega) (show k < n + 1 by omega)
theorem HS.cD (h : HS w base N n m hd b O W U V L D at') (hN : N = 16) {k : Nat} (hk : k ≤ n) : w.cell? ⟨b 12, k, none⟩ = some (.bool (D k)) ∧ w.frozen? ⟨b 12, k, none⟩ = false := h.at_ (a := 12) (by omega) (show k < n + 1 by omega)
theorem HS.vars (h : HS w base N n m hd b O W U V L D at') (hN : 11 ≤ N ∧ N ≤ 16) : w.cell? ⟨b 4, 0, none⟩ = some (.int .i64 n) ∧ w.cell? ⟨b 5, 0, none⟩ = some (.slice hd.1 hd.2.1 hd.2.2) ∧
    w.cell? ⟨b 6, 0, none⟩ = some (.slice (some ⟨b 0, 0, none⟩) (n + 1) (n + 1)) ∧ w.cell? ⟨b 7, 0, none⟩ = some (.slice (some ⟨b 1, 0, none⟩) (m + 1) (m + 1)) ∧
    w.cell? ⟨b 8, 0, none⟩ = some (.slice (some ⟨b 2, 0, none⟩) (n + 1) (n + 1)) ∧ w.cell? ⟨b 9, 0, none⟩ = some (.slice (some ⟨b 3, 0, none⟩) (n + 1) (n + 1)) :=
  ⟨(h.at_ (a := 4) (by omega) (show 0 < 1 by omega)).1, (h.at_ (a := 5) (by omega) (show 0 < 1 by omega)).1, (h.at_ (a := 6) (by omega) (show 0 < 1 by omega)).1, (h.at_ (a := 7) (by omega) (show 0 < 1 by omega)).1, (h.at_ (a := 8) (by omega) (show 0 < 1 by omega)).1, (h.at_ (a := 9) (by omega) (show 0 < 1 by omega)).1⟩
theorem HS.vars2 (h : HS w base N n m hd b O W U V L D at') (hN : N = 16) : w.cell? ⟨b 13, 0, none⟩ = some (.slice (some ⟨b 11, 0, none⟩) (n + 1) (n + 1)) ∧ w.cell? ⟨b 14, 0, none⟩ = some (.slice (some ⟨b 12, 0, none⟩) (n + 1) (n + 1)) ∧
    w.cell? ⟨b 15, 0, none⟩ = some (.int .i64 at') ∧ w.frozen? ⟨b 15, 0, none⟩ = false :=
  ⟨(h.at_ (a := 13) (by omega) (show 0 < 1 by omega)).1, (h.at_ (a := 14) (by omega) (show 0 < 1 by omega)).1, (h.at_ (a := 15) (by omega) (show 0 < 1 by omega)).1, (h.at_ (a := 15) (by omega) (show 0 < 1 by omega)).2⟩
theorem HS.setO (h : HS w base N n m hd b O W U V L D at') (hN : 11 ≤ N ∧ N ≤ 16) {k : Nat} (hk : k ≤ n) (x : Nat) : HS (w.setCell ⟨b 0, k, none⟩ (.int .i64 x)) base N n m hd b (fun j => if j = k then x else O j) W U V L D at' :=
  (h.set (a := 0) (by omega) (show k < n + 1 by omega) (.inl (x : Int))).1.congr fun a j ha hj => by
    by_cases e : a = 0
    · subst e
      by_cases e2 : j = k
      · rw [if_pos ⟨rfl, e2⟩]; simp [hF, e2]
      · rw [if_neg (fun q => e2 q.2)]; simp [hF, e2]
    · rw [if_neg (fun q => e q.1)]
      have h15 : a = 1 ∨ a = 2 ∨ a = 3 ∨ a = 4 ∨ a = 5 ∨ a = 6 ∨ a = 7 ∨ a = 8 ∨ a = 9 ∨ a = 10 ∨ a = 11 ∨ a = 12 ∨ a = 13 ∨ a = 14 ∨ a = 15 := by omega
      rcases h15 with rfl | rfl | rfl | rfl | rfl | rfl | rfl | rfl | rfl | rfl | rfl | rfl | rfl | rfl | rfl <;> rfl
theorem HS.setW (h : HS w base N n m hd b O W U V L D at') (hN : 11 ≤ N ∧ N ≤ 16) {k : Nat} (hk : k ≤ n) (x : Nat) : HS (w.setCell ⟨b 3, k, none⟩ (.int .i64 x)) base N n m hd b O (fun j => if j = k then x else W j) U V L D at' :=
  (h.set (a := 3) (by omega) (show k < n + 1 by omega) (.inl (x : Int))).1.congr fun a j ha hj => by
    by_cases e : a = 3
    · subst e
      by_cases e2 : j = k
      · rw [if_pos ⟨rfl, e2⟩]; simp [hF, e2]
      · rw [if_neg (fun q => e2 q.2)]; simp [hF, e2]
    · rw [if_neg (fun q => e q.1)]
      have h15 : a = 0 ∨ a = 1 ∨ a = 2 ∨ a = 4 ∨ a = 5 ∨ a = 6 ∨ a = 7 ∨ a = 8 ∨ a = 9 ∨ a = 10 ∨ a = 11 ∨ a = 12 ∨ a = 13 ∨ a = 14 ∨ a = 15 := by omega
      rcases h15 with rfl | rfl | rfl | rfl | rfl | rfl | rfl | rfl | rfl | rfl | rfl | rfl | rfl | rfl | rfl <;> rfl
theorem HS.setU (h : HS w base N n m hd b O W U V L D at') (hN : 11 ≤ N ∧ N ≤ 16) {k : Nat} (hk : k ≤ m) (x : Int) : HS (w.setCell ⟨b 1, k, none⟩ (.int .i64 x)) base N n m hd b O W (fun j => if j = k then x else U j) V L D at' :=
  (h.set (a := 1) (by omega) (show k < m + 1 by omega) (.inl x)).1.congr fun a j ha hj => by
    by_cases e : a = 1
    · subst e
      by_cases e2 : j = k
      · rw [if_pos ⟨rfl, e2⟩]; simp [hF, e2]
      · rw [if_neg (fun q => e2 q.2)]; simp [hF, e2]
    · rw [if_neg (fun q => e q.1)]
      have h15 : a = 0 ∨ a = 2 ∨ a = 3 ∨ a = 4 ∨ a = 5 ∨ a = 6 ∨ a = 7 ∨ a = 8 ∨ a = 9 ∨ a = 10 ∨ a = 11 ∨ a = 12 ∨ a = 13 ∨ a = 14 ∨ a = 15 := by omega
      rcases h15 with rfl | rfl | rfl | rfl | rfl | rfl | rfl | rfl | rfl | rfl | rfl | rfl | rfl | rfl | rfl <;> rfl
theorem HS.setV (h : HS w base N n m hd b O W U V L D at') (hN : 11 ≤ N ∧ N ≤ 16) {k : Nat} (hk : k ≤ n) (x : Int) : HS (w.setCell ⟨b 2, k, none⟩ (.int .i64 x)) base N n m hd b O W U (fun j => if j = k then x else V j) L D at' :=
  (h.set (a := 2) (by omega) (show k < n + 1 by omega) (.inl x)).1.congr fun a j ha hj => by
    by_cases e : a = 2
    · subst e
      by_cases e2 : j = k
      · rw [if_pos ⟨rfl, e2⟩]; simp [hF, e2]
      · rw [if_neg (fun q => e2 q.2)]; simp [hF, e2]
    · rw [if_neg (fun q => e q.1)]
      have h15 : a = 0 ∨ a = 1 ∨ a = 3 ∨ a = 4 ∨ a = 5 ∨ a = 6 ∨ a = 7 ∨ a = 8 ∨ a = 9 ∨ a = 10 ∨ a = 11 ∨ a = 12 ∨ a = 13 ∨ a = 14 ∨ a = 15 := by omega
      rcases h15 with rfl | rfl | rfl | rfl | rfl | rfl | rfl | rfl | rfl | rfl | rfl | rfl | rfl | rfl | rfl <;> rfl
theorem HS.setL (h : HS w base N n m hd b O W U V L D at') (hN : N = 16) {k : Nat} (hk : k ≤ n) (x : Int) : HS (w.setCell ⟨b 11, k, none⟩ (.int .i64 x)) base N n m hd b O W U V (fun j => if j = k then x else L j) D at' :=
  (h.set (a := 11) (by omega) (show k < n + 1 by omega) (.inl x)).1.congr fun a j ha hj => by
    by_cases e : a = 11
    · subst e
      by_cases e2 : j = k
      · rw [if_pos ⟨rfl, e2⟩]; simp [hF, e2]
      · rw [if_neg (fun q => e2 q.2)]; simp [hF, e2]
    · rw [if_neg (fun q => e q.1)]
      have h15 : a = 0 ∨ a = 1 ∨ a = 2 ∨ a = 3 ∨ a = 4 ∨ a = 5 ∨ a = 6 ∨ a = 7 ∨ a = 8 ∨ a = 9 ∨ a = 10 ∨ a = 12 ∨ a = 13 ∨ a = 14 ∨ a = 15 := by omega
      rcases h15 with rfl | rfl | rfl | rfl | rfl | rfl | rfl | rfl | rfl | rfl | rfl | rfl | rfl | rfl | rfl <;> rfl
theorem HS.setD (h : HS w base N n m hd b O W U V L D at') (hN : N = 16) {k : Nat} (hk : k ≤ n) : HS (w.setCell ⟨b 12, k, none⟩ (.bool true)) base N n m hd b O W U V L (mark D k) at' :=
  (h.set (a := 12) (by omega) (show k < n + 1 by omega) (.inr (.inl true))).1.congr fun a j ha hj => by
    by_cases e : a = 12
    · subst e
      by_cases e2 : j = k
      · rw [if_pos ⟨rfl, e2⟩]; simp [hF, mark, e2]
      · rw [if_neg (fun q => e2 q.2)]; simp [hF, mark, e2]
    · rw [if_neg (fun q => e q.1)]
      have h15 : a = 0 ∨ a = 1 ∨ a = 2 ∨ a = 3 ∨ a = 4 ∨ a = 5 ∨ a = 6 ∨ a = 7 ∨ a = 8 ∨ a = 9 ∨ a = 10 ∨ a = 11 ∨ a = 13 ∨ a = 14 ∨ a = 15 := by omega
      rcases h15 with rfl | rfl | rfl | rfl | rfl | rfl | rfl | rfl | rfl | rfl | rfl | rfl | rfl | rfl | rfl <;> rfl
theorem HS.setA (h : HS w base N n m hd b O W U V L D at') (hN : N = 16) (x : Nat) : HS (w.setCell ⟨b 15, 0, none⟩ (.int .i64 x)) base N n m hd b O W U V L D x :=
  (h.set (a := 15) (by omega) (show 0 < 1 by omega) (.inl (x : Int))).1.congr fun a j ha hj => by
    by_cases e : a = 15
    · subst e
      have : j < 1 := hj
      rw [if_pos ⟨rfl, by omega⟩]
      rfl
    · rw [if_neg (fun q => e q.1)]
      have h15 : a = 0 ∨ a = 1 ∨ a = 2 ∨ a = 3 ∨ a = 4 ∨ a = 5 ∨ a = 6 ∨ a = 7 ∨ a = 8 ∨ a = 9 ∨ a = 10 ∨ a = 11 ∨ a = 12 ∨ a = 13 ∨ a = 14 := by omega
      rcases h15 with rfl | rfl | rfl | rfl | rfl | rfl | rfl | rfl | rfl | rfl | rfl | rfl | rfl | rfl | rfl <;> rfl
theorem HS.kept (h : HS w base N n m hd b O W U V L D at') {a k : Nat} (ha : a < N) (hk : k < hLen n m a) (x : Cv) : ∀ B w0, B ≤ base → Below B w0 w → Below B w0 (w.setCell ⟨b a, k, none⟩ (Go.Proofs.Ytmcamadcoglodaa.cV x)) := (h.set ha hk x).2
end
section
variable {P : Program} {ops : Array Oper} {rest : List Oper} {o : Oper} {a : Act} {Q : Exit → Act → World → Prop}
theorem run_storeVar_one (w : World) (p : Addr) (ty : TypeId) (v old : Value) (hc : w.cell? p = some old) (hf : w.frozen? p = false) (hv : v.oneCell' = true) (hi : (P.info? ty).map (·.size) = some 1) : (storeVar ty p v).run P w = .ok () (w.setCell p v) := by
  cases hq : P.info? ty with
  | none => simp [hq] at hi
  | some i =>
    have hs : i.size = 1 := by simpa [hq] using hi
    have hcs : v.cells = #[v] := by cases v <;> first | rfl | (simp [Value.oneCell'] at hv)
    have h0 : p.add 0 = p := by simp [Addr.add]
    have h3 : (store p v).run P w = .ok () (w.setCell p v) := by rw [run_store P w p v _ hv, hc]; simp [hf]
    simp [storeVar, sizeOf, typeInfo, hq, hcs, hs, storeCells]
    rw [h0, h3]
/-- a store of one cell: the world after it is a letter -/
theorem wpList_st {w : World} (hgd : o.guard = none) (ty : TypeId) (x y : Operand) (ho : o.op = .store ty x y) (p : Addr) (v : Value) (hx : a.eval x = .pointer (some p)) (hy : a.eval y = v) (hv : v.oneCell' = true) (hi : (P.info? ty).map (·.size) = some 1)
    {old : Value} (hc : w.cell? p = some old) (hf : w.frozen? p = false) (h : ∀ w', w' = w.setCell p v → wpList P ops Q rest (a.put o.dst undef) w') : wpList P ops Q (o :: rest) a w := by
  refine wpList_plain hgd fun _ hK => ?_
  unfold Oper.wp execOp
  simp only [ho, hx, hy, Instr.storeAt, Instr.sureAddr, Sem.run_bind, Sem.run_pure, Result.andThen_ok, run_storeVar_one w p ty v old hc hf hv hi]
  exact hK _ _ (h _ rfl)
end
theorem bool_info : (Try.prog.info? 4).map (fun i => (i.zero, i.size, i.bytes)) = some (some (.bool false), 1, 1) := by kernel_rfl
theorem bool_size : (Try.prog.info? 4).map (·.size) = some 1 := by kernel_rfl
theorem int_size : (Try.prog.info? 3).map (·.size) = some 1 := by kernel_rfl
end Go.Proofs.Ytmcamadcoglodaa
