/- Laws and walks laid together; the conditions stand in each theorem. -/
import Derived.WalkKit
import Derived.Laws.OwnMore
import Derived.Deep.Draws
import Derived.Deep.AppendLies
import Derived.Lib.Hide
import Derived.ProofKit
import Derived.OpenShut
import Derived.ShutString
import Derived.ChangeOld
import Derived.Below
import Derived.SizedLaws
import Derived.Deep.SlicePairs
import Derived.Deep.Slices
import Derived.ChangeSame
import Derived.Maps.AppendAt
import Derived.RegionTactic
import Derived.OwnWalk
import Derived.Laws.CopyRow
import Derived.Laws.CopyOwn
import Derived.Deep.RegionHeld3
import Derived.Test.YtdlcglndhhndpaaProg
import Derived.LoopTactic
import Derived.Deep.QuietTactic
import Derived.BigQuiet
import Derived.Deep.LoopGhost
import Derived.IntWalk
import Derived.Handy
import Derived.Shelf.Abstract
import Derived.Lib.MinMax
import Derived.ArgAppend
import Derived.Laws.BitsLemmas
import Derived.Laws.BitsAllLaws
import Derived.Lib.LazyBuf
import Derived.Outline
import Derived.OrdersHeld
import Derived.BigRegion
import Derived.Maps.RangeWalk
import Derived.Deep.CutRange
import Derived.Deep.CutBlock
import Derived.Test.YtdlcglndhhndpaaS03
import Derived.Test.YtdlcglndhhndpaaS01
import Derived.Test.YtdlcglndhhndpaaT41
import Derived.Test.YtdlcglndhhndpaaT42
import Derived.Test.YtdlcglndhhndpaaT40
import Derived.Test.YtdlcglndhhndpaaT33
set_option linter.unusedSimpArgs false
set_option linter.unusedVariables false
namespace Go.Proofs.Ytdlcglndhhndpaa
open Go.RowKit
section
variable {P : Program} {o : Oper} {a : Act} {KK : Act → World → Prop} {Q : Exit → Act → World → Prop} {w W : World} {L L' X : List Blk} {D : List Hl}
theorem St.appWOp {α : Type} {sz : Nat} {enc : α → List Value} {e : TypeId} {v : Value} {l : List α} (K : St w (X ++ L) D W) (ho : OwL sz enc e v l X) (hs : Sized sz enc) (s x : Operand) (t : TypeId)
    (hop : o.op = .call { callee := .builtin .append, args := #[s, x], argTypes := #[t, t] }) (z : Array Value) (bytes : Nat) (ht : P.underlying t = some (.slice e)) (hi : (P.info? e).map (fun i => (i.zero.map (·.cells), i.size, i.bytes)) = some (some z, sz, bytes)) (hz : z.size = sz)
    (hv : a.eval s = v) (A : Option Addr) (n cap : Nat) (l2 : List α) (hx : a.eval x = .slice A n cap) (hr : Rd sz (flat enc) W W.heap.size A n cap l2) (hlen : l.length + n ≤ 1000000) (hbb : bytes ≤ 1000)
    (h : ∀ v' X' W', OwL sz enc e v' (l ++ l2) X' → St w (X' ++ L) D W' → KK (a.put o.dst v') W') : o.wp P a W KK Q := by
  obtain ⟨i, h1, h2⟩ := Option.map_eq_some_iff.1 hi
  simp only [Prod.mk.injEq] at h2
  obtain ⟨h2, h3, h4⟩ := h2
  obtain ⟨zv, h5, h6⟩ := Option.map_eq_some_iff.1 h2
  have hbyt : (l.length + n) * bytes ≤ 1000000 * 1000 := Nat.mul_le_mul hlen hbb
  obtain ⟨v', W', hrun, g1, g2, g3⟩ := run_app (P := P) W hs w.heap.size t o.type e i zv bytes ht h1 h5 h3 h4 (by rw [h6, hz]) v l (ho.own hs K) W.heap.size A n cap l2 hr (by unfold maxLen; omega) (by omega) K.1.size
  obtain ⟨X', hX, K'⟩ := ho.of hs K g1 (grown_kept g2) (fun g hg => by
    rcases g3 with g3 | g3
    · exact Or.inl (g3 ▸ hg)
    · rw [g3] at hg
      injection hg with hg
      right
      omega)
  unfold Oper.wp execOp
  simp only [hop, resolve, invoke, builtin, Sem.run_bind, Sem.run_pure, Result.andThen_ok, List.map_toArray, List.map_cons, List.map_nil, hv, hx, hrun]
  exact h v' X' W' hX K'
theorem St.setOpV (K : St w L D W) (hd : o.dst = none) (ty : TypeId) (x y : Operand) (ho : o.op = .store ty x y) {b off : Nat} {cs cs' : Array Value} {t : TypeId} (u : Value) (vs : List Value) (hx : a.eval x = .pointer (some ⟨b, off, none⟩)) (hy : a.eval y = u) (hvs : u.cells.toList = vs)
    (hU : Upd b cs t cs' L L') (hcs : spl cs off vs = cs') (hi : (P.info? ty).map (·.size) = some vs.length) (hfit : off + vs.length ≤ cs.size) (h1 : ∀ z ∈ vs, z.oneCell' = true) (h : ∀ W', St w L' D W' → KK a W') : o.wp P a W KK Q := by
  subst hvs
  have hn : u.cells.toList.length = u.cells.size := by simp
  rw [hn] at hi hfit
  obtain ⟨W', r1, r2, r3⟩ := run_storeVar_any (P := P) (off := off) ty u (K.blk hU.mem) hi hfit h1
  rw [hcs] at r2
  unfold Oper.wp execOp
  simp only [ho, hx, hy, Instr.storeAt, Instr.sureAddr, Sem.run_bind, Sem.run_pure, Result.andThen_ok, r1]
  have := h W' (K.upd hU r3 r2)
  have e : a.put o.dst undef = a := by rw [hd]; rfl
  first | exact this | (rw [e]; exact this) | (simp only [Oper.upon]; first | exact this | (rw [e]; exact this))
theorem St.setOpA (K : St w L D W) (hd : o.dst = none) (ty : TypeId) (x y : Operand) (ho : o.op = .store ty x y) {b : Nat} {cs cs' : Array Value} {t : TypeId} (hx : a.eval x = .pointer (some ⟨b, 0, none⟩)) (hy : a.eval y = .agg cs')
    (hU : Upd b cs t cs' L L') {k : Nat} (hi : (P.info? ty).map (·.size) = some k) (hk : cs'.size = k) (hsz : cs'.size = cs.size) (h1 : cs'.toList.all (·.oneCell') = true) (h : ∀ W', St w L' D W' → KK a W') : o.wp P a W KK Q :=
  K.setOpV hd ty x y ho (.agg cs') cs'.toList hx hy rfl hU (spl_full hsz) (by rw [hi, ← hk]; simp) (by simp [hsz]) (fun u hu => List.all_eq_true.1 h1 u hu) h
theorem St.setOpR (K : St w L D W) (hd : o.dst = none) (ty : TypeId) (x y : Operand) (ho : o.op = .store ty x y) (g i N : Nat) {v : Nat → Rr} {J : List Value} {t : TypeId} (z : Rr)
    (hx : a.eval x = .pointer (some ⟨g, i * 5, none⟩)) (hy : a.eval y = .agg #[.slice z.A z.n z.c, .int .i64 z.y.s, .slice z.y.A z.y.n z.y.c, .int .i64 z.y.t, .slice z.y.B z.y.m z.y.d]) (hi : i < N) (hU : Upd g (recA Rr.cs N v J) t (recA Rr.cs N (putF v i z) J) L L') (hz : (P.info? ty).map (·.size) = some 5)
    (h : ∀ W', St w L' D W' → KK a W') : o.wp P a W KK Q :=
  K.setOpV hd ty x y ho _ z.cs hx hy rfl hU (recA_spl rr_sized hi z) hz (by
    rw [recA_size rr_sized]
    have := mul_step (sz := 5) hi
    show i * 5 + 5 ≤ _
    omega) (fun u hu => (rr_sized.2 z).2 u hu) h
end
section
variable {P : Program} {ops : Array Oper} {Q : Exit → Act → World → Prop} {md : Region.Mode} {S : World → Prop} {n : Nat}
theorem wpAnyT.tkC (i : Nat) {oi : Oper} {v : Value} {fuel : Nat} {listed : Array Bool} {a : Act} {w : World} {q : Prop} (hi : ops[i]? = some oi) (k : q) (hB : (decide (ops.size ≤ n) && Region.noSelect ops && Region.free md ops listed i && (Region.ready md ops listed).contains i) = true := by decide +kernel)
    (hQ : ∀ c a w, Q (.panic c) (a.put oi.dst v) w → Q (.panic c) a w := by exact fun _ _ _ h => h) (hy : YieldsIf P ops S oi v a := by (refine Or.inl ⟨by rfl, ?_⟩; intro w hSw; (try dsimp only at hSw); go_simp; try with_reducible rfl)) (hS : S w := by assumption) (h : q → wpAnyT P md ops Q S n fuel (listed.setIfInBounds i true) (a.put oi.dst v) w := by (intro hq; (try simp only [Act.put, List.getElem_toArray, List.getElem_cons_succ, List.getElem_cons_zero, List.setIfInBounds_toArray, List.set_cons_zero, List.set_cons_succ]); exact hq)) : wpAnyT P md ops Q S n (fuel + 1) listed a w :=
  wpAnyT.takeA hi hB hQ hy hS (h k)
theorem wpAnyT.on2 (i j : Nat) {oi oj : Oper} {fuel : Nat} {listed : Array Bool} {a : Act} {w : World} (hi : ops[i]? = some oi) (hj : ops[j]? = some oj)
    (h : ∀ K : Act → World → Prop, Hid (∀ a' w', S w' → (S w' → wpAnyT P md ops Q S n fuel (listed.setIfInBounds i true) a' w') → K a' w') → oi.wp P a w K Q)
    (h' : ∀ K : Act → World → Prop, Hid (∀ a' w', S w' → (S w' → wpAnyT P md ops Q S n fuel (listed.setIfInBounds j true) a' w') → K a' w') → oj.wp P a w K Q)
    (hg : oi.guard = none := by rfl) (hg' : oj.guard = none := by rfl) (hB : (decide (i ≠ n) && decide (j ≠ n) && decide (Region.ready md ops listed = [i, j])) = true := by kernel_rfl) : wpAnyT P md ops Q S n (fuel + 1) listed a w :=
  wpAnyT.two hi hj hg hg' hB h h'
theorem wpAnyT.on3 (i j k : Nat) {oi oj ok : Oper} {fuel : Nat} {listed : Array Bool} {a : Act} {w : World} (hi : ops[i]? = some oi) (hj : ops[j]? = some oj) (hk : ops[k]? = some ok)
    (h : ∀ K : Act → World → Prop, Hid (∀ a' w', S w' → (S w' → wpAnyT P md ops Q S n fuel (listed.setIfInBounds i true) a' w') → K a' w') → oi.wp P a w K Q)
    (h' : ∀ K : Act → World → Prop, Hid (∀ a' w', S w' → (S w' → wpAnyT P md ops Q S n fuel (listed.setIfInBounds j true) a' w') → K a' w') → oj.wp P a w K Q)
    (h'' : ∀ K : Act → World → Prop, Hid (∀ a' w', S w' → (S w' → wpAnyT P md ops Q S n fuel (listed.setIfInBounds k true) a' w') → K a' w') → ok.wp P a w K Q)
    (hg : oi.guard = none := by rfl) (hg' : oj.guard = none := by rfl) (hg'' : ok.guard = none := by rfl) (hB : (decide (i ≠ n) && decide (j ≠ n) && decide (k ≠ n) && decide (Region.ready md ops listed = [i, j, k])) = true := by kernel_rfl) : wpAnyT P md ops Q S n (fuel + 1) listed a w := by
  simp only [Bool.and_eq_true, decide_eq_true_eq] at hB
  refine ⟨(fun h0 => by rw [hB.2] at h0; cases h0), fun q hq => ?_⟩
  rw [hB.2] at hq
  have hw : ∀ o : Oper, o.guard = none → Region.wanted o (yielded ops a.tmps) = true := fun o hg => by simp [Region.wanted, hg]
  rcases List.mem_cons.1 hq with rfl | hq
  · unfold wpOp
    simp only [hi, hw oi hg, if_true]
    exact Or.inl (h _ (Lib.hid fun a' w' hS hW => ⟨fun _ => hS, hW hS⟩))
  rcases List.mem_cons.1 hq with rfl | hq
  · unfold wpOp
    simp only [hj, hw oj hg', if_true]
    exact Or.inl (h' _ (Lib.hid fun a' w' hS hW => ⟨fun _ => hS, hW hS⟩))
  · rw [List.mem_singleton] at hq
    subst hq
    unfold wpOp
    simp only [hk, hw ok hg'', if_true]
    exact Or.inl (h'' _ (Lib.hid fun a' w' hS hW => ⟨fun _ => hS, hW hS⟩))
end
theorem callCmpR {w0 W : World} {L : List Blk} {D : List Hl} {Y Z : Rw} {f q : Rat} (K : St w0 L D W) (hY : isQ Y f) (hZ : isQ Z q) (hle : f ≤ q) (m1 : (⟨rdP Y.A Y.n Y.c Y.l, rdS Y.A Y.n⟩ : Hl) ∈ D) (m2 : (⟨rdP Y.B Y.m Y.d Y.k, rdS Y.B Y.m⟩ : Hl) ∈ D) (m3 : (⟨rdP Z.A Z.n Z.c Z.l, rdS Z.A Z.n⟩ : Hl) ∈ D) (m4 : (⟨rdP Z.B Z.m Z.d Z.k, rdS Z.B Z.m⟩ : Hl) ∈ D) :
    Calls Try.prog 38 #[.agg #[.int .i64 Y.s, .slice Y.A Y.n Y.c, .int .i64 Y.t, .slice Y.B Y.m Y.d], .agg #[.int .i64 Z.s, .slice Z.A Z.n Z.c, .int .i64 Z.t, .slice Z.B Z.m Z.d]] W fun e W' => ∃ c : Int, e = .returned (.int .i64 c) ∧ Hid (c ≤ 0) ∧ St w0 L D W' := by
  have h := gCompare_any Y.s Y.t Z.s Z.t Y.A Y.B Z.A Z.B Y.n Y.c Y.m Y.d Z.n Z.c Z.m Z.d Y.l Y.k Z.l Z.k W (K.rd m1) (K.rd m2) (K.rd m3) (K.rd m4)
  rw [hY.1.right hY.2, hZ.1.right hZ.2, hY.1.rat, hZ.1.rat] at h
  exact h.mono fun e W' ⟨he, hb⟩ => ⟨_, he, Lib.hid (cmpQ_le.2 hle), K.keep hb⟩
end Go.Proofs.Ytdlcglndhhndpaa
