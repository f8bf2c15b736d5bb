/- Laws and walks laid together; the conditions stand in each theorem. -/
import Derived.OrdersHeld
import Derived.Test.YtdlcglndhhndpaaT09
import Derived.Test.YtdlcglndhhndpaaT10
set_option linter.unusedSimpArgs false
set_option linter.unusedVariables false
namespace Go.Proofs.Ytdlcglndhhndpaa
open Go.RowKit
theorem ZQ32 {p : Prop} (h : p := by
  first
    | (have h2 := wpOp_putIf hoj (hfree j oj hoj hji hjun hno) (fun cs b => hsel i oi cs b hi) (fun cs b => hsel j oj cs b hoj) hQ hy (H.2 j (ready_mono hj hji))
       refine wpOp_mono (fun a' w' h3 => ?_) h2
       have hS' := h3.2.1 hjn
       refine ⟨fun _ => hS', ih (listed.setIfInBounds j true) a' w' (fun k ok hk hki hun hno' => ?_) (ready_mono hr (Ne.symm hji)) h3.1 hS' ?_⟩
       · refine hfree k ok hk hki ?_ hno'
         by_cases hjk : j = k
         · rw [← hjk]; exact hjun
         · rw [getD_set_ne true hjk] at hun
           exact hun
       · rw [Array.setIfInBounds_comm _ _ hji]
         exact h3.2.2)
    | fail) : p := h
theorem ZQ37 {p : Prop} (h : p := by
  first
    | (refine ⟨(fun h => by rw [h] at hr; cases hr), fun j hj => ?_⟩
       by_cases hji : j = i
       · subst hji
         exact hy.wpOp hi hS ⟨fun _ => hS, H⟩
       · have h1 := ready_mono (i := i) hj hji
         rw [H.1] at h1
         cases h1)
    | fail) : p := h
theorem ZQ92 {p : Prop} (h : p := by
  first
    | (have h1 := hall e he hb
       rw [heq, hiun] at h1
       cases h1)
    | fail) : p := h
section
variable {P : Program} {ops : Array Oper} {Q : Exit → Act → World → Prop} {md : Region.Mode} {S : World → Prop} {n : Nat}
def wpAnyT (P : Program) (md : Region.Mode) (ops : Array Oper) (Q : Exit → Act → World → Prop) (S : World → Prop) (n : Nat) : Nat → Array Bool → Act → World → Prop
  | 0, listed, a, w => Region.ready md ops listed = [] ∧ Q .normal a w
  | fuel + 1, listed, a, w => (Region.ready md ops listed = [] → Q .normal a w) ∧ ∀ i ∈ Region.ready md ops listed, wpOp P ops Q i (fun a' w' => (i ≠ n → S w') ∧ wpAnyT P md ops Q S n fuel (listed.setIfInBounds i true) a' w') a w
theorem wpAnyT.any : ∀ (fuel : Nat) (listed : Array Bool) (a : Act) (w : World), wpAnyT P md ops Q S n fuel listed a w → wpAny P md ops Q fuel listed a w
  | 0, _, _, _, h => h
  | fuel + 1, _, _, _, h => ⟨h.1, fun i hi => wpOp_mono (fun a' w' h' => wpAnyT.any fuel _ a' w' h'.2) (h.2 i hi)⟩
theorem getD_flip {listed : Array Bool} {i : Nat} (h : listed.getD i true = false) : listed.getD i false = false := by
  rcases Nat.lt_or_ge i listed.size with h' | h'
  · simp [h'] at h ⊢
    exact h
  · simp [Array.getElem?_eq_none h'] at h
theorem wpAnyT.first {i : Nat} {oi : Oper} {v : Value} (hi : ops[i]? = some oi) (hin : i ≠ n) (hwait : ∀ on, ops[n]? = some on → ∃ e ∈ on.after, Region.binds md e = true ∧ e.on = i)
    (hsel : ∀ (j : Nat) (o : Oper) cs b, ops[j]? = some o → o.op ≠ .select cs b) (hQ : ∀ c a w, Q (.panic c) (a.put oi.dst v) w → Q (.panic c) a w) (fuel : Nat) :
    ∀ (listed : Array Bool) (a : Act) (w : World), (∀ j oj, ops[j]? = some oj → j ≠ i → listed.getD j true = false → (∀ e ∈ oj.after, Region.binds md e = true → e.on ≠ i) → oi.apart ops oj = true) →
      i ∈ Region.ready md ops listed → YieldsIf P ops S oi v a → S w → wpAnyT P md ops Q S n fuel (listed.setIfInBounds i true) (a.put oi.dst v) w → wpAnyT P md ops Q S n (fuel + 1) listed a w := by
  induction fuel with
  | zero =>
    intro listed a w _ hr hy hS H
    exact ZQ37
  | succ fuel ih =>
    intro listed a w hfree hr hy hS H
    refine ⟨(fun h => by rw [h] at hr; cases hr), fun j hj => ?_⟩
    by_cases hji : j = i
    · subst hji
      exact hy.wpOp hi hS ⟨fun _ => hS, H⟩
    obtain ⟨hjun, oj, hoj, hall⟩ := mem_ready.1 hj
    have hiun := getD_flip (mem_ready.1 hr).1
    have hno : ∀ e ∈ oj.after, Region.binds md e = true → e.on ≠ i := fun e he hb heq => by
      exact ZQ92
    have hjn : j ≠ n := fun e => by
      subst e
      obtain ⟨e, he, hb, heq⟩ := hwait oj hoj
      exact hno e he hb heq
    exact ZQ32
def waitsB (md : Region.Mode) (ops : Array Oper) (n i : Nat) : Bool :=
  match ops[n]? with
  | some o => o.after.any fun e => Region.binds md e && e.on == i
  | none => true
theorem wpAnyT.take {i : Nat} {oi : Oper} {v : Value} {fuel : Nat} {listed : Array Bool} {a : Act} {w : World} (hi : ops[i]? = some oi) (hB : (decide (i ≠ n) && waitsB md ops n i && Region.noSelect ops && Region.free md ops listed i && (Region.ready md ops listed).contains i) = true)
    (hQ : ∀ c a w, Q (.panic c) (a.put oi.dst v) w → Q (.panic c) a w) (hy : YieldsIf P ops S oi v a) (hS : S w) (h : wpAnyT P md ops Q S n fuel (listed.setIfInBounds i true) (a.put oi.dst v) w) : wpAnyT P md ops Q S n (fuel + 1) listed a w := by
  simp only [Bool.and_eq_true, decide_eq_true_eq] at hB
  obtain ⟨⟨⟨⟨h1, h2⟩, h3⟩, h4⟩, h5⟩ := hB
  refine wpAnyT.first hi h1 (fun on hon => ?_) (Region.noSelect_spec h3) hQ fuel listed a w (Region.free_spec hi h4) (by simpa using h5) hy hS h
  unfold waitsB at h2
  rw [hon] at h2
  obtain ⟨e, he, hb⟩ := Array.any_eq_true'.1 h2
  rw [Bool.and_eq_true, beq_iff_eq] at hb
  exact ⟨e, he, hb⟩
theorem wpAnyT.tk (i : Nat) {oi : Oper} {v : Value} {fuel : Nat} {listed : Array Bool} {a : Act} {w : World} {q : Prop} (hi : ops[i]? = some oi) (k : q) (hB : (decide (i ≠ n) && waitsB md ops n i && Region.noSelect ops && Region.free md ops listed i && (Region.ready md ops listed).contains i) = true := by decide +kernel)
    (hQ : ∀ c a w, Q (.panic c) (a.put oi.dst v) w → Q (.panic c) a w := by exact fun _ _ _ h => h) (hy : YieldsIf P ops S oi v a := by (refine Or.inl ⟨by rfl, ?_⟩; intro w hSw; (try dsimp only at hSw); go_simp; try with_reducible rfl)) (hS : S w := by assumption) (h : q → wpAnyT P md ops Q S n fuel (listed.setIfInBounds i true) (a.put oi.dst v) w := by (intro hq; (try simp only [Act.put, List.setIfInBounds_toArray, List.set_cons_zero, List.set_cons_succ]); exact hq)) : wpAnyT P md ops Q S n (fuel + 1) listed a w :=
  wpAnyT.take hi hB hQ hy hS (h k)
theorem wpAnyT.one {i : Nat} {o : Oper} {fuel : Nat} {listed : Array Bool} {a : Act} {w : World} (ho : ops[i]? = some o) (hg : o.guard = none) (hB : (decide (i ≠ n) && decide (Region.ready md ops listed = [i])) = true)
    (h : ∀ K : Act → World → Prop, Hid (∀ a' w', S w' → (S w' → wpAnyT P md ops Q S n fuel (listed.setIfInBounds i true) a' w') → K a' w') → o.wp P a w K Q) : wpAnyT P md ops Q S n (fuel + 1) listed a w := by
  simp only [Bool.and_eq_true, decide_eq_true_eq] at hB
  refine ⟨(fun h0 => by rw [hB.2] at h0; cases h0), fun j hj => ?_⟩
  rw [hB.2, List.mem_singleton] at hj
  subst hj
  have hw : Region.wanted o (yielded ops a.tmps) = true := by simp [Region.wanted, hg]
  unfold wpOp
  simp only [ho, hw, if_true]
  exact Or.inl (h _ (Lib.hid fun a' w' hS hW => ⟨fun _ => hS, hW hS⟩))
theorem wpAnyT.on (i : Nat) {o : Oper} {fuel : Nat} {listed : Array Bool} {a : Act} {w : World} (ho : ops[i]? = some o)
    (h : ∀ K : Act → World → Prop, Hid (∀ a' w', S w' → (S w' → wpAnyT P md ops Q S n fuel (listed.setIfInBounds i true) a' w') → K a' w') → o.wp P a w K Q) (hg : o.guard = none := by rfl) (hB : (decide (i ≠ n) && decide (Region.ready md ops listed = [i])) = true := by kernel_rfl) : wpAnyT P md ops Q S n (fuel + 1) listed a w :=
  wpAnyT.one ho hg hB h
theorem wpAnyT.last {o : Oper} {fuel : Nat} {listed : Array Bool} {a : Act} {w : World} (ho : ops[n]? = some o) (hB : (decide (Region.ready md ops listed = [n]) && decide (Region.ready md ops (listed.setIfInBounds n true) = [])) = true)
    (h : wpList P ops Q [o] a w) : wpAnyT P md ops Q S n (fuel + 1) listed a w := by
  simp only [Bool.and_eq_true, decide_eq_true_eq] at hB
  refine ⟨(fun h0 => by rw [hB.1] at h0; cases h0), fun j hj => ?_⟩
  rw [hB.1, List.mem_singleton] at hj
  subst hj
  have hw : wpOp P ops Q j (wpList P ops Q []) a w := by
    unfold wpOp
    simp only [ho]
    exact h
  refine wpOp_mono (fun a' w' hK => ⟨fun e => absurd rfl e, ?_⟩) hw
  cases fuel with
  | zero => exact ⟨hB.2, hK⟩
  | succ fuel => exact ⟨fun _ => hK, fun i hi => by rw [hB.2] at hi; cases hi⟩
theorem wp_region_T {id : Nat} {a : Act} {w : World} (n : Nat) (S : World → Prop) (hm : P.follows .mixedOrders = true) (hS : S w.drew) (h : S w.drew → wpAnyT P .any ops Q S n ops.size (Array.replicate ops.size false) a w.drew) : (Code.region id ops true).wp P Q a w :=
  wp_region_any hm (wpAnyT.any _ _ _ _ (h hS))
end
section
variable {P : Program} {ops : Array Oper} {rest : List Oper} {o : Oper} {a : Act} {Q : Exit → Act → World → Prop}
theorem St.storeR {w W : World} {L L' : List Blk} {D : List Hl} (K : St w L D W) (hgd : o.guard = none) (hd : o.dst = none) (ty : TypeId) (x y : Operand) (ho : o.op = .store ty x y) (g i N : Nat) {v : Nat → Rw} {J : List Value} {t : TypeId} (z : Rw)
    (hx : a.eval x = .pointer (some ⟨g, i * 4, none⟩)) (hy : a.eval y = .agg #[.int .i64 z.s, .slice z.A z.n z.c, .int .i64 z.t, .slice z.B z.m z.d]) (hi : i < N) (hU : Upd g (rwA N v J) t (rwA N (putF v i z) J) L L') (hz : (P.info? ty).map (·.size) = some 4)
    (h : ∀ W', St w L' D W' → wpList P ops Q rest a W') : wpList P ops Q (o :: rest) a W :=
  K.store (off := i * 4) hgd hd ty x y ho _ hx hy z.cs rfl hU (rwA_spl hi z) hz (by rw [rwA_size]; show i * 4 + 4 ≤ _; omega) (fun u hu => by
    simp [Rw.cs] at hu
    rcases hu with rfl | rfl | rfl | rfl <;> rfl) h
end
end Go.Proofs.Ytdlcglndhhndpaa
namespace Go.Proofs.Ytdlcglndhhndpaa
open Go.RowKit
theorem ZQ87 {p : Prop} (h : p := by
  first
    | (rw [if_neg (by decide)] at ho he
       subst he
       exact ⟨(fun e => by cases e), rfl⟩)
    | fail) : p := h
def MulS (f q : Rat) (y : Rw) (er : Int) : Prop := (er = 0 → isQ y (f * q)) ∧ (er != 0) = !mulK f q
def SubS (x z : Rat) (y : Rw) (er : Int) : Prop := (er = 0 → isQ y (x - z)) ∧ (er != 0) = !addK x (-z)
def DivS (x z : Rat) (y : Rw) (er : Int) : Prop := (er = 0 → isQ y (x / z)) ∧ (er != 0) = !divK x z
def AddS (x z : Rat) (y : Rw) (er : Int) : Prop := (er = 0 → isQ y (x + z)) ∧ (er != 0) = !addK x z
def FrT (w0 : World) (L : List Blk) (D : List Hl) (G : Rw → Int → Prop) (e : Ending) (W' : World) : Prop :=
  ∃ y er, e = Ending.returned (.tuple #[.agg #[.int .i64 y.s, .slice y.A y.n y.c, .int .i64 y.t, .slice y.B y.m y.d], .int .i64 er]) ∧ Hid (G y er) ∧ St w0 L (⟨rdP y.B y.m y.d y.k, rdS y.B y.m⟩ :: ⟨rdP y.A y.n y.c y.l, rdS y.A y.n⟩ :: D) W'
theorem mulS {f q : Rat} {y : Rw} {o : Option Rat} {er : Int} (ho : o = mulO1 f q) (he : er = mulE1 f q) (h : OptF y.s y.l y.t y.k o) : MulS f q y er := by
  unfold mulO1 at ho
  unfold mulE1 at he
  unfold MulS
  generalize hk : mulK f q = B at ho he
  cases B
  · exact ZQ87
  · rw [if_pos rfl] at ho he
    subst ho he
    exact ⟨fun _ => ⟨h, mulK_fits hk⟩, rfl⟩
theorem subS {x z : Rat} {y : Rw} {o : Option Rat} {er : Int} (ho : o = subO1 x (some z)) (he : er = subE1 x (some z)) (h : OptF y.s y.l y.t y.k o) : SubS x z y er := by
  rw [subO1_some] at ho
  rw [subE1_some] at he
  unfold SubS
  generalize hk : addK x (-z) = B at ho he
  cases B
  · exact ZQ87
  · rw [if_pos rfl] at ho he
    subst ho he
    exact ⟨fun _ => ⟨h, by rw [Rat.sub_eq_add_neg]; exact addK_fits hk⟩, rfl⟩
section
variable {w0 W : World} {L : List Blk} {D : List Hl}
theorem callMul {Y Z : Rw} {f q : Rat} (K : St w0 L D W) (hY : isQ Y f) (hZ : isQ Z q) (m1 : (⟨rdP Y.A Y.n Y.c Y.l, rdS Y.A Y.n⟩ : Hl) ∈ D) (m2 : (⟨rdP Y.B Y.m Y.d Y.k, rdS Y.B Y.m⟩ : Hl) ∈ D) (m3 : (⟨rdP Z.A Z.n Z.c Z.l, rdS Z.A Z.n⟩ : Hl) ∈ D) (m4 : (⟨rdP Z.B Z.m Z.d Z.k, rdS Z.B Z.m⟩ : Hl) ∈ D) :
    Calls Try.prog 36 #[.agg #[.int .i64 Y.s, .slice Y.A Y.n Y.c, .int .i64 Y.t, .slice Y.B Y.m Y.d], .agg #[.int .i64 Z.s, .slice Z.A Z.n Z.c, .int .i64 Z.t, .slice Z.B Z.m Z.d]] W (FrT w0 L D (MulS f q)) := by
  obtain ⟨o, ho⟩ : ∃ o, o = mulO1 f q := ⟨_, rfl⟩
  obtain ⟨er, her⟩ : ∃ er, er = mulE1 f q := ⟨_, rfl⟩
  have h := (qMul f q Y.s Y.t Z.s Z.t Y.A Y.B Z.A Z.B Y.n Y.c Y.m Y.d Z.n Z.c Z.m Z.d Y.l Y.k Z.l Z.k W (K.rd m1) (K.rd m2) (K.rd m3) (K.rd m4) hY.1 hY.2 hZ.1 hZ.2)
  rw [← ho, ← her] at h
  have HS := fun y : Rw => mulS (y := y) ho her
  clear ho her
  exact h.mono fun e W' ⟨s31, A31, n31, c31, l31, t31, B31, m31, d31, k31, he, ⟨hra, hrb⟩, hop, ⟨hfa, hfb⟩, hbb⟩ => ⟨⟨s31, A31, n31, c31, l31, t31, B31, m31, d31, k31⟩, er, he, Lib.hid (HS _ hop), K.retF hbb hra hrb hfa hfb⟩
theorem callSub {Y Z : Rw} {f q : Rat} (K : St w0 L D W) (hY : isQ Y f) (hZ : isQ Z q) (m1 : (⟨rdP Y.A Y.n Y.c Y.l, rdS Y.A Y.n⟩ : Hl) ∈ D) (m2 : (⟨rdP Y.B Y.m Y.d Y.k, rdS Y.B Y.m⟩ : Hl) ∈ D) (m3 : (⟨rdP Z.A Z.n Z.c Z.l, rdS Z.A Z.n⟩ : Hl) ∈ D) (m4 : (⟨rdP Z.B Z.m Z.d Z.k, rdS Z.B Z.m⟩ : Hl) ∈ D) :
    Calls Try.prog 50 #[.agg #[.int .i64 Y.s, .slice Y.A Y.n Y.c, .int .i64 Y.t, .slice Y.B Y.m Y.d], .agg #[.int .i64 Z.s, .slice Z.A Z.n Z.c, .int .i64 Z.t, .slice Z.B Z.m Z.d]] W (FrT w0 L D (SubS f q)) := by
  obtain ⟨o, ho⟩ : ∃ o, o = subO1 f (some q) := ⟨_, rfl⟩
  obtain ⟨er, her⟩ : ∃ er, er = subE1 f (some q) := ⟨_, rfl⟩
  have h := (qSub f Y.s Y.t Z.s Z.t Y.A Y.B Z.A Z.B Y.n Y.c Y.m Y.d Z.n Z.c Z.m Z.d Y.l Y.k Z.l Z.k W (K.rd m1) (K.rd m2) (K.rd m3) (K.rd m4) hY.1 hY.2 (some q) hZ.1 (fun z hz => by rw [← Option.some.inj hz]; exact hZ.2))
  rw [← ho, ← her] at h
  have HS := fun y : Rw => subS (y := y) ho her
  clear ho her
  exact h.mono fun e W' ⟨s31, A31, n31, c31, l31, t31, B31, m31, d31, k31, he, ⟨hra, hrb⟩, hop, ⟨hfa, hfb⟩, hbb⟩ => ⟨⟨s31, A31, n31, c31, l31, t31, B31, m31, d31, k31⟩, er, he, Lib.hid (HS _ hop), K.retF hbb hra hrb hfa hfb⟩
def FrG (w0 : World) (L : List Blk) (D : List Hl) (G : Rat → Prop) (e : Ending) (W' : World) : Prop :=
  ∃ (y : Rw) (z : Rat), e = Ending.returned (.agg #[.int .i64 y.s, .slice y.A y.n y.c, .int .i64 y.t, .slice y.B y.m y.d]) ∧ Hid (isQ y z ∧ G z) ∧ St w0 L (⟨rdP y.B y.m y.d y.k, rdS y.B y.m⟩ :: ⟨rdP y.A y.n y.c y.l, rdS y.A y.n⟩ :: D) W'
theorem callGot {L' : List Blk} {mb : Nat} {b b' : Bool} {R : List Value} {T : TypeId} {y : Rw} {er : Int} {q : Rat} (K : St w0 L (⟨rdP y.B y.m y.d y.k, rdS y.B y.m⟩ :: ⟨rdP y.A y.n y.c y.l, rdS y.A y.n⟩ :: D) W) (hq : er = 0 → isQ y q) (hb : b' = (b || er != 0)) (hU : Upd mb (Value.bool b :: R).toArray T (Value.bool b' :: R).toArray L L') :
    Calls Try.prog 107 #[.pointer (some ⟨mb, 0, none⟩), .agg #[.int .i64 y.s, .slice y.A y.n y.c, .int .i64 y.t, .slice y.B y.m y.d], .int .i64 er] W (FrG w0 L' D fun z => er = 0 → z = q) :=
  (got_any w0 W L L' D mb b b' R T er y.s y.t y.A y.B y.n y.c y.m y.d y.l y.k q K hq hb hU).mono fun e W' ⟨s, A, n, c, l, t, B, m, d, k, z, he, h1, h2, h3⟩ => ⟨⟨s, A, n, c, l, t, B, m, d, k⟩, z, he, Lib.hid ⟨h1, h2⟩, h3⟩
end
end Go.Proofs.Ytdlcglndhhndpaa
namespace Go.Proofs.Ytdlcglndhhndpaa
open Go.RowKit
set_option maxRecDepth 100000 in
set_option maxHeartbeats 2000000 in
theorem less_any (w0 W : World) (L L' : List Blk) (D : List Hl) (mb : Nat) (b b' : Bool) (R : List Value) (T : TypeId) (X Y Z : Rw) (x f q : Rat)
    (K : St w0 L (⟨rdP X.B X.m X.d X.k, rdS X.B X.m⟩ :: ⟨rdP X.A X.n X.c X.l, rdS X.A X.n⟩ :: ⟨rdP Y.B Y.m Y.d Y.k, rdS Y.B Y.m⟩ :: ⟨rdP Y.A Y.n Y.c Y.l, rdS Y.A Y.n⟩ :: ⟨rdP Z.B Z.m Z.d Z.k, rdS Z.B Z.m⟩ :: ⟨rdP Z.A Z.n Z.c Z.l, rdS Z.A Z.n⟩ :: D) W) (hX : isQ X x) (hY : isQ Y f) (hZ : isQ Z q) (hb : b' = (b || !stepK x f q)) (hU : Upd mb (Value.bool b :: R).toArray T (Value.bool b' :: R).toArray L L') :
    Calls Try.prog 141 #[.pointer (some ⟨mb, 0, none⟩), .agg #[.int .i64 X.s, .slice X.A X.n X.c, .int .i64 X.t, .slice X.B X.m X.d], .agg #[.int .i64 Y.s, .slice Y.A Y.n Y.c, .int .i64 Y.t, .slice Y.B Y.m Y.d], .agg #[.int .i64 Z.s, .slice Z.A Z.n Z.c, .int .i64 Z.t, .slice Z.B Z.m Z.d]] W (FrG w0 L' D fun z => stepK x f q = true → z = x - f * q) := by
  obtain ⟨bm, hbm⟩ : ∃ bm, bm = (b || !mulK f q) := ⟨_, rfl⟩
  obtain ⟨L1, hU1, hU2⟩ := hU.mid (Value.bool bm :: R).toArray
  have HU1 := Lib.hid hU1
  have HU2 := Lib.hid hU2
  have HX := Lib.hid hX
  have HY := Lib.hid hY
  have HZ := Lib.hid hZ
  have HB1 := Lib.hid (fun (y : Rw) (er : Int) (h : MulS f q y er) => (by rw [h.2]; exact hbm : bm = (b || er != 0)))
  have HB2 := Lib.hid (fun (y : Rw) (er : Int) (z : Rat) (hz : mulK f q = true → z = f * q) (h : SubS x z y er) => (by
    rw [h.2, hb, hbm]
    unfold stepK
    generalize hk : mulK f q = B at hz ⊢
    cases B
    · simp
    · rw [hz rfl]
      simp : b' = (bm || er != 0)))
  have HV := Lib.hid (fun (y : Rw) (er : Int) (z v : Rat) (hz : mulK f q = true → z = f * q) (h : SubS x z y er) (hv : er = 0 → v = x - z) => (by
    intro hs
    unfold stepK at hs
    rw [Bool.and_eq_true] at hs
    have e1 := hz hs.1
    have e2 := h.2
    rw [e1, hs.2] at e2
    rw [hv (by simpa using e2), e1] : stepK x f q = true → v = x - f * q))
  clear hU hU1 hU2 hX hY hZ hb hbm
  have r := K.raw
  go_enter Try.func141, Try.ntmps141
  go_upto_region 1 with (first | (refine ZAL ?_; clear K r; (first | ((fail_if_success revert b0); intro W b0 K r) | ((fail_if_success revert b1); intro W b1 K r) | ((fail_if_success revert b2); intro W b2 K r) | ((fail_if_success revert b3); intro W b3 K r) | intro W b K r)) | (refine ZST ?_; clear K r; intro W K r))
  have HSA := Lib.hid (fun V L2 D2 (h : St w0 ((b3, #[.int .i64 0, .slice none 0 0, .int .i64 0, .slice none 0 0], 40) :: (b2, #[.int .i64 Z.s, .slice Z.A Z.n Z.c, .int .i64 Z.t, .slice Z.B Z.m Z.d], 40) :: (b1, #[.int .i64 Y.s, .slice Y.A Y.n Y.c, .int .i64 Y.t, .slice Y.B Y.m Y.d], 40) :: (b0, #[.int .i64 X.s, .slice X.A X.n X.c, .int .i64 X.t, .slice X.B X.m X.d], 40) :: L2) D2 V) => (show (V.cell? ⟨b0, 0, none⟩ = some (.int .i64 X.s) ∧ V.cell? ⟨b0, 1, none⟩ = some (.slice X.A X.n X.c) ∧ V.cell? ⟨b0, 2, none⟩ = some (.int .i64 X.t) ∧ V.cell? ⟨b0, 3, none⟩ = some (.slice X.B X.m X.d)) ∧ (V.cell? ⟨b1, 0, none⟩ = some (.int .i64 Y.s) ∧ V.cell? ⟨b1, 1, none⟩ = some (.slice Y.A Y.n Y.c) ∧ V.cell? ⟨b1, 2, none⟩ = some (.int .i64 Y.t) ∧ V.cell? ⟨b1, 3, none⟩ = some (.slice Y.B Y.m Y.d)) ∧ (V.cell? ⟨b2, 0, none⟩ = some (.int .i64 Z.s) ∧ V.cell? ⟨b2, 1, none⟩ = some (.slice Z.A Z.n Z.c) ∧ V.cell? ⟨b2, 2, none⟩ = some (.int .i64 Z.t) ∧ V.cell? ⟨b2, 3, none⟩ = some (.slice Z.B Z.m Z.d)) from by
    have r := h.rawS
    exact ⟨r.2.2.2.1, r.2.2.1, r.2.1⟩))
  have HMu1 := Lib.hid (fun V (h : St w0 ((b3, #[.int .i64 0, .slice none 0 0, .int .i64 0, .slice none 0 0], 40) :: (b2, #[.int .i64 Z.s, .slice Z.A Z.n Z.c, .int .i64 Z.t, .slice Z.B Z.m Z.d], 40) :: (b1, #[.int .i64 Y.s, .slice Y.A Y.n Y.c, .int .i64 Y.t, .slice Y.B Y.m Y.d], 40) :: (b0, #[.int .i64 X.s, .slice X.A X.n X.c, .int .i64 X.t, .slice X.B X.m X.d], 40) :: L) (⟨rdP X.B X.m X.d X.k, rdS X.B X.m⟩ :: ⟨rdP X.A X.n X.c X.l, rdS X.A X.n⟩ :: ⟨rdP Y.B Y.m Y.d Y.k, rdS Y.B Y.m⟩ :: ⟨rdP Y.A Y.n Y.c Y.l, rdS Y.A Y.n⟩ :: ⟨rdP Z.B Z.m Z.d Z.k, rdS Z.B Z.m⟩ :: ⟨rdP Z.A Z.n Z.c Z.l, rdS Z.A Z.n⟩ :: D) V) => callMul h HY.out HZ.out ZMB ZMB ZMB ZMB)
  have HNo1 := Lib.hid (fun V (y : Rw) (er : Int) (G : Hid (MulS f q y er)) (h : St w0 ((b3, #[.int .i64 0, .slice none 0 0, .int .i64 0, .slice none 0 0], 40) :: (b2, #[.int .i64 Z.s, .slice Z.A Z.n Z.c, .int .i64 Z.t, .slice Z.B Z.m Z.d], 40) :: (b1, #[.int .i64 Y.s, .slice Y.A Y.n Y.c, .int .i64 Y.t, .slice Y.B Y.m Y.d], 40) :: (b0, #[.int .i64 X.s, .slice X.A X.n X.c, .int .i64 X.t, .slice X.B X.m X.d], 40) :: L) (⟨rdP y.B y.m y.d y.k, rdS y.B y.m⟩ :: ⟨rdP y.A y.n y.c y.l, rdS y.A y.n⟩ :: (⟨rdP X.B X.m X.d X.k, rdS X.B X.m⟩ :: ⟨rdP X.A X.n X.c X.l, rdS X.A X.n⟩ :: ⟨rdP Y.B Y.m Y.d Y.k, rdS Y.B Y.m⟩ :: ⟨rdP Y.A Y.n Y.c Y.l, rdS Y.A Y.n⟩ :: ⟨rdP Z.B Z.m Z.d Z.k, rdS Z.B Z.m⟩ :: ⟨rdP Z.A Z.n Z.c Z.l, rdS Z.A Z.n⟩ :: D)) V) => callGot (L' := ((b3, #[.int .i64 0, .slice none 0 0, .int .i64 0, .slice none 0 0], 40) :: (b2, #[.int .i64 Z.s, .slice Z.A Z.n Z.c, .int .i64 Z.t, .slice Z.B Z.m Z.d], 40) :: (b1, #[.int .i64 Y.s, .slice Y.A Y.n Y.c, .int .i64 Y.t, .slice Y.B Y.m Y.d], 40) :: (b0, #[.int .i64 X.s, .slice X.A X.n X.c, .int .i64 X.t, .slice X.B X.m X.d], 40) :: L1)) h G.out.1 (HB1.out y er G.out) (.tail _ (.tail _ (.tail _ (.tail _ HU1.out)))))
  have HSu1 := Lib.hid (fun V (y : Rw) (z : Rat) (hz : isQ y z) (h : St w0 ((b3, #[.int .i64 0, .slice none 0 0, .int .i64 0, .slice none 0 0], 40) :: (b2, #[.int .i64 Z.s, .slice Z.A Z.n Z.c, .int .i64 Z.t, .slice Z.B Z.m Z.d], 40) :: (b1, #[.int .i64 Y.s, .slice Y.A Y.n Y.c, .int .i64 Y.t, .slice Y.B Y.m Y.d], 40) :: (b0, #[.int .i64 X.s, .slice X.A X.n X.c, .int .i64 X.t, .slice X.B X.m X.d], 40) :: L1) (⟨rdP y.B y.m y.d y.k, rdS y.B y.m⟩ :: ⟨rdP y.A y.n y.c y.l, rdS y.A y.n⟩ :: (⟨rdP X.B X.m X.d X.k, rdS X.B X.m⟩ :: ⟨rdP X.A X.n X.c X.l, rdS X.A X.n⟩ :: ⟨rdP Y.B Y.m Y.d Y.k, rdS Y.B Y.m⟩ :: ⟨rdP Y.A Y.n Y.c Y.l, rdS Y.A Y.n⟩ :: ⟨rdP Z.B Z.m Z.d Z.k, rdS Z.B Z.m⟩ :: ⟨rdP Z.A Z.n Z.c Z.l, rdS Z.A Z.n⟩ :: D)) V) => callSub h HX.out hz ZMB ZMB ZMB ZMB)
  have HNo2 := Lib.hid (fun V (y u : Rw) (er : Int) (z : Rat) (hz : mulK f q = true → z = f * q) (G : Hid (SubS x z u er)) (h : St w0 ((b3, #[.int .i64 0, .slice none 0 0, .int .i64 0, .slice none 0 0], 40) :: (b2, #[.int .i64 Z.s, .slice Z.A Z.n Z.c, .int .i64 Z.t, .slice Z.B Z.m Z.d], 40) :: (b1, #[.int .i64 Y.s, .slice Y.A Y.n Y.c, .int .i64 Y.t, .slice Y.B Y.m Y.d], 40) :: (b0, #[.int .i64 X.s, .slice X.A X.n X.c, .int .i64 X.t, .slice X.B X.m X.d], 40) :: L1) (⟨rdP u.B u.m u.d u.k, rdS u.B u.m⟩ :: ⟨rdP u.A u.n u.c u.l, rdS u.A u.n⟩ :: ⟨rdP y.B y.m y.d y.k, rdS y.B y.m⟩ :: ⟨rdP y.A y.n y.c y.l, rdS y.A y.n⟩ :: (⟨rdP X.B X.m X.d X.k, rdS X.B X.m⟩ :: ⟨rdP X.A X.n X.c X.l, rdS X.A X.n⟩ :: ⟨rdP Y.B Y.m Y.d Y.k, rdS Y.B Y.m⟩ :: ⟨rdP Y.A Y.n Y.c Y.l, rdS Y.A Y.n⟩ :: ⟨rdP Z.B Z.m Z.d Z.k, rdS Z.B Z.m⟩ :: ⟨rdP Z.A Z.n Z.c Z.l, rdS Z.A Z.n⟩ :: D)) V) => callGot (L' := ((b3, #[.int .i64 0, .slice none 0 0, .int .i64 0, .slice none 0 0], 40) :: (b2, #[.int .i64 Z.s, .slice Z.A Z.n Z.c, .int .i64 Z.t, .slice Z.B Z.m Z.d], 40) :: (b1, #[.int .i64 Y.s, .slice Y.A Y.n Y.c, .int .i64 Y.t, .slice Y.B Y.m Y.d], 40) :: (b0, #[.int .i64 X.s, .slice X.A X.n X.c, .int .i64 X.t, .slice X.B X.m X.d], 40) :: L')) h G.out.1 (HB2.out u er z hz G.out) (.tail _ (.tail _ (.tail _ (.tail _ HU2.out)))))
  have K0 := K.drew
  have s0 := HSA.out _ _ _ K0
  clear r K HB1 HB2 HU1 HU2
  refine wp_region_T 13 (fun V => (V.cell? ⟨b0, 0, none⟩ = some (.int .i64 X.s) ∧ V.cell? ⟨b0, 1, none⟩ = some (.slice X.A X.n X.c) ∧ V.cell? ⟨b0, 2, none⟩ = some (.int .i64 X.t) ∧ V.cell? ⟨b0, 3, none⟩ = some (.slice X.B X.m X.d)) ∧ (V.cell? ⟨b1, 0, none⟩ = some (.int .i64 Y.s) ∧ V.cell? ⟨b1, 1, none⟩ = some (.slice Y.A Y.n Y.c) ∧ V.cell? ⟨b1, 2, none⟩ = some (.int .i64 Y.t) ∧ V.cell? ⟨b1, 3, none⟩ = some (.slice Y.B Y.m Y.d)) ∧ (V.cell? ⟨b2, 0, none⟩ = some (.int .i64 Z.s) ∧ V.cell? ⟨b2, 1, none⟩ = some (.slice Z.A Z.n Z.c) ∧ V.cell? ⟨b2, 2, none⟩ = some (.int .i64 Z.t) ∧ V.cell? ⟨b2, 3, none⟩ = some (.slice Z.B Z.m Z.d))) (by kernel_rfl) s0 (fun hSh => ?_)
  clear s0
  refine wpAnyT.tk 0 rfl ?_
  refine wpAnyT.tk 1 rfl ?_
  refine wpAnyT.tk 2 rfl ?_
  refine wpAnyT.tk 3 rfl ?_
  refine wpAnyT.tk 4 rfl ?_
  refine wpAnyT.on 5 rfl fun KK hKK => ?_
  go_simp
  go_at_call 36; refine (HMu1.out _ K0).mono ?_; rintro e w5 ⟨y, em, rfl, gy, k5⟩
  go_wp2_with fail
  refine hKK.out _ _ ?_ (fun hSh => ?_)
  · exact HSA.out _ _ _ (by assumption)
  clear hKK KK
  refine ZPT ?_
  refine wpAnyT.tk 6 rfl ?_
  refine wpAnyT.tk 7 rfl ?_
  refine wpAnyT.on 8 rfl fun KK hKK => ?_
  go_simp
  go_at_call 107; refine (HNo1.out _ _ _ gy k5).mono ?_; rintro e w6 ⟨y2, z2, rfl, g2, k6⟩
  go_wp2_with fail
  refine hKK.out _ _ ?_ (fun hSh => ?_)
  · exact HSA.out _ _ _ (by assumption)
  clear hKK KK
  refine ZPT ?_
  have hm2 := Lib.hid (fun hk : mulK f q = true => g2.out.2 (by
    have := gy.out.2
    rw [hk] at this
    simpa using this))
  refine wpAnyT.on 9 rfl fun KK hKK => ?_
  go_simp
  go_at_call 50; refine (HSu1.out _ _ _ g2.out.1 k6).mono ?_; rintro e w7 ⟨y3, es, rfl, g3, k7⟩
  go_wp2_with fail
  refine hKK.out _ _ ?_ (fun hSh => ?_)
  · exact HSA.out _ _ _ (by assumption)
  clear hKK KK
  refine ZPT ?_
  refine wpAnyT.tk 10 rfl ?_
  refine wpAnyT.tk 11 rfl ?_
  refine wpAnyT.on 12 rfl fun KK hKK => ?_
  go_simp
  go_at_call 107; refine (HNo2.out _ _ _ _ _ hm2.out g3 k7).mono ?_; rintro e w8 ⟨y4, z4, rfl, g4, k8⟩
  go_wp2_with fail
  refine hKK.out _ _ ?_ (fun hSh => ?_)
  · exact HSA.out _ _ _ (by assumption)
  clear hKK KK
  refine ZPT ?_
  refine wpAnyT.last rfl (by kernel_rfl) ?_
  have HQ := Lib.hid (⟨g4.out.1, HV.out _ _ _ _ hm2.out g3.out g4.out.2⟩ : isQ y4 z4 ∧ (stepK x f q = true → z4 = x - f * q))
  clear k7 k6 k5 K0 HSA HMu1 HSu1 HNo1 HNo2 hSh gy g2 hm2 g3 g4 HV HX HY HZ
  refine k8.storeA (b := b3) (cs := #[.int .i64 0, .slice none 0 0, .int .i64 0, .slice none 0 0]) (cs' := #[.int .i64 y4.s, .slice y4.A y4.n y4.c, .int .i64 y4.t, .slice y4.B y4.m y4.d]) (t := 40) rfl rfl _ _ _ rfl rfl rfl ZUA frac_size rfl rfl rfl ?_
  intro W8 K
  clear k8
  have r := K.rawS
  have HE := Lib.hid (⟨y4, z4, rfl, HQ, (K.part (List.sublist_append_right [_, _, _, _] L')).lessS (by repeat (first | with_reducible exact List.Sublist.refl _ | with_reducible apply List.Sublist.cons_cons | with_reducible apply List.Sublist.cons))⟩ : FrG w0 L' D (fun z => stepK x f q = true → z = x - f * q) (.returned (.agg #[.int .i64 y4.s, .slice y4.A y4.n y4.c, .int .i64 y4.t, .slice y4.B y4.m y4.d])) W8)
  clear HQ
  go_wp2_with fail
  exact bodyPost_ret (v := .agg #[.int .i64 y4.s, .slice y4.A y4.n y4.c, .int .i64 y4.t, .slice y4.B y4.m y4.d]) (by simp [results, Try.results141, go_sem, r]) rfl HE.out
end Go.Proofs.Ytdlcglndhhndpaa
