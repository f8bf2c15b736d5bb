/- Laws and walks; conditions stand in each theorem. -/
import Derived.Test.YtdlcglndhhndpaaGreatL30
import Derived.Test.YtdlcglndhhndpaaGreatL34
import Derived.Test.YtdlcglndhhndpaaGreatL24
import Derived.Test.YtdlcglndhhndpaaGreatL32
import Derived.Test.YtdlcglndhhndpaaGreatL16
import Derived.Test.YtdlcglndhhndpaaGreatL36
import Derived.Test.YtdlcglndhhndpaaGreatL26
set_option linter.unusedSimpArgs false
set_option linter.unusedVariables false
set_option maxHeartbeats 4000000
set_option maxRecDepth 100000
namespace Go.Proofs.YtdlcglndhhndpaaGreat
open Go.RowKit
theorem LstP.congr {w w' : World} {n : Nat} {x y : Nat → Rat} {e : Ending} (h : LstP w n x e w') (hxy : ∀ i, i < n → x i = y i) : LstP w n y e w' := by
 obtain ⟨A, c, he, hr, hb⟩ := h
 rw [ofF_congr (g := fun i => fvQ (y i)) (fun i hi => by rw [hxy i hi])] at hr
 exact ⟨A, c, he, hr, hb⟩
theorem fvR_ofF {n i : Nat} {f : Nat → Fv} (hi : i < n) : fvR (ofF n f) i = (f i).rat := by
 unfold fvR
 rw [ofF_get hi, Option.map_some, Option.getD_some]
theorem ZL63 {p : Prop} (h : p := by
 first
  | (generalize σ (D.own r) = o at n1
     generalize σ (D.free s) = f at n2
     generalize D.a r s = p at h0
     grind)
  | fail) : p := h
theorem ZL109 {p : Prop} (h : p := by
 first
  | (generalize σ (D.own r) = o at n1
     generalize σ (D.free s) = f at n2
     generalize σ (D.free j) = g at n3
     generalize D.a r s = p at h0
     grind)
  | fail) : p := h
theorem lstP_congr {vars : Nat → Nat} {f g : Nat → Bool} : ∀ {n : Nat}, (∀ i, i < n → f i = g i) → lstP vars f n = lstP vars g n
 | 0, _ => rfl
 | n + 1, h => by rw [lstP, lstP, lstP_congr fun i hi => h i (by omega), h n (by omega)]
theorem pos_times {t x : Rat} (ht : 0 < t) : 0 < t * x ↔ 0 < x := by
 refine ⟨fun h => Rat.not_le.1 fun hn => ?_, fun h => Rat.mul_pos ht h⟩
 have h1 : t * x ≤ t * 0 := Rat.mul_le_mul_of_nonneg_left hn (Rat.le_of_lt ht)
 grind
theorem neg_times {t x : Rat} (ht : 0 < t) : t * x < 0 ↔ x < 0 := by
 have h := pos_times (x := - x) ht
 have e : t * (-x) = - (t * x) := by grind
 rw [e] at h
 constructor
 · intro h1
   have := h.1 (by grind)
   grind
 · intro h1
   have := h.2 (by grind)
   grind
theorem div_pos' {a b : Rat} (ha : 0 < a) (hb : 0 < b) : 0 < a / b := by
 rw [Rat.div_def]
 exact Rat.mul_pos ha (Rat.inv_pos.2 hb)
structure Scl (σ : Nat → Rat) (γ : Rat) (m n : Nat) (D D' : Dc) : Prop where
 own : D'.own = D.own
 free : D'.free = D.free
 v : ∀ i, i < m → D'.v i = σ (D.own i) * D.v i
 a : ∀ i j, i < m → j < n → D'.a i j = σ (D.own i) / σ (D.free j) * D.a i j
 c : ∀ j, j < n → D'.c j = γ / σ (D.free j) * D.c j
section
variable {σ : Nat → Rat} {γ : Rat} {m n : Nat} {D D' : Dc}
theorem Scl.rowP (h : Scl σ γ m n D D') (hσ : ∀ u, 0 < σ u) {r : Nat} (hr : r < m) : D'.rowP n r = D.rowP n r := by
 unfold Dc.rowP
 rw [h.free, lstP_congr (f := D'.negA r) (g := D.negA r) fun j hj => by
  unfold Dc.negA
  rw [h.a r j hr hj]
  exact decide_eq_decide.2 (neg_times (div_pos' (hσ _) (hσ _)))]
theorem Scl.colP (h : Scl σ γ m n D D') (hσ : ∀ u, 0 < σ u) {s : Nat} (hs : s < n) : D'.colP m s = D.colP m s := by
 unfold Dc.colP
 rw [h.own, lstP_congr (f := D'.posA s) (g := D.posA s) fun i hi => by
  unfold Dc.posA
  rw [h.a i s hi hs]
  exact decide_eq_decide.2 (pos_times (div_pos' (hσ _) (hσ _)))]
theorem Scl.pick (h : Scl σ γ m n D D') (hσ : ∀ u, 0 < σ u) (hγ : 0 < γ) : D'.pick m n = D.pick m n := by
 have e1 : lstP D'.own D'.negR m = lstP D.own D.negR m := by
  rw [h.own]
  exact lstP_congr fun i hi => by
   unfold Dc.negR
   rw [h.v i hi]
   exact decide_eq_decide.2 (neg_times (hσ _))
 have e2 : lstP D'.free D'.posC n = lstP D.free D.posC n := by
  rw [h.free]
  exact lstP_congr fun j hj => by
   unfold Dc.posC
   rw [h.c j hj]
   exact decide_eq_decide.2 (pos_times (div_pos' hγ (hσ _)))
 unfold Dc.pick
 rw [e1, e2]
 cases h1 : lstP D.own D.negR m with
 | none =>
  cases h2 : lstP D.free D.posC n with
  | none => rfl
  | some s => exact h.colP hσ (lstP_some h2).1
 | some r =>
  cases h2 : lstP D.free D.posC n with
  | none => exact h.rowP hσ (lstP_some h1).1
  | some s =>
   show (if D'.own r < D'.free s then D'.rowP n r else D'.colP m s) = if D.own r < D.free s then D.rowP n r else D.colP m s
   rw [h.own, h.free, h.rowP hσ (lstP_some h1).1, h.colP hσ (lstP_some h2).1]
theorem Scl.xch (h : Scl σ γ m n D D') (hσ : ∀ u, 0 < σ u) {r s : Nat} (hr : r < m) (hs : s < n) (h0 : D.a r s ≠ 0) : Scl σ γ m n (D.xch r s) (D'.xch r s) := by
 have nz : ∀ u, σ u ≠ 0 := fun u e => by have := hσ u; rw [e] at this; exact absurd this (by decide)
 have n1 := nz (D.own r)
 have n2 := nz (D.free s)
 refine ⟨?_, ?_, fun i hi => ?_, fun i j hi hj => ?_, fun j hj => ?_⟩
 · show (fun i => if i = r then D'.free s else D'.own i) = fun i => if i = r then D.free s else D.own i
   rw [h.own, h.free]
 · show (fun j => if j = s then D'.own r else D'.free j) = fun j => if j = s then D.own r else D.free j
   rw [h.own, h.free]
 · show (if i = r then D'.v r / D'.a r s else D'.v i - D'.a i s * (D'.v r / D'.a r s)) = σ (if i = r then D.free s else D.own i) * (if i = r then D.v r / D.a r s else D.v i - D.a i s * (D.v r / D.a r s))
   rw [h.a r s hr hs, h.v r hr]
   by_cases e : i = r
   · rw [if_pos e, if_pos e, if_pos e]
     exact ZL63
   · rw [if_neg e, if_neg e, if_neg e, h.a i s hi hs, h.v i hi]
     exact ZL63
 · show (if i = r then (if j = s then 1 / D'.a r s else D'.a r j / D'.a r s) else (if j = s then 0 - D'.a i s * (1 / D'.a r s) else D'.a i j - D'.a i s * (D'.a r j / D'.a r s))) = σ (if i = r then D.free s else D.own i) / σ (if j = s then D.own r else D.free j) * (if i = r then (if j = s then 1 / D.a r s else D.a r j / D.a r s) else (if j = s then 0 - D.a i s * (1 / D.a r s) else D.a i j - D.a i s * (D.a r j / D.a r s)))
   have n3 := nz (D.free j)
   have n4 := nz (D.own i)
   rw [h.a r s hr hs]
   by_cases e : i = r
   · by_cases e2 : j = s
     · simp only [if_pos e, if_pos e2]
       exact ZL63
     · simp only [if_pos e, if_neg e2]
       rw [h.a r j hr hj]
       exact ZL109
   · by_cases e2 : j = s
     · simp only [if_neg e, if_pos e2]
       rw [h.a i s hi hs]
       generalize σ (D.own r) = o at n1
       generalize σ (D.free s) = f at n2
       generalize σ (D.own i) = q at n4
       generalize D.a r s = p at h0
       grind
     · simp only [if_neg e, if_neg e2]
       rw [h.a i s hi hs, h.a i j hi hj, h.a r j hr hj]
       generalize σ (D.own r) = o at n1
       generalize σ (D.free s) = f at n2
       generalize σ (D.own i) = q at n4
       generalize σ (D.free j) = g at n3
       generalize D.a r s = p at h0
       grind
 · show (if j = s then 0 - D'.c s * (1 / D'.a r s) else D'.c j - D'.c s * (D'.a r j / D'.a r s)) = γ / σ (if j = s then D.own r else D.free j) * (if j = s then 0 - D.c s * (1 / D.a r s) else D.c j - D.c s * (D.a r j / D.a r s))
   have n3 := nz (D.free j)
   rw [h.a r s hr hs, h.c s hs]
   by_cases e2 : j = s
   · simp only [if_pos e2]
     exact ZL63
   · simp only [if_neg e2]
     rw [h.c j hj, h.a r j hr hj]
     exact ZL109
end
section
variable {m n : Nat} {A A' : Nat → Nat → Rat} {b c b' c' : Nat → Rat}
end
def CerE (m n : Nat) (A : Nat → Nat → Rat) (b c : Nat → Rat) : LpEnd → Prop
 | .full => True
 | .none y => CerN m n A b y
 | .ray x => CerR m n A c x ∧ ∃ z, Sol m n A b z
 | .best x y => CerB m n A b c x y
section
variable {m n : Nat} {A A' : Nat → Nat → Rat} {b c b' c' : Nat → Rat}
theorem sol_congr {x : Nat → Rat} (hA : ∀ i j, i < m → j < n → A i j = A' i j) (hb : ∀ i, i < m → b i = b' i) (h : Sol m n A b x) : Sol m n A' b' x := ⟨h.1, fun i hi => by
 rw [← hb i hi, ← smQ_congr (f := fun j => A i j * x j) (fun j hj => by rw [hA i j hi hj])]
 exact h.2 i hi⟩
theorem pri_congr {y : Nat → Rat} (hA : ∀ i j, i < m → j < n → A i j = A' i j) (hc : ∀ j, j < n → c j = c' j) (h : Pri m n A c y) : Pri m n A' c' y := ⟨h.1, fun k hk => by
 rw [← hc k hk, ← smQ_congr (f := fun i => y i * A i k) (fun i hi => by rw [hA i k hi hk])]
 exact h.2 k hk⟩
theorem CerE.congr (hA : ∀ i j, i < m → j < n → A i j = A' i j) (hb : ∀ i, i < m → b i = b' i) (hc : ∀ j, j < n → c j = c' j) {E : LpEnd} (h : CerE m n A b c E) : CerE m n A' b' c' E := by
 have e1 : ∀ y : Nat → Rat, smQ (fun i => y i * b i) m = smQ (fun i => y i * b' i) m := fun y => smQ_congr fun i hi => by rw [hb i hi]
 have e2 : ∀ x : Nat → Rat, smQ (fun j => c j * x j) n = smQ (fun j => c' j * x j) n := fun x => smQ_congr fun j hj => by rw [hc j hj]
 cases E with
 | full => exact True.intro
 | none y => exact ⟨pri_congr hA (fun _ _ => rfl) h.1, by rw [← e1]; exact h.2⟩
 | ray x => exact ⟨⟨sol_congr hA (fun _ _ => rfl) h.1.1, by rw [← e2]; exact h.1.2⟩, by obtain ⟨z, hz⟩ := h.2; exact ⟨z, sol_congr hA hb hz⟩⟩
 | best x y => exact ⟨sol_congr hA hb h.1, pri_congr hA hc h.2.1, by rw [← e1, ← e2]; exact h.2.2⟩
end
theorem ofF_allP9 {α : Type} {p : α → Bool} {n : Nat} {f : Nat → α} (h : ∀ i, i < n → p (f i) = true) : (ofF n f).all p = true := List.all_eq_true.2 fun x hx => by
 obtain ⟨i, hi, rfl⟩ := List.mem_iff_getElem.1 hx
 have hi' : i < n := by rw [ofF_len] at hi; exact hi
 have := ofF_get (f := f) hi'
 rw [List.getElem?_eq_getElem hi] at this
 rw [Option.some.inj this]
 exact h i hi'
theorem rowF_parts {n : Nat} {X : Rv} (h : rowF (n : Int) X = true) : X.a.length = n ∧ X.b.ok = true ∧ X.a.all Fv.ok = true := by
 unfold rowF at h
 rw [Bool.and_eq_true, Bool.and_eq_true, decide_eq_true_eq] at h
 exact ⟨by omega, h.1.2, h.2⟩
section
variable {m n k u t : Nat} {l : List Fv} {ls : List Rv} {V : Nat → Rv}
end
section
variable {P : Program} {o : Oper} {a : Act} {KK : Act → World → Prop} {Q : Exit → Act → World → Prop} {w W : World} {L L' X : List Blk} {D : List Hl}
theorem St.appWOp {α : Type} {sz : Nat} {enc : α → List Value} {e : TypeId} {v : Value} {l : List α} (K : St w (X ++ L) D W) (ho : OwL sz enc e v l X) (hs : Sized sz enc) (s x : Operand) (t : TypeId)
 (hop : o.op = .call { callee := .builtin .append, args := #[s, x], argTypes := #[t, t] }) (z : Array Value) (bytes : Nat) (ht : P.underlying t = some (.slice e)) (hi : (P.info? e).map (fun i => (i.zero.map (·.cells), i.size, i.bytes)) = some (some z, sz, bytes)) (hz : z.size = sz)
 (hv : a.eval s = v) (A : Option Addr) (n cap : Nat) (l2 : List α) (hx : a.eval x = .slice A n cap) (hr : Rd sz (flat enc) W W.heap.size A n cap l2) (hlen : l.length + n ≤ 1000000) (hbb : bytes ≤ 1000)
 (h : ∀ v' X' W', OwL sz enc e v' (l ++ l2) X' → St w (X' ++ L) D W' → KK (a.put o.dst v') W') : o.wp P a W KK Q := by
 obtain ⟨i, h1, h2⟩ := Option.map_eq_some_iff.1 hi
 simp only [Prod.mk.injEq] at h2
 obtain ⟨h2, h3, h4⟩ := h2
 obtain ⟨zv, h5, h6⟩ := Option.map_eq_some_iff.1 h2
 have hbyt : (l.length + n) * bytes ≤ 1000000 * 1000 := Nat.mul_le_mul hlen hbb
 obtain ⟨v', W', hrun, g1, g2, g3⟩ := run_app (P := P) W hs w.heap.size t o.type e i zv bytes ht h1 h5 h3 h4 (by rw [h6, hz]) v l (ho.own hs K) W.heap.size A n cap l2 hr (by unfold maxLen; omega) (by omega) K.1.size
 obtain ⟨X', hX, K'⟩ := ho.of hs K g1 (grown_kept g2) (fun g hg => by
  exact ZL88)
 unfold Oper.wp execOp
 simp only [hop, resolve, invoke, builtin, Sem.run_bind, Sem.run_pure, Result.andThen_ok, List.map_toArray, List.map_cons, List.map_nil, hv, hx, hrun]
 exact h v' X' W' hX K'
end
section
variable {P : Program} {ops : Array Oper} {Q : Exit → Act → World → Prop} {md : Region.Mode} {S : World → Prop} {n : Nat}
end
theorem rd_frz {W : World} {n g cap : Nat} {u : Nat → Rw} {J : List Value} {f : Nat → Fv} (hB : Hb W g (rwA n u J) 50) (ho : ∀ i, i < n → (u i).on W) (hf : ∀ i, i < n → (u i).fv = f i) (hn : n ≤ 1000000) (hcap : n ≤ cap ∧ cap ≤ 9223372036854775807) :
 RdF W W.heap.size (some ⟨g, 0, none⟩) n cap (ofF n f) := by
 refine ⟨ofF_len, hcap.1, ⟨hcap.2, by omega⟩, fun _ => ⟨g, 0, rfl, hB.lt, fun k hk => ?_⟩⟩
 rw [ofF_len] at hk
 refine ⟨(u k).cs, ?_, rfl, fun j v hv => ?_⟩
 · have e : (ofF n f)[k]'(by rw [ofF_len]; exact hk) = (u k).fv := by
    have := ofF_get (f := f) hk
    rw [List.getElem?_eq_getElem (by rw [ofF_len]; exact hk)] at this
    rw [Option.some.inj this, hf k hk]
   rw [e]
   exact ⟨_, _, _, _, _, _, rfl, (ho k hk).1, (ho k hk).2⟩
 · have hj : j < 4 := (List.getElem?_eq_some_iff.1 hv).1
   rw [Nat.zero_add]
   exact hB.cell ((rwA_get (by omega) hj).trans hv)
theorem St.frz {w0 W : World} {L : List Blk} {D : List Hl} {n g cap : Nat} {u : Nat → Rw} {J : List Value} {f : Nat → Fv} (K : St w0 ((g, rwA n u J, 50) :: L) D W) (ho : ∀ V : World, w0.heap.size ≤ V.heap.size → (∀ b, b < w0.heap.size → V.heap[b]? = w0.heap[b]?) → ∀ i, i < n → (u i).on V) (hf : ∀ i, i < n → (u i).fv = f i) (hn : n ≤ 1000000) (hcap : n ≤ cap ∧ cap ≤ 9223372036854775807) :
 (⟨fun V => RdF V V.heap.size (some ⟨g, 0, none⟩) n cap (ofF n f), fun b => b = g ∨ oldS w0 b⟩ : Hl).ok L W := by
 have hB := K.blk (b := g) List.mem_cons_self
 have hP := K.2.2.1
 rw [List.pairwise_cons] at hP
 refine ⟨rd_frz hB (ho W K.1.size fun b hb => K.1.block b hb) hf hn hcap, fun b hS => ?_, fun W' h1 h2 => rd_frz (hB.of (h2 g (Or.inl rfl))) (ho W' (Nat.le_trans K.1.size h1) fun b hb => (h2 b (Or.inr hb)).trans (K.1.block b hb)) hf hn hcap⟩
 rcases hS with rfl | hS
 · exact ⟨hB.lt, fun p hp e => hP.1 p hp e.symm⟩
 · refine ⟨Nat.lt_of_lt_of_le hS K.1.size, fun p hp e => ?_⟩
   have h1 := (K.2.1 p (List.mem_cons_of_mem _ hp)).1
   have h3 : b < w0.heap.size := hS
   omega
theorem St.outer {w0 W : World} {X L : List Blk} {D : List Hl} {b : Blk} (K : St w0 (X ++ (b :: L)) D W) : St w0 (b :: (X ++ L)) D W := K.perm List.perm_middle.symm
theorem copied6_own (A : Option Addr) (m cap n : Nat) (l : List Rv) (w0 W : World) (L : List Blk) (D : List Hl) (K : St w0 L D W) (hl : RdR w0 w0.heap.size A m cap l) (hm : m ≤ 1000) (hrow : ∀ (k : Nat) x, l[k]? = some x → x.a.length = n) (hn0 : 0 < n) (hn : n ≤ 1000) :
 Calls Tryz.prog 86 #[.slice A m cap] W fun e W' => ∃ (u : Nat → Rr) (S : Nat → Nat → Prop) (v : Value) (X : List Blk), e = .returned v ∧ Hid (∀ j, j < m → ∃ x, l[j]? = some x ∧ (u j).rv = x ∧ (u j).n = n) ∧ Hid (OwL 5 Rr.cs 56 v (ofF m u) X) ∧ St w0 (X ++ L) (rrF m u S :: D) W' := by
 have hcap := hl.caps
 have HL := Lib.hid hl
 have HRow := Lib.hid hrow
 clear hl hrow
 go_enter Tryz.func86, Tryz.ntmps86
 go_wp2_with fail
 go_loopg [3, 4] m (fun gk s3 s4 wr => ∃ (k : Nat) (u : Nat → Rr) (S : Nat → Nat → Prop) (val : Value) (X : List Blk), k ≤ m ∧ gk = m - k ∧ s3 = val ∧ s4 = .int .i64 k ∧ Hid (∀ j, j < k → ∃ x, l[j]? = some x ∧ (u j).rv = x ∧ (u j).n = n) ∧ OwL 5 Rr.cs 56 val (ofF k u) X ∧ St w0 (X ++ L) (rrF k u S :: D) wr)
 case atStart => exact ⟨0, fun _ => Rr.zero, fun _ _ => False, _, [], Nat.zero_le _, rfl, rfl, rfl, Lib.hid (fun j h => absurd h (by omega)), OwL.nil, K.rrNew⟩
 case round =>
  clear K
  obtain ⟨k, u, S, val, X, hk, rfl, rfl, rfl, HV, ho, K⟩ := hrel
  by_cases hlt : k < m
  · obtain ⟨eb, off, A0, n0, c0, A1, n1, c1, A2, n2, c2, x, hA, hbB, hx, ⟨z0, z1, z2, z3, z4⟩, r0, r1, r2⟩ := HL.out.atR hlt
    subst hA
    have hki : (k : Int) < (m : Int) := by omega
    have hk0 : (0 : Int) ≤ (k : Int) := by omega
    have hn0e : n = n0 := by have h1 := HRow.out k x hx; have h2 := r0.len; omega
    subst hn0e
    have hcap0 := r0.caps
    have hcap1 := r1.caps
    have hcap2 := r2.caps
    obtain ⟨v, rv, rd, hfv⟩ := rdF_raw r0
    have Hrv := Lib.hid rv
    have Hrd := Lib.hid rd
    have Hfv := Lib.hid hfv
    have Hx := Lib.hid hx
    have Hr1 := Lib.hid r1
    have Hr2 := Lib.hid r2
    have HS := Lib.hid (fun V (h : Below w0.heap.size w0 V) => (show (V.cell? ⟨eb, off + k * 5, none⟩ = some (.slice A0 n c0) ∧ V.cell? ⟨eb, off + k * 5 + 1, none⟩ = some (.int .i64 x.b.s) ∧ V.cell? ⟨eb, off + k * 5 + 2, none⟩ = some (.slice A1 n1 c1) ∧ V.cell? ⟨eb, off + k * 5 + 3, none⟩ = some (.int .i64 x.b.t) ∧ V.cell? ⟨eb, off + k * 5 + 4, none⟩ = some (.slice A2 n2 c2)) from ⟨(h.cell (p := ⟨eb, off + k * 5, none⟩) hbB).trans z0, (h.cell (p := ⟨eb, off + k * 5 + 1, none⟩) hbB).trans z1, (h.cell (p := ⟨eb, off + k * 5 + 2, none⟩) hbB).trans z2, (h.cell (p := ⟨eb, off + k * 5 + 3, none⟩) hbB).trans z3, (h.cell (p := ⟨eb, off + k * 5 + 4, none⟩) hbB).trans z4⟩))
    have Ho := Lib.hid ho
    obtain ⟨Ah, nh, ch, hvs⟩ := ho.shape
    subst hvs
    clear z0 z1 z2 z3 z4 r0 r1 r2 hx ho rv rd hfv
    go_upto_region 5 with fail
    have K0 := K.drew
    have s0 := HS.out _ K0.1
    clear K
    refine wp_region_T 100 (fun V => (V.cell? ⟨eb, off + k * 5, none⟩ = some (.slice A0 n c0) ∧ V.cell? ⟨eb, off + k * 5 + 1, none⟩ = some (.int .i64 x.b.s) ∧ V.cell? ⟨eb, off + k * 5 + 2, none⟩ = some (.slice A1 n1 c1) ∧ V.cell? ⟨eb, off + k * 5 + 3, none⟩ = some (.int .i64 x.b.t) ∧ V.cell? ⟨eb, off + k * 5 + 4, none⟩ = some (.slice A2 n2 c2))) (by kernel_rfl) s0 (fun hSh => ?_)
    clear s0
    generalize World.drew wr = V0 at K0 hSh ⊢
    refine wpAnyT.tk 0 rfl ?_
    refine wpAnyT.tk 2 rfl ?_
    refine wpAnyT.tk 3 rfl ?_
    refine wpAnyT.tk 4 rfl ?_
    refine wpAnyT.tk 5 rfl ?_
    refine wpAnyT.tk 6 rfl ?_
    refine wpAnyT.tk 8 rfl ?_
    refine wpAnyT.tk 9 rfl ?_
    refine wpAnyT.tk 10 rfl ?_
    refine wpAnyT.tk 11 rfl ?_
    refine wpAnyT.tk 12 rfl ?_
    refine wpAnyT.on 1 rfl fun KK hKK => ?_
    go_simp
    have k1 := K0.new #[] 50
    have Ho1 := Lib.hid (OwL.empty (α := Rw) 4 Rw.cs 50 V0.heap.size)
    generalize V0.heap.size = g1 at k1 Ho1 ⊢
    generalize V0.alloc (.cells #[] 50) = V1 at k1 ⊢
    refine hKK.out _ _ (HS.out _ k1.1) (fun hSh => ?_)
    clear hKK KK
    refine ZPT ?_
    refine wpAnyT.on 7 rfl fun KK hKK => ?_
    refine St.appWOp (X := [(g1, #[], 50)]) k1 Ho1.out rw_sized _ _ 23 rfl _ 64 Tryz.underlying23 frac_made rfl rfl _ n c0 (ofF n v) rfl (Hrv.out.up (flat_lasts _) k1.1) (by simp; omega) (by omega) ?_
    intro v2 X2 V2 ho2 k2
    rw [List.nil_append] at ho2
    obtain ⟨g, gc, J, hv2, hX2, HJ⟩ := ho2.blkJ hn0
    subst hv2 hX2
    refine hKK.out _ _ (HS.out _ k2.1) (fun hSh => ?_)
    clear hKK KK
    refine ZPT ?_
    refine wpAnyT.tk 13 rfl ?_
    refine wpAnyT.on 14 rfl fun KK hKK => ?_
    refine k2.litOp _ _ rfl _ rfl _ _ (run_litR _ _ _ _ _ _ _ _ _ _ _ _) ?_
    intro g3 V3 k3
    refine hKK.out _ _ (HS.out _ k3.1) (fun hSh => ?_)
    clear hKK KK
    refine ZPT ?_
    refine wpAnyT.on 15 rfl fun KK hKK => ?_
    have k4 : St w0 (X ++ ((g3, _, 56) :: ([(g, rwA n v J, 50)] ++ L))) _ V3 := k3.perm (List.perm_append_comm_assoc X [(g3, _, 56), (g, rwA n v J, 50)] L)
    refine k4.appOp Ho.out rr_sized _ _ 22 rfl _ 88 Tryz.underlying22 row_made rfl rfl (⟨some ⟨g, 0, none⟩, n, gc, x.a, ⟨x.b.s, A1, n1, c1, x.b.l, x.b.t, A2, n2, c2, x.b.m⟩⟩ : Rr) g3 _ (by exact List.mem_cons_self) rfl (by rw [ofF_len]; omega) (by omega) ?_
    intro v5 X5 V5 ho5 k5
    replace k5 := k5.cutm
    refine hKK.out _ _ (HS.out _ k5.1) (fun hSh => ?_)
    clear hKK KK
    refine ZPT ?_
    refine wpAnyT.tk 16 rfl ?_
    refine wpAnyT.done (by kernel_rfl) ?_
    rw [ofF_put] at ho5
    have k6 : St w0 ((g, rwA n v J, 50) :: (X5 ++ L)) _ V5 := k5.outer
    have hgc : n ≤ gc ∧ gc ≤ 9223372036854775807 := ⟨HJ.out.1, by have := HJ.out.2.1; unfold maxLen at this; omega⟩
    have hf1 := k6.frz (f := fun i => (v i).fv) (cap := gc) (fun V h1 h2 i hi => ⟨rdP_keep (Hrd.out i hi).1 h1 fun b hS => h2 b (Rd.sup (Hrd.out i hi).1 hS), rdP_keep (Hrd.out i hi).2 h1 fun b hS => h2 b (Rd.sup (Hrd.out i hi).2 hS)⟩) (fun _ _ => rfl) (by omega) hgc
    have hxa : (ofF n fun i => (v i).fv) = x.a := List.ext_getElem? fun j => by
     by_cases hj : j < n
     · rw [ofF_get hj, Hfv.out j hj]
     · rw [List.getElem?_eq_none (by rw [ofF_len]; omega), List.getElem?_eq_none (by rw [HRow.out k x Hx.out]; omega)]
    rw [hxa] at hf1
    have k7 := k6.part (L' := X5 ++ L) (List.sublist_cons_self _ _)
    have hy : (⟨(⟨some ⟨g, 0, none⟩, n, gc, x.a, ⟨x.b.s, A1, n1, c1, x.b.l, x.b.t, A2, n2, c2, x.b.m⟩⟩ : Rr).on, _⟩ : Hl).ok (X5 ++ L) V5 := hf1.and (k7.okOld fun V h1 h2 => ⟨Hr1.out.keep (flat_lasts _) h1 (fun p hp => cell_of (h2 _ hp)), Hr2.out.keep (flat_lasts _) h1 (fun p hp => cell_of (h2 _ hp))⟩)
    have HK := Lib.hid ((k7.rrAdd (u := u) (S := S) List.mem_cons_self _ _ hy).lessS (D' := rrF (k + 1) (putF u k (⟨some ⟨g, 0, none⟩, n, gc, x.a, ⟨x.b.s, A1, n1, c1, x.b.l, x.b.t, A2, n2, c2, x.b.m⟩⟩ : Rr)) _ :: D) (List.Sublist.cons_cons _ (List.sublist_cons_self _ _)))
    have HV2 := Lib.hid (show ∀ j, j < k + 1 → ∃ z, l[j]? = some z ∧ (putF u k (⟨some ⟨g, 0, none⟩, n, gc, x.a, ⟨x.b.s, A1, n1, c1, x.b.l, x.b.t, A2, n2, c2, x.b.m⟩⟩ : Rr) j).rv = z ∧ (putF u k (⟨some ⟨g, 0, none⟩, n, gc, x.a, ⟨x.b.s, A1, n1, c1, x.b.l, x.b.t, A2, n2, c2, x.b.m⟩⟩ : Rr) j).n = n from fun j hj => by
     by_cases e : j = k
     · refine ⟨x, by rw [e]; exact Hx.out, ?_⟩
       rw [e, putF_same]
       exact ⟨rfl, rfl⟩
     · obtain ⟨x', g1, g2⟩ := HV.out j (by omega)
       exact ⟨x', g1, by rw [putF_other e]; exact g2⟩)
    have Ho8 := Lib.hid ho5
    obtain ⟨AH, nH, cH, hhv⟩ := ho5.shape
    subst hhv
    clear k7 k6 k5 k4 k3 k2 k1 K0 ho5 HV Ho hSh hy hf1 hxa ho2 Ho1
    go_wp2_with fail
    go_roundg (m - (k + 1))
    case rel => exact ⟨k + 1, putF u k (⟨some ⟨g, 0, none⟩, n, gc, x.a, ⟨x.b.s, A1, n1, c1, x.b.l, x.b.t, A2, n2, c2, x.b.m⟩⟩ : Rr), _, _, X5, hlt, rfl, rfl, by go_num, HV2, Ho8.out, HK.out⟩
    case measure => omega
  · have e : m = k := by omega
    subst e
    obtain ⟨Ah, nh, ch, hvs⟩ := ho.shape
    subst hvs
    have HX := Lib.hid (⟨u, S, _, X, rfl, HV, Lib.hid ho, K⟩ : ∃ (u : Nat → Rr) (S : Nat → Nat → Prop) (v : Value) (X : List Blk), Ending.returned (.slice Ah nh ch) = .returned v ∧ Hid (∀ j, j < m → ∃ x, l[j]? = some x ∧ (u j).rv = x ∧ (u j).n = n) ∧ Hid (OwL 5 Rr.cs 56 v (ofF m u) X) ∧ St w0 (X ++ L) (rrF m u S :: D) wr)
    clear K HV ho
    go_wp2_with fail
    go_ret
    exact HX.out
end Go.Proofs.YtdlcglndhhndpaaGreat
