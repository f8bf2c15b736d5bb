/- Walk over the step within prices of package idle. Conditions stand in the theorem. -/
import Derived.Test.YtmcamadcoglodaaK2
import Derived.Test.YtmcamadcoglodaaQ6
namespace Go.Proofs.Ytmcamadcoglodaa
open Go.RowKit
set_option linter.unusedVariables false

/-- the numbers of a table are from 0 to M -/
structure Tab (cl : List (List Int)) (m n : Nat) (M : Int) : Prop where
  len : cl.length = m
  row : ∀ r, r < m → (clAt cl r).length = n
  bd : ∀ r k, r < m → k < n → 0 ≤ tb cl r k ∧ tb cl r k ≤ M
  mn : 1 ≤ m ∧ m ≤ n ∧ n ≤ 40 ∧ m ≤ 20
  hM : 0 ≤ M ∧ M ≤ 68719476736
def cT (cl : List (List Int)) : Nat → Nat → Int := fun r k => tb cl (r - 1) (k - 1)
theorem Tab.bd1 {cl : List (List Int)} {m n : Nat} {M : Int} (h : Tab cl m n M) : ∀ r k, 1 ≤ r → r ≤ m → 1 ≤ k → k ≤ n → 0 ≤ cT cl r k ∧ cT cl r k ≤ M := fun r k h1 h2 h3 h4 => h.bd (r - 1) (k - 1) (by omega) (by omega)
theorem Rd.atT {w : World} {B : Nat} {A : Option Addr} {cap : Nat} {cl : List (List Int)} {m n : Nat} {M : Int} (ht : Tab cl m n M) (h : RdII w B A m cap cl) {r k : Nat} (hr : r < m) (hk : k < n) :
    ∃ b off b2 off2 cap2, A = some ⟨b, off, none⟩ ∧ w.cell? ⟨b, off + r, none⟩ = some (.slice (some ⟨b2, off2, none⟩) n cap2) ∧ n ≤ cap2 ∧ w.cell? ⟨b2, off2 + k, none⟩ = some (.int .i64 (tb cl r k)) := by
  obtain ⟨b, off, A', n', cap', x, rfl, hb, hx, c0, rx⟩ := h.atII hr
  have hcl := clAt_eq hx
  have hn : n' = n := by rw [← rx.len, ← hcl]; exact ht.row r hr
  subst hn
  obtain ⟨b2, off2, y, rfl, hb2, hy, c1⟩ := rx.atI hk
  have hcaps := rx.caps
  refine ⟨b, off, b2, off2, cap', rfl, c0, hcaps.1, ?_⟩
  rw [c1, tb, hcl, gi_eq hy]
def StepPost (w : World) (base n m : Nat) (hd : Iw) (b : Nat → Nat) (O : Nat → Nat) (D : Nat → Bool) (a : Nat) (p : Nat) (M far : Int) (c : Nat → Nat → Int) (e : Ending) (w' : World) : Prop :=
  ∃ (U V L : Nat → Int) (W : Nat → Nat) (nx : Nat), e = .returned (.int .i64 nx) ∧ HS w' base 16 n m hd b O W U V L (mark D a) a ∧ Hp m n p M far c U V O W L (mark D a) nx ∧ 1 ≤ nx ∧ ∀ B w0, B ≤ base → Below B w0 w → Below B w0 w'
set_option maxRecDepth 100000 in
set_option maxHeartbeats 2000000 in
theorem step_any (A : Option Addr) (cap : Nat) (cl : List (List Int)) (m n p a : Nat) (M : Int) (base : Nat) (b O W0 : Nat → Nat) (U V L0 : Nat → Int) (D : Nat → Bool) (w : World) (hl : RdII w base A m cap cl) (ht : Tab cl m n M)
    (hs : HS w base 16 n m (A, m, cap) b O W0 U V L0 D a) (hp : Hp m n p M 1152921504606846976 (cT cl) U V O W0 L0 D a) (hpm : p < m) (ha : O a ≠ 0) :
    Calls Try.prog 41 #[.pointer (some ⟨b 14, 0, none⟩), .pointer (some ⟨b 15, 0, none⟩), .pointer (some ⟨b 6, 0, none⟩), .pointer (some ⟨b 4, 0, none⟩), .pointer (some ⟨b 5, 0, none⟩), .pointer (some ⟨b 7, 0, none⟩), .pointer (some ⟨b 8, 0, none⟩), .pointer (some ⟨b 13, 0, none⟩), .pointer (some ⟨b 9, 0, none⟩)] w
      (StepPost w base n m (A, m, cap) b O D a p M 1152921504606846976 (cT cl)) := by
  have hcaps := hl.caps
  obtain ⟨⟨q1, q2, q3, q4⟩, q5, q6⟩ := And.intro ht.mn ht.hM
  have hale := hp.ale
  have hrow := hp.row hpm hale ha
  have hUb : ∀ r, 1 ≤ r → r ≤ m → 0 ≤ U r ∧ U r ≤ M := fun r h1 h2 => ⟨hp.mt.pos r, hp.mt.u_le (by omega) ht.bd1 h1 h2⟩
  have hVb : ∀ k, 1 ≤ k → k ≤ n → -M ≤ V k ∧ V k ≤ 0 := fun k h1 h2 => ⟨hp.mt.v_ge (by omega) (by omega) q5 ht.bd1 h1 h2, hp.mt.neg k h1 h2⟩
  have hpost : ∀ e w', StepPost w base n m (A, m, cap) b O D a p M 1152921504606846976 (cT cl) e w' = ∃ (U V L : Nat → Int) (W : Nat → Nat) (nx : Nat), e = .returned (.int .i64 nx) ∧ HS w' base 16 n m (A, m, cap) b O W U V L (mark D a) a ∧ Hp m n p M 1152921504606846976 (cT cl) U V O W L (mark D a) nx ∧ 1 ≤ nx ∧ ∀ B w0, B ≤ base → Below B w0 w → Below B w0 w' := fun _ _ => rfl
  have Hp0 := Lib.hid hp; have HUb := Lib.hid hUb; have HVb := Lib.hid hVb; have Ht := Lib.hid ht; have Hpost := Lib.hid hpost
  obtain ⟨v4, v5, v6, v7, v8, v9⟩ := hs.vars (by omega)
  obtain ⟨v12, v13, v14, -⟩ := hs.vars2 rfl
  obtain ⟨d0, d1⟩ := hs.cD rfl hale
  obtain ⟨R, hR⟩ : ∃ R, R = O a := ⟨_, rfl⟩
  have ha0 : (0 : Int) ≤ (a : Int) := by omega
  have han : (a : Int) < ((n + 1 : Nat) : Int) := by omega
  rw [← hR] at hrow
  obtain ⟨r1, r2, r3⟩ := hrow
  have HR := Lib.hid hR
  clear hp hUb hVb ht hpost hR
  generalize StepPost w base n m (A, m, cap) b O D a p M 1152921504606846976 (cT cl) = Q at *
  go_enter Try.func41, Try.ntmps41
  go_wp2_with (first
    | (refine wpList_st rfl _ _ _ rfl ⟨b 12, a, none⟩ (.bool true) rfl rfl rfl bool_size d0 d1 ?_
       intro w1 hw1
       have hs1 : HS w1 base 16 n m (A, m, cap) b O W0 U V L0 (mark D a) a := by rw [hw1]; exact hs.setD rfl hale
       have hb1 : ∀ B w0, B ≤ base → Below B w0 w → Below B w0 w1 := by rw [hw1]; exact hs.kept (a := 12) (by omega) (show a < n + 1 by omega) (.inr (.inl true))
       have hl1 := hl.below ii_lasts (hb1 _ _ (Nat.le_refl _) (Below.refl base w)) (Nat.le_refl _) (Nat.le_refl _)
       clear hs v4 v5 v6 v7 v8 v9 v12 v13 v14 d0 d1 hw1
       obtain ⟨v4, v5, v6, v7, v8, v9⟩ := hs1.vars (by omega)
       obtain ⟨v12, v13, v14, -⟩ := hs1.vars2 rfl
       obtain ⟨o0, -⟩ := hs1.cO (by omega) hale
       rw [← HR.out] at o0))
  go_loopg [11, 12, 13] n (fun gk dl nx i wr => ∃ (k : Nat) (W : Nat → Nat) (L : Nat → Int) (d : Int) (x : Nat), 1 ≤ k ∧ k ≤ n + 1 ∧ gk = n + 1 - k ∧ i = .int .i64 k ∧ dl = .int .i64 d ∧ nx = .int .i64 x ∧ HS wr base 16 n m (A, m, cap) b O W U V L (mark D a) a ∧ Scan n 1152921504606846976 (cT cl) U V O (mark D a) a W0 L0 k W L d x ∧ ∀ B w0, B ≤ base → Below B w0 w → Below B w0 wr)
  case atStart => exact ⟨1, W0, L0, _, 0, Nat.le_refl _, by omega, by omega, rfl, rfl, rfl, hs1, Scan.start, hb1⟩
  case round =>
    clear hs1 hb1 hl1 v4 v5 v6 v7 v8 v9 v12 v13 v14 o0
    obtain ⟨k, W, L, d, x, hk1, hk, rfl, rfl, rfl, rfl, hs, hsc, hb⟩ := hrel
    have Hsc := Lib.hid hsc
    have hl1 := hl.below ii_lasts (hb _ _ (Nat.le_refl _) (Below.refl base w)) (Nat.le_refl _) (Nat.le_refl _)
    obtain ⟨v4, v5, v6, v7, v8, v9⟩ := hs.vars (by omega)
    obtain ⟨v12, v13, v14, -⟩ := hs.vars2 rfl
    clear hsc
    by_cases hlt : k ≤ n
    · have hki : decide (k ≤ n) = true := by simpa using hlt
      have hki2 : decide ((k : Int) ≤ (n : Int)) = true := by simp; omega
      obtain ⟨d0, -⟩ := hs.cD rfl hlt
      have hk0 : (0 : Int) ≤ (k : Int) := by omega
      have hkn : (k : Int) < ((n + 1 : Nat) : Int) := by omega
      cases hD : mark D a k
      · obtain ⟨bA, oA, b2, o2, c2, rfl, e0, hc2, e1⟩ := Rd.atT Ht.out hl1 (r := R - 1) (k := k - 1) (by omega) (by omega)
        obtain ⟨t1, t2⟩ := Ht.out.bd (R - 1) (k - 1) (by omega) (by omega)
        have hT : cT cl R k = tb cl (R - 1) (k - 1) := rfl
        have hst : ∀ x y, _ := fun x y => Hsc.out.step hk1 hD (x := x) (y := y)
        rw [← HR.out, hT] at hst
        obtain ⟨u1, u2⟩ := HUb.out R (by omega) (by omega)
        obtain ⟨u3, u4⟩ := HVb.out k (by omega) (by omega)
        obtain ⟨f0, -⟩ := hs.cU (by omega) (k := R) (by omega)
        obtain ⟨f1, -⟩ := hs.cV (by omega) (k := k) (by omega)
        obtain ⟨f2, f3⟩ := hs.cL rfl (k := k) (by omega)
        obtain ⟨f4, f5⟩ := hs.cW (by omega) (k := k) (by omega)
        have Hst := Lib.hid hst
        rw [hD] at d0
        clear hT hst hD
        obtain ⟨t, hte⟩ : ∃ t, t = tb cl (R - 1) (k - 1) := ⟨_, rfl⟩
        obtain ⟨u, hu⟩ : ∃ u, u = U R := ⟨_, rfl⟩
        obtain ⟨v, hv⟩ : ∃ v, v = V k := ⟨_, rfl⟩
        obtain ⟨l, hle⟩ : ∃ l, l = L k := ⟨_, rfl⟩
        rw [← hte] at t1 t2 e1 Hst
        rw [← hu] at u1 u2 f0 Hst
        rw [← hv] at u3 u4 f1 Hst
        rw [← hle] at f2 Hst
        have Hle := Lib.hid hle
        clear hte hu hv hle
        obtain ⟨r, hr⟩ : ∃ r, r = R - 1 := ⟨_, rfl⟩
        obtain ⟨j, hj⟩ : ∃ j, j = k - 1 := ⟨_, rfl⟩
        rw [← hr] at e0
        rw [← hj] at e1
        have g1 : IntKind.i64.wrap ((R : Int) - 1) = (R : Int) - 1 := IntWalk.i64_in _ (by omega)
        have g2 : IntKind.i64.wrap ((k : Int) - 1) = (k : Int) - 1 := IntWalk.i64_in _ (by omega)
        have g3 : ((R : Int) - 1).toNat = r := by omega
        have g4 : ((k : Int) - 1).toNat = j := by omega
        have g5 : (0 : Int) ≤ (R : Int) - 1 := by omega
        have g6 : (R : Int) - 1 < (m : Int) := by omega
        have g7 : (0 : Int) ≤ (k : Int) - 1 := by omega
        have g8 : (k : Int) - 1 < (n : Int) := by omega
        have g9 : (0 : Int) ≤ (R : Int) := by omega
        have g10 : (R : Int) < ((m + 1 : Nat) : Int) := by omega
        have g11 : IntKind.i64.wrap (t - u) = t - u := IntWalk.i64_in _ (by omega)
        have g12 : IntKind.i64.wrap (t - u - v) = t - u - v := IntWalk.i64_in _ (by omega)
        clear hr hj
        by_cases hcl : t - u - v < l
        · have hcd : decide (t - u - v < l) = true := by simpa using hcl
          obtain ⟨c, hc⟩ : ∃ c, c = t - u - v := ⟨_, rfl⟩
          have HC := Lib.hid hc
          clear hc
          go_wp2
          go_quiet (fail)
          rename_i nq
          have hs2 := HS.drewN hs nq
          have hb2 : ∀ B w0, B ≤ base → Below B w0 w → Below B w0 (wr.drewN nq) := fun B w0 h1 h2 => below_drewN (hb B w0 h1 h2) nq
          clear hs hb hl1 v4 v5 v6 v7 v8 v9 v12 v13 v14 d0 e0 e1 f0 f1 f2 f3 f4 f5 g1 g2 g3 g4 g5 g6 g7 g8 g11 g12
          generalize wr.drewN nq = w2 at *
          obtain ⟨v4, v5, v6, v7, v8, v9⟩ := HS.vars hs2 (by omega)
          obtain ⟨v12, v13, v14, -⟩ := HS.vars2 hs2 rfl
          obtain ⟨f2, f3⟩ := HS.cL hs2 rfl (k := k) (by omega)
          obtain ⟨f4, f5⟩ := HS.cW hs2 (by omega) (k := k) (by omega)
          rw [← Hle.out] at f2
          rw [← HC.out] at hcl hcd ⊢
          have hne : b 11 ≠ b 3 := hs2.ne (a := 11) (b := 3) (by omega) (by omega) (by omega)
          have hne2 : b 3 ≠ b 11 := Ne.symm hne
          go_wp2
          go_region
          have hs3 := HS.drew (HS.setW (HS.setL hs2 rfl (k := k) (by omega) c) (by omega) (k := k) (by omega) a)
          have hb3 : ∀ B w0, B ≤ base → Below B w0 w → Below B w0 ((w2.setCell ⟨b 11, k, none⟩ (.int .i64 c)).setCell ⟨b 3, k, none⟩ (.int .i64 a)).drew := fun B w0 h1 h2 => (HS.kept (HS.setL hs2 rfl (k := k) (by omega) c) (a := 3) (by omega) (show k < n + 1 by omega) (.inl (a : Int)) B w0 h1 (HS.kept hs2 (a := 11) (by omega) (show k < n + 1 by omega) (.inl c) B w0 h1 (hb2 B w0 h1 h2))).drew
          clear hs2 hb2 v4 v5 v6 v7 v8 v9 v12 v13 v14 f2 f3 f4 f5
          generalize ((w2.setCell ⟨b 11, k, none⟩ (.int .i64 c)).setCell ⟨b 3, k, none⟩ (.int .i64 a)).drew = w3 at *
          obtain ⟨v4, v5, v6, v7, v8, v9⟩ := HS.vars hs3 (by omega)
          obtain ⟨v12, v13, v14, -⟩ := HS.vars2 hs3 rfl
          obtain ⟨f2, f3⟩ := HS.cL hs3 rfl (k := k) (by omega)
          simp only [if_true] at f2
          by_cases hcx : c < d
          · have hxd : decide (c < d) = true := by simpa using hcx
            have Hn := Lib.hid (Hst.out c a (Or.inl ⟨HC.out, rfl, hcl⟩) (Or.inl ⟨hcx, rfl, rfl⟩))
            clear hcl hcx
            go_wp2
            go_roundg (n + 1 - (k + 1))
            case rel => exact ⟨k + 1, _, _, c, k, by omega, by omega, rfl, by go_num, rfl, rfl, hs3, Hn.out, hb3⟩
            case measure => omega
          · have hxd : decide (c < d) = false := by simpa using hcx
            have Hn := Lib.hid (Hst.out c a (Or.inl ⟨HC.out, rfl, hcl⟩) (Or.inr ⟨by omega, rfl, rfl⟩))
            clear hcl hcx
            go_wp2
            go_roundg (n + 1 - (k + 1))
            case rel => exact ⟨k + 1, _, _, d, x, by omega, by omega, rfl, by go_num, rfl, rfl, hs3, Hn.out, hb3⟩
            case measure => omega
          all_goals exact (0 : Nat)
        · have hcd : decide (t - u - v < l) = false := by simpa using hcl
          go_wp2
          go_quiet (fail)
          rename_i nq
          have hs2 := HS.drewN hs nq
          have hb2 : ∀ B w0, B ≤ base → Below B w0 w → Below B w0 (wr.drewN nq) := fun B w0 h1 h2 => below_drewN (hb B w0 h1 h2) nq
          clear hs hb hl1 v4 v5 v6 v7 v8 v9 v12 v13 v14 d0 e0 e1 f0 f1 f2 f3 f4 f5 g1 g2 g3 g4 g5 g6 g7 g8 g11 g12
          generalize wr.drewN nq = w2 at *
          obtain ⟨v4, v5, v6, v7, v8, v9⟩ := HS.vars hs2 (by omega)
          obtain ⟨v12, v13, v14, -⟩ := HS.vars2 hs2 rfl
          obtain ⟨f2, f3⟩ := HS.cL hs2 rfl (k := k) (by omega)
          obtain ⟨f4, f5⟩ := HS.cW hs2 (by omega) (k := k) (by omega)
          rw [← Hle.out] at f2
          have hs3 : HS w2 base 16 n m (some ⟨bA, oA, none⟩, m, cap) b O (fun q => if q = k then W k else W q) U V (fun q => if q = k then l else L q) (mark D a) a := by
            have e1 : (fun q => if q = k then W k else W q) = W := by funext q; by_cases e : q = k <;> simp [e]
            have e2 : (fun q => if q = k then l else L q) = L := by funext q; by_cases e : q = k <;> simp [e, Hle.out]
            rw [e1, e2]; exact hs2
          by_cases hcx : l < d
          · have hxd : decide (l < d) = true := by simpa using hcx
            have Hn := Lib.hid (Hst.out l (W k) (Or.inr ⟨rfl, rfl, by omega⟩) (Or.inl ⟨hcx, rfl, rfl⟩))
            clear hcl hcx
            go_wp2
            go_roundg (n + 1 - (k + 1))
            case rel => exact ⟨k + 1, _, _, l, k, by omega, by omega, rfl, by go_num, rfl, rfl, hs3, Hn.out, hb2⟩
            case measure => omega
          · have hxd : decide (l < d) = false := by simpa using hcx
            have Hn := Lib.hid (Hst.out l (W k) (Or.inr ⟨rfl, rfl, by omega⟩) (Or.inr ⟨by omega, rfl, rfl⟩))
            clear hcl hcx
            go_wp2
            go_roundg (n + 1 - (k + 1))
            case rel => exact ⟨k + 1, _, _, d, x, by omega, by omega, rfl, by go_num, rfl, rfl, hs3, Hn.out, hb2⟩
            case measure => omega
      · have Hk := Lib.hid (Hsc.out.skip hD)
        rw [hD] at d0
        clear hD
        go_wp2
        go_roundg (n + 1 - (k + 1))
        case rel => exact ⟨k + 1, W, L, d, x, by omega, by omega, rfl, by go_num, rfl, rfl, hs, Hk.out, hb⟩
        case measure => omega
    · have e : k = n + 1 := by omega
      subst e
      have hki : decide (n + 1 ≤ n) = false := by simp
      have hki2 : decide (((n + 1 : Nat) : Int) ≤ (n : Int)) = false := by simp; omega
      have hsn := Hp0.out.seen hpm q2 q5 (by omega) Ht.out.bd1 ha Hsc.out
      have hd2 : d ≤ 2 * M := by
        have h1 := hsn.low x hsn.n1 hsn.n2 hsn.nd a (mark_self D a)
        have h2 := hsn.dL
        have h3 := Ht.out.bd1 (O a) x (by have := HR.out; omega) (by have := HR.out; omega) hsn.n1 hsn.n2
        have h4 := HUb.out (O a) (by have := HR.out; omega) (by have := HR.out; omega)
        have h5 := HVb.out x hsn.n1 hsn.n2
        omega
      have hd0 := hsn.d0
      have hLb : ∀ k, 1 ≤ k → k ≤ n → mark D a k = false → 0 ≤ L k ∧ L k ≤ 2 * M := fun k h1 h2 h3 => by
        have q1 := hsn.low k h1 h2 h3 a (mark_self D a)
        have q2 := hsn.dl k h1 h2 h3
        have q3 := Ht.out.bd1 (O a) k (by have := HR.out; omega) (by have := HR.out; omega) h1 h2
        have q4 := HUb.out (O a) (by have := HR.out; omega) (by have := HR.out; omega)
        have q5 := HVb.out k h1 h2
        omega
      have hD0 : mark D a 0 = true := by
        by_cases e : a = 0
        · subst e; exact mark_self D 0
        · exact mark_of (Hp0.out.d0 e)
      have hVb2 : ∀ k, k ≤ n → -(20 * M) ≤ V k ∧ V k ≤ 0 := fun k hk => by
        by_cases e : k = 0
        · subst e
          have h1 := Hp0.out.v0
          have h2 := (HUb.out (p + 1) (by omega) (by omega)).2
          have h3 : (p : Int) * M ≤ 19 * M := Int.mul_le_mul_of_nonneg_right (by omega) q5
          omega
        · have := HVb.out k (by omega) hk
          omega
      have hRow : ∀ k, k ≤ n → mark D a k = true → 1 ≤ O k ∧ O k ≤ m ∧ ∀ j, j < k → mark D a j = true → O j ≠ O k := fun k h1 h2 => by
        have h3 := (Hp0.out.dn' ha h2).2
        have h4 := Hp0.out.row hpm h1 h3
        refine ⟨h4.1, h4.2.1, fun j hj hjd e => ?_⟩
        have h5 := Hp0.out.dn' ha hjd
        have := Hp0.out.oinj h5.1 h1 h5.2 e
        omega
      have Hnext := Lib.hid (fun U' V' L' hh => Hp0.out.next hpm ha (fun q hq => (Hsc.out.old q (Or.inr (Or.inl hq))).1) hsn (U' := U') (V' := V') (L' := L') hh)
      have Hx := Lib.hid hsn.n1
      have HLb := Lib.hid hLb; have HD0 := Lib.hid hD0; have HV2 := Lib.hid hVb2; have HRow := Lib.hid hRow
      clear hsn hLb hD0 hVb2 hRow hl1 v5 v9 hlt hki hki2 hk hk1
      generalize hDD : mark D a = D' at *
      go_wp2
      clear v4 v6 v7 v8 v12 v13 v14
      go_loopg [15] (n + 1) (fun gk i w9 => ∃ (k : Nat) (U' V' L' : Nat → Int), k ≤ n + 1 ∧ gk = n + 1 - k ∧ i = .int .i64 k ∧ HS w9 base 16 n m (A, m, cap) b O W U' V' L' D' a ∧ Shift O D' d U V L k U' V' L' ∧ ∀ B w0, B ≤ base → Below B w0 w → Below B w0 w9)
      case atStart => exact ⟨0, U, V, L, Nat.zero_le _, rfl, rfl, hs, Shift.start, hb⟩
      case round =>
        clear hs hb
        obtain ⟨k, U', V', L', hk, rfl, rfl, hs, hsh, hb⟩ := hrel
        have Hsh := Lib.hid hsh
        obtain ⟨v4, v5, v6, v7, v8, v9⟩ := HS.vars hs (by omega)
        obtain ⟨v12, v13, v14, -⟩ := HS.vars2 hs rfl
        clear hsh
        by_cases hlt : k ≤ n
        · have hki : decide (k ≤ n) = true := by simpa using hlt
          have hki2 : decide ((k : Int) ≤ (n : Int)) = true := by simp; omega
          obtain ⟨d0, -⟩ := HS.cD hs rfl hlt
          have hk0 : (0 : Int) ≤ (k : Int) := by omega
          have hkn : (k : Int) < ((n + 1 : Nat) : Int) := by omega
          cases hD : D' k
          · have hk1 : 1 ≤ k := by
              by_cases e : k = 0
              · subst e; rw [HD0.out] at hD; cases hD
              · omega
            obtain ⟨l1, l2⟩ := HLb.out k hk1 hlt hD
            have hl3 := Hsh.out.l k
            rw [if_neg (by omega)] at hl3
            obtain ⟨f2, f3⟩ := HS.cL hs rfl (k := k) (by omega)
            have Hn := Lib.hid (Hsh.out.no hD)
            rw [hl3] at f2 Hn
            rw [hD] at d0
            obtain ⟨l, hle⟩ : ∃ l, l = L k := ⟨_, rfl⟩
            rw [← hle] at l1 l2 f2 Hn
            have g1 : IntKind.i64.wrap (l - d) = l - d := IntWalk.i64_in _ (by omega)
            clear hD hl3 hle
            go_wp2_with (first
              | (refine wpList_st rfl _ _ _ rfl ⟨b 11, k, none⟩ (.int .i64 (l - d)) rfl rfl rfl int_size f2 f3 ?_
                 intro w1 hw1
                 have hs1 := HS.setL hs rfl hlt (l - d)
                 have hb1 := fun B w0 h1 h2 => HS.kept hs (a := 11) (by omega) (show k < n + 1 by omega) (.inl (l - d)) B w0 h1 (hb B w0 h1 h2)
                 rw [← hw1] at hs1
                 have hb2 : ∀ B w0, B ≤ base → Below B w0 w → Below B w0 w1 := by rw [hw1]; exact hb1
                 clear hs v4 v5 v6 v7 v8 v9 v12 v13 v14 d0 hw1 hb1 f2 f3 hb))
            go_roundg (n + 1 - (k + 1))
            case rel => exact ⟨k + 1, _, _, _, by omega, rfl, by go_num, hs1, Hn.out, hb2⟩
            case measure => omega
          · obtain ⟨y1, y2, y3⟩ := HRow.out k hlt hD
            have hu3 := Hsh.out.un (O k) (fun j h1 h2 => y3 j h1 h2)
            have hv3 := Hsh.out.v k
            rw [if_neg (by omega)] at hv3
            obtain ⟨u1, u2⟩ := HUb.out (O k) y1 y2
            obtain ⟨u3, u4⟩ := HV2.out k hlt
            obtain ⟨f0, -⟩ := HS.cO hs (by omega) hlt
            obtain ⟨f2, f3⟩ := HS.cU hs (by omega) y2
            have Hn := Lib.hid (Hsh.out.yes hD y3)
            rw [hu3] at f2 Hn
            rw [hv3] at Hn
            rw [hD] at d0
            obtain ⟨r, hr⟩ : ∃ r, r = O k := ⟨_, rfl⟩
            rw [← hr] at y1 y2 u1 u2 f0 f2 f3 Hn
            obtain ⟨u, hu⟩ : ∃ u, u = U r := ⟨_, rfl⟩
            obtain ⟨v, hv⟩ : ∃ v, v = V k := ⟨_, rfl⟩
            rw [← hu] at u1 u2 f2 Hn
            rw [← hv] at u3 u4 Hn hv3
            have Hv3 := Lib.hid hv3
            have g1 : IntKind.i64.wrap (u + d) = u + d := IntWalk.i64_in _ (by omega)
            have g2 : IntKind.i64.wrap (v - d) = v - d := IntWalk.i64_in _ (by omega)
            have g3 : (0 : Int) ≤ (r : Int) := by omega
            have g4 : (r : Int) < ((m + 1 : Nat) : Int) := by omega
            clear hD hv3 hu3 hu hv hr y3
            go_wp2
            go_region
            have hs1 := HS.drew (HS.setU hs (by omega) y2 (u + d))
            have hb1 : ∀ B w0, B ≤ base → Below B w0 w → Below B w0 (wr.setCell ⟨b 1, r, none⟩ (.int .i64 (u + d))).drew := fun B w0 h1 h2 => (HS.kept hs (a := 1) (by omega) (show r < m + 1 by omega) (.inl (u + d)) B w0 h1 (hb B w0 h1 h2)).drew
            clear hs v4 v5 v6 v7 v8 v9 v12 v13 v14 d0 f0 f2 f3 hb
            generalize (wr.setCell ⟨b 1, r, none⟩ (.int .i64 (u + d))).drew = w5 at *
            obtain ⟨v4, v5, v6, v7, v8, v9⟩ := HS.vars hs1 (by omega)
            obtain ⟨v12, v13, v14, -⟩ := HS.vars2 hs1 rfl
            obtain ⟨f0, f1⟩ := HS.cV hs1 (by omega) hlt
            rw [Hv3.out] at f0
            go_wp2_with (first
              | (refine wpList_st rfl _ _ _ rfl ⟨b 2, k, none⟩ (.int .i64 (v - d)) rfl rfl rfl int_size f0 f1 ?_
                 intro w6 hw6
                 have hs2 := HS.setV hs1 (by omega) hlt (v - d)
                 rw [← hw6] at hs2
                 have hb2 : ∀ B w0, B ≤ base → Below B w0 w → Below B w0 w6 := by rw [hw6]; exact fun B w0 h1 h2 => HS.kept hs1 (a := 2) (by omega) (show k < n + 1 by omega) (.inl (v - d)) B w0 h1 (hb1 B w0 h1 h2)
                 clear hs1 v4 v5 v6 v7 v8 v9 v12 v13 v14 hw6 hb1 f0 f1))
            go_roundg (n + 1 - (k + 1))
            case rel => exact ⟨k + 1, _, _, _, by omega, rfl, by go_num, hs2, Hn.out, hb2⟩
            case measure => omega
            all_goals exact (0 : Nat)
        · have e : k = n + 1 := by omega
          subst e
          have hki : decide (n + 1 ≤ n) = false := by simp
          have hki2 : decide (((n + 1 : Nat) : Int) ≤ (n : Int)) = false := by simp; omega
          have Hn := Lib.hid (Hnext.out _ _ _ Hsh.out)
          go_wp2
          rw [Hpost.out]
          exact ⟨_, _, _, _, x, rfl, hs, Hn.out, Hx.out, hb⟩
end Go.Proofs.Ytmcamadcoglodaa
