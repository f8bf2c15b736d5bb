/- Walk over settle of package big. Conditions stand in the theorem. -/
import Derived.Test.YtkeajohkpmabcaaDoorW5
namespace Go.Proofs.YtkeajohkpmabcaaDoor
open Go.RowKit
set_option linter.unusedVariables false

/-- a window of digits, turned -/
def winF (f : Nat → Int) (i k : Nat) (o : Nat → Int) : Nat → Int := fun q => if i ≤ q ∧ q < i + k then o (q - i) else f q
theorem winF_zero {f o : Nat → Int} {i : Nat} : winF f i 0 o = f := by
  funext q; unfold winF; rw [if_neg (by omega)]
theorem winF_at {f o : Nat → Int} {i k : Nat} : winF f i k o (i + k) = f (i + k) := by unfold winF; rw [if_neg (by omega)]
theorem winF_step {f o : Nat → Int} {i k : Nat} {D : Int} : (fun q => if q = i + k then D else winF f i k o q) = winF f i (k + 1) (fun j => if j = k then D else o j) := by
  funext q
  unfold winF
  by_cases e : q = i + k
  · rw [if_pos e, if_pos (by omega)]
    show D = if q - i = k then D else o (q - i)
    rw [if_pos (by omega)]
  · rw [if_neg e]
    by_cases e2 : i ≤ q ∧ q < i + k
    · rw [if_pos e2, if_pos (by omega)]
      show o (q - i) = if q - i = k then D else o (q - i)
      rw [if_neg (by omega)]
    · rw [if_neg e2, if_neg (by omega)]
theorem winF_in {f o : Nat → Int} {i k j : Nat} (h : j < k) : winF f i k o (i + j) = o j := by
  unfold winF; rw [if_pos (by omega), Nat.add_sub_cancel_left]
theorem winF_out {f o : Nat → Int} {i k q : Nat} (h : q < i ∨ i + k ≤ q) : winF f i k o q = f q := by
  unfold winF; rw [if_neg (by omega)]
def SettlePost (w : World) (base g N capN i m : Nat) (f : Nat → Int) (W V G : Int) (e : Ending) (w' : World) : Prop :=
  ∃ (q : Int) (f' : Nat → Int), e = .returned (.int .i64 q) ∧ ((q = G ∧ G * V ≤ W) ∨ (q = G - 1 ∧ W < G * V)) ∧ vF (fun j => f' (i + j)) m = W - q * V ∧ Dg (fun j => f' (i + j)) m ∧ (∀ p, p < i ∨ i + m ≤ p → f' p = f p) ∧
    Own 1 iEnc w' base 3 (.slice (some ⟨g, 0, none⟩) N capN) (ofF N f') ∧ Kept (fun b => b = g) w w'
set_option maxRecDepth 100000 in
set_option maxHeartbeats 4000000 in
theorem settle_any (base g N capN i m capw : Nat) (f : Nat → Int) (A2 : Option Addr) (n2 cap2 : Nat) (b : List Int) (G : Int) (w : World) (ho : Own 1 iEnc w base 3 (.slice (some ⟨g, 0, none⟩) N capN) (ofF N f)) (hb : RdI w w.heap.size A2 n2 cap2 b) (hA2 : ∀ c off, A2 = some ⟨c, off, none⟩ → c ≠ g)
    (hN : N ≤ 100000) (him : i + m ≤ N) (hcw : m ≤ capw ∧ capw ≤ 9223372036854775807) (hn2 : n2 ≤ m) (db : DgOk b) (hG : 0 ≤ G ∧ G < 1048576) (hU : Dg (fun j => f (i + j)) m) (hok : (G - 1) * val b ≤ vF (fun j => f (i + j)) m) :
    Calls Tryd.prog 45 #[.slice (some ⟨g, i, none⟩) m capw, .slice A2 n2 cap2, .int .i64 G] w (SettlePost w base g N capN i m f (vF (fun j => f (i + j)) m) (val b) G) := by
  have hlb := hb.len
  have hcapb := hb.caps
  have hdv : ∀ j, 0 ≤ padF n2 (gi b) j ∧ padF n2 (gi b) j < 1048576 := fun j => by
    unfold padF
    split
    · rename_i h; exact db.at hlb j h
    · omega
  have hV : vF (padF n2 (gi b)) m = val b := by rw [vF_pad m hn2, ← val_vF hlb]
  have Hdv := Lib.hid hdv
  have Hpad := Lib.hid (show ∀ j, padF n2 (gi b) j = if j < n2 then gi b j else 0 from fun _ => rfl)
  have hVd : Dg (padF n2 (gi b)) m := fun j _ => hdv j
  have HV0 := Lib.hid (show 0 ≤ vF (padF n2 (gi b)) m from vF_nonneg hVd)
  have HV1 := Lib.hid (vF_lt hVd)
  have HV := Lib.hid hV
  have HU := Lib.hid hU
  have Hok := Lib.hid hok
  have HQ := Lib.hid (fun (q : Int) (f' : Nat → Int) w' h1 h2 h3 h4 h5 h6 => (show SettlePost w base g N capN i m f (vF (fun j => f (i + j)) m) (val b) G (.returned (.int .i64 q)) w' from ⟨q, f', rfl, h1, h2, h3, h4, h5, h6⟩))
  have hmul : ∀ y : Int, 0 ≤ y ∧ y < 1048576 → 0 ≤ G * y ∧ G * y ≤ 1099509530625 := fun y hy => mul_bd hG hy
  have Hmul := Lib.hid hmul
  clear hmul hdv hV hVd hU hok db hlb
  generalize padF n2 (gi b) = bf at *
  generalize SettlePost w base g N capN i m f (vF (fun j => f (i + j)) m) (val b) G = Q at *
  go_enter Tryd.func45, Tryd.ntmps45
  go_wp2
  go_loopg [7, 14] m (fun gk c ix wr => ∃ (k : Nat) (cv : Int) (o : Nat → Int), k ≤ m ∧ gk = m - k ∧ ix = .int .i64 k ∧ c = .int .i64 cv ∧ StI (fun j => f (i + j)) bf o G k cv ∧ Own 1 iEnc wr base 3 (.slice (some ⟨g, 0, none⟩) N capN) (ofF N (winF f i k o)) ∧ Kept (fun b => b = g) w wr)
  case atStart => exact ⟨0, 0, fun _ => 0, Nat.zero_le _, rfl, rfl, rfl, StI.zero, by rw [winF_zero]; exact ho, Kept.refl _ _⟩
  case round =>
    clear ho
    obtain ⟨k, cv, o, hk, rfl, rfl, rfl, hI, ho, hkp⟩ := hrel
    have HI := Lib.hid hI
    obtain ⟨hc0, hc1⟩ := hI.2.2
    clear hI
    by_cases hlt : k < m
    · obtain ⟨z0, z1⟩ := ho.cellI (i := i + k) (by omega)
      rw [winF_at] at z0
      have hxd := HU.out k hlt
      obtain ⟨x, hx⟩ : ∃ x, f (i + k) = x := ⟨_, rfl⟩
      rw [hx] at z0
      have hxd' : 0 ≤ x ∧ x < 1048576 := by rw [← hx]; exact hxd
      have Hx := Lib.hid hx
      have hki : (k : Int) < (m : Int) := by omega
      have hk0 : (0 : Int) ≤ (k : Int) := by omega
      have hwc : IntKind.i64.wrap (x - cv) = x - cv := IntWalk.i64_in _ (by omega)
      clear hx hxd
      by_cases hk2 : k < n2
      · obtain ⟨b2, o2, y, rfl, hb2, hy, d0⟩ := hb.atI hk2
        have Hy := Lib.hid (show bf k = y from by rw [Hpad.out, if_pos hk2]; exact gi_eq hy)
        have hyd := Hdv.out k
        rw [Hy.out] at hyd
        have d0' := (hkp.cell (p := ⟨b2, o2 + k, none⟩) hb2 (hA2 b2 o2 rfl)).trans d0
        have hgy := Hmul.out y hyd
        have hw1 : IntKind.i64.wrap (G * y) = G * y := IntWalk.i64_in _ (by omega)
        have hw2 : IntKind.i64.wrap (x - cv - G * y) = x - cv - G * y := IntWalk.i64_in _ (by omega)
        have hw3 : IntKind.i64.wrap (-((x - cv - G * y) / 1048576)) = -((x - cv - G * y) / 1048576) := IntWalk.i64_in _ (by omega)
        have hmask := and_mask (x - cv - G * y)
        have hN := (HI.out.congr (O' := fun j => if j = k then (x - cv - G * y) % 1048576 else o j) (fun j hj => if_neg (by omega))).step hG (by show 0 ≤ f (i + k) ∧ _; rw [Hx.out]; exact hxd') (by rw [Hy.out]; exact hyd) (by rw [if_pos rfl, Hy.out]; show _ = (f (i + k) - cv - G * y) % 1048576; rw [Hx.out])
        have hN2 : StI (fun j => f (i + j)) bf (fun j => if j = k then (x - cv - G * y) % 1048576 else o j) G (k + 1) (-((x - cv - G * y) / 1048576)) := by
          rw [Hx.out, Hy.out] at hN
          exact hN
        have HN := Lib.hid hN2
        have ho3 := ho.setI (i := i + k) (by omega) ((x - cv - G * y) % 1048576)
        rw [winF_step] at ho3
        have hk3 := hkp.setCell (b := g) (o := i + k) (.int .i64 ((x - cv - G * y) % 1048576)) (Or.inl rfl)
        clear hN hN2 hy d0 ho hkp
        go_wp2
        go_roundg (m - (k + 1))
        case rel => exact ⟨k + 1, _, _, by omega, rfl, by go_num, rfl, HN.out, ho3, hk3⟩
        case measure => omega
      · have hdk : decide (k < n2) = false := by simp; omega
        have Hy := Lib.hid (show bf k = 0 from by rw [Hpad.out, if_neg hk2])
        have hw3 : IntKind.i64.wrap (-((x - cv) / 1048576)) = -((x - cv) / 1048576) := IntWalk.i64_in _ (by omega)
        have hmask := and_mask (x - cv)
        have hN := (HI.out.congr (O' := fun j => if j = k then (x - cv) % 1048576 else o j) (fun j hj => if_neg (by omega))).step hG (by show 0 ≤ f (i + k) ∧ _; rw [Hx.out]; exact hxd') (by rw [Hy.out]; omega) (by rw [if_pos rfl, Hy.out, Int.mul_zero, Int.sub_zero]; show _ = (f (i + k) - cv) % 1048576; rw [Hx.out])
        have hN2 : StI (fun j => f (i + j)) bf (fun j => if j = k then (x - cv) % 1048576 else o j) G (k + 1) (-((x - cv) / 1048576)) := by
          rw [Hx.out, Hy.out, Int.mul_zero, Int.sub_zero] at hN
          exact hN
        have HN := Lib.hid hN2
        have ho3 := ho.setI (i := i + k) (by omega) ((x - cv) % 1048576)
        rw [winF_step] at ho3
        have hk3 := hkp.setCell (b := g) (o := i + k) (.int .i64 ((x - cv) % 1048576)) (Or.inl rfl)
        clear hN hN2 ho hkp hk2
        go_wp2
        go_roundg (m - (k + 1))
        case rel => exact ⟨k + 1, _, _, by omega, rfl, by go_num, rfl, HN.out, ho3, hk3⟩
        case measure => omega
    · have ee : k = m := by omega
      subst ee
      obtain ⟨f1, f2⟩ := HI.out.fin HU.out HV0.out hG.1
      have f3 := HI.out.1
      have f4 := vF_lt HI.out.2.1
      have f5 := vF_nonneg HI.out.2.1
      have f6 := HI.out.2.1
      by_cases hc : cv = 0
      · have hd : (cv == 0) = true := by simp [hc]
        have Hres := Lib.hid (HQ.out G (winF f i k o) wr (Or.inl ⟨rfl, by rw [← HV.out]; exact f1.1 hc⟩) (by
          rw [vF_congr (g := o) k (fun j hj => winF_in hj), ← HV.out]; exact f2 hc) (fun j hj => by
          show 0 ≤ winF f i k o (i + j) ∧ winF f i k o (i + j) < 1048576
          rw [winF_in hj]; exact f6 j hj) (fun p hp => winF_out hp) ho hkp)
        clear f1 f2 f3 f4 f5 f6 hc ho hkp
        go_wp2
        exact Hres.out
      · have hd : (cv == 0) = false := by simp [hc]
        have hX : vF o k = (vF (fun j => f (i + j)) k - G * vF bf k) + pw k ∧ 0 ≤ (vF (fun j => f (i + j)) k - G * vF bf k) + vF bf k := by
          have g1 := Hok.out
          rw [← HV.out, Int.sub_mul, Int.one_mul] at g1
          have g2 := HV1.out
          have g3 := pw_pos k
          have g4 : cv = 1 := by
            refine Classical.byContradiction fun hn => ?_
            have g5 := Int.mul_le_mul_of_nonneg_left (show 2 ≤ cv by omega) (Int.le_of_lt g3)
            omega
          subst g4
          omega
        have HNle := Lib.hid (show vF (fun j => f (i + j)) k < G * val b from by
          rw [← HV.out]
          exact Int.not_le.1 (fun h => hc (f1.2 h)))
        have HX := Lib.hid hX
        have HDo := Lib.hid f6
        have hwG : IntKind.i64.wrap (G - 1) = G - 1 := IntWalk.i64_in _ (by omega)
        clear f1 f2 f3 f4 f5 f6 hc hX
        go_wp2
        go_loopg [10, 49] k (fun gk c ix wr => ∃ (k' : Nat) (cv : Int) (p : Nat → Int), k' ≤ k ∧ gk = k - k' ∧ ix = .int .i64 k' ∧ c = .int .i64 cv ∧ AddI o bf p k' cv ∧ Own 1 iEnc wr base 3 (.slice (some ⟨g, 0, none⟩) N capN) (ofF N (winF (winF f i k o) i k' p)) ∧ Kept (fun b => b = g) w wr)
        case atStart => exact ⟨0, 0, fun _ => 0, Nat.zero_le _, rfl, rfl, rfl, AddI.zero, by rw [winF_zero]; exact ho, hkp⟩
        case round =>
          clear ho hkp
          obtain ⟨q, cw, p, hq, rfl, rfl, rfl, hI2, ho, hkp⟩ := hrel
          have HI2 := Lib.hid hI2
          obtain ⟨hd0, hd1⟩ := hI2.2.2
          clear hI2
          by_cases hlt2 : q < k
          · obtain ⟨z0, z1⟩ := ho.cellI (i := i + q) (by omega)
            rw [winF_at, winF_in hlt2] at z0
            have hxd := HDo.out q hlt2
            obtain ⟨x, hx⟩ : ∃ x, o q = x := ⟨_, rfl⟩
            rw [hx] at z0 hxd
            have Hx := Lib.hid hx
            have hki : (q : Int) < (k : Int) := by omega
            have hk0 : (0 : Int) ≤ (q : Int) := by omega
            have hwc : IntKind.i64.wrap (cw + x) = cw + x := IntWalk.i64_in _ (by omega)
            clear hx
            by_cases hk2 : q < n2
            · obtain ⟨b2, o2, y, rfl, hb2, hy, d0⟩ := hb.atI hk2
              have Hy := Lib.hid (show bf q = y from by rw [Hpad.out, if_pos hk2]; exact gi_eq hy)
              have hyd := Hdv.out q
              rw [Hy.out] at hyd
              have d0' := (hkp.cell (p := ⟨b2, o2 + q, none⟩) hb2 (hA2 b2 o2 rfl)).trans d0
              have hwc2 : IntKind.i64.wrap (cw + x + y) = cw + x + y := IntWalk.i64_in _ (by omega)
              have hmask := and_mask (cw + x + y)
              have hN := (HI2.out.congr (o' := fun j => if j = q then (cw + x + y) % 1048576 else p j) (fun j hj => if_neg (by omega))).step (by rw [Hx.out]; exact hxd) (by rw [Hy.out]; exact hyd) (by rw [if_pos rfl, Hx.out, Hy.out])
              rw [Hx.out, Hy.out] at hN
              have HN := Lib.hid hN
              have ho3 := ho.setI (i := i + q) (by omega) ((cw + x + y) % 1048576)
              rw [winF_step] at ho3
              have hk3 := hkp.setCell (b := g) (o := i + q) (.int .i64 ((cw + x + y) % 1048576)) (Or.inl rfl)
              clear hN hy d0 ho hkp
              go_wp2
              go_roundg (k - (q + 1))
              case rel => exact ⟨q + 1, _, _, by omega, rfl, by go_num, rfl, HN.out, ho3, hk3⟩
              case measure => omega
            · have hdk : decide (q < n2) = false := by simp; omega
              have Hy := Lib.hid (show bf q = 0 from by rw [Hpad.out, if_neg hk2])
              have hmask := and_mask (cw + x)
              have hN := (HI2.out.congr (o' := fun j => if j = q then (cw + x) % 1048576 else p j) (fun j hj => if_neg (by omega))).step (by rw [Hx.out]; exact hxd) (by rw [Hy.out]; omega) (by rw [if_pos rfl, Hx.out, Hy.out, Int.add_zero])
              rw [Hx.out, Hy.out, Int.add_zero] at hN
              have HN := Lib.hid hN
              have ho3 := ho.setI (i := i + q) (by omega) ((cw + x) % 1048576)
              rw [winF_step] at ho3
              have hk3 := hkp.setCell (b := g) (o := i + q) (.int .i64 ((cw + x) % 1048576)) (Or.inl rfl)
              clear hN ho hkp hk2
              go_wp2
              go_roundg (k - (q + 1))
              case rel => exact ⟨q + 1, _, _, by omega, rfl, by go_num, rfl, HN.out, ho3, hk3⟩
              case measure => omega
          · have ee : q = k := by omega
            subst ee
            have hfin := st_back HI2.out HX.out.1 HX.out.2
            have hdp := HI2.out.2.1
            have Hres := Lib.hid (HQ.out (G - 1) (winF (winF f i q o) i q p) wr (Or.inr ⟨rfl, HNle.out⟩) (by
              rw [vF_congr (g := p) q (fun j hj => winF_in hj), ← HV.out, hfin, Int.sub_mul, Int.one_mul]; omega) (fun j hj => by
              show 0 ≤ winF (winF f i q o) i q p (i + j) ∧ winF (winF f i q o) i q p (i + j) < 1048576
              rw [winF_in hj]; exact hdp j hj) (fun r hr => by rw [winF_out hr, winF_out hr]) ho hkp)
            clear hfin hdp ho hkp
            go_wp2
            exact Hres.out
end Go.Proofs.YtkeajohkpmabcaaDoor
