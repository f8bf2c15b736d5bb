/- Walk over div of package big. Conditions stand in the theorem. -/
import Derived.Test.YtkeajohkpmabcaaDoorW6
import Derived.Test.YtkeajohkpmabcaaDoorN6
namespace Go.Proofs.YtkeajohkpmabcaaDoor
open Go.RowKit
set_option linter.unusedVariables false

def DivPost (w : World) (x y : Int) (e : Ending) (w' : World) : Prop := ∃ Aq nq cq Ar nr cr, e = .returned (.tuple #[.slice Aq nq cq, .slice Ar nr cr]) ∧ RdI w' w'.heap.size Aq nq cq (digs (x / y).toNat) ∧ RdI w' w'.heap.size Ar nr cr (digs (x % y).toNat) ∧ (FrA w.heap.size Aq ∧ FrA w.heap.size Ar) ∧ Below w.heap.size w w'
theorem Own.rdN {w : World} {base : Nat} {e : TypeId} {v : Value} {l : List Int} (h : Own 1 iEnc w base e v l) (hn : l.length ≤ 100000) : ∃ A cap, v = .slice A l.length cap ∧ RdI w w.heap.size A l.length cap l ∧ FrA base A := by
  obtain ⟨A, cap, h1, h2⟩ := h.rd iSized (by omega)
  exact ⟨A, cap, h1, h2, h.fr h1⟩
theorem digs_small {x : Int} {n : Nat} (h : x < pw n) : (digs x.toNat).length ≤ n := by
  refine digs_len.2 ?_
  have := pw_pos n
  omega
theorem ne_of_len {b : List Int} {n : Nat} (h : b.length = n) (hn : 1 ≤ n) : b ≠ [] := fun e => by rw [e] at h; simp at h; omega
/-- a power of two, by its exponent -/
def ShP (s : Int) (e : Nat) : Prop := s = ((2 ^ e : Nat) : Int)
theorem ShP.next {s : Int} {e : Nat} (h : ShP s e) : ShP (s * 2) (e + 1) := by
  unfold ShP at h ⊢
  rw [h, Nat.pow_succ]
  omega
theorem ShP.lt {s : Int} {e : Nat} (h : ShP s e) (hs : s < 524288) : e < 19 := by
  unfold ShP at h
  have h1 : 2 ^ e < 2 ^ 19 := by omega
  exact (Nat.pow_lt_pow_iff_right (by decide)).1 h1
theorem ShP.int {s : Int} {e : Nat} (h : ShP s e) : s = 2 ^ e := by
  unfold ShP at h
  rw [h]
  simp
set_option maxRecDepth 100000 in
set_option maxHeartbeats 4000000 in
theorem bdiv_any (A A2 : Option Addr) (n cap n2 cap2 : Nat) (a b : List Int) (w : World) (ha : RdI w w.heap.size A n cap a) (hb : RdI w w.heap.size A2 n2 cap2 b) (ca : Cn a) (cb : Cn b) (hn : n ≤ 1000) (hn2 : n2 ≤ 1000) (hn21 : 1 ≤ n2) :
    Calls Tryd.prog 28 #[.slice A n cap, .slice A2 n2 cap2] w (DivPost w (val a) (val b)) := by
  have hla := ha.len
  have hlb := hb.len
  have hcap1 := ha.caps
  have hcap2 := hb.caps
  have hbp := cb.pos (ne_of_len hlb hn21)
  have ha0 := val_nonneg ca.1
  have Hcmp := Lib.hid (bcmp_any A A2 n cap n2 cap2 a b w ha hb ca cb)
  by_cases hlt : val a < val b
  · -- less
    have hc : cmpI (val a) (val b) = -1 := cmpI_lt hlt
    rw [hc] at Hcmp
    have hq : val a / val b = 0 := Int.ediv_eq_zero_of_lt ha0 hlt
    have hr : val a % val b = val a := Int.emod_eq_of_lt ha0 hlt
    have hda := ca.digs
    have Hpost := Lib.hid (fun Ar nr cr w' (h : RdI w' w'.heap.size Ar nr cr a) (hfr : FrA w.heap.size Ar) (hbel : Below w.heap.size w w') => (show DivPost w (val a) (val b) (.returned (.tuple #[.slice none 0 0, .slice Ar nr cr])) w' from ⟨none, 0, 0, Ar, nr, cr, rfl, by rw [hq]; exact (digs_zero ▸ Rd.nil), by rw [hr, ← hda]; exact h, ⟨FrA.none, hfr⟩, hbel⟩))
    have Hcl := Lib.hid (fun w' h => clone_any A n cap a w' h (by omega))
    have Hlen := Lib.hid (show a.length ≤ 100000 by omega)
    generalize DivPost w (val a) (val b) = Q at *
    clear hla hlb hbp ha0 hlt hc hq hr hda
    go_enter Tryd.func28, Tryd.ntmps28
    go_wp2_with fail
    refine Hcmp.out.mono ?_
    rintro e w1 ⟨rfl, hb1⟩
    go_wp2_with fail
    refine (Hcl.out w1 (ha.up (flat_lasts _) hb1)).mono ?_
    rintro e w2 ⟨⟨v, rfl, ho⟩, hb2⟩
    obtain ⟨Ar, cr, rfl, hr, hfr⟩ := ho.rdN Hlen.out
    have Hres := Lib.hid (Hpost.out _ _ _ _ hr (hfr.mono hb1.size) (hb1.trans (hb2.mono hb1.size)))
    clear hr ho hb1 hb2
    go_wp2
    exact Hres.out
  have hge : val b ≤ val a := by omega
  have hcs : decide (cmpI (val a) (val b) < 0) = false := by
    unfold cmpI
    rw [if_neg (by omega)]
    split <;> simp
  obtain ⟨C, hC⟩ : ∃ C, C = cmpI (val a) (val b) := ⟨_, rfl⟩
  rw [← hC] at hcs Hcmp
  clear hC
  by_cases hone : n2 = 1
  · -- one digit
    subst hone
    have hd1 : (((1 : Nat) : Int) == 1) = true := by simp
    obtain ⟨b1, o1, d, rfl, hb1', hd, c0⟩ := hb.atI (k := 0) (by omega)
    rw [Nat.add_zero] at c0
    have hvb : val b = d := by
      rw [val_vF hlb]
      simp [vF, pw, gi_eq hd]
    have hdd : 1 ≤ d ∧ d ≤ 1048576 := by
      have := (cb.1.at hlb 0 (by omega)).2
      rw [gi_eq hd] at this
      omega
    have Hsh := Lib.hid (fun w' h => bshort_any A n cap a d w' h ca.1 (by omega) hdd)
    have hr0 : 0 ≤ val a % d ∧ val a % d < 1048576 := by
      have h1 := Int.emod_nonneg (val a) (b := d) (by omega)
      have h2 := Int.emod_lt_of_pos (val a) (show 0 < d by omega)
      have := (cb.1.at hlb 0 (by omega)).2
      rw [gi_eq hd] at this
      omega
    have hrd : trimL [val a % d] = digs (val a % d).toNat := by
      have h1 : DgOk [val a % d] := DgOk.cons.2 ⟨hr0, DgOk.nil⟩
      rw [trimL_digs h1]
      simp [val]
    have Hrd := Lib.hid hrd
    have Hqlen := Lib.hid (show (digs (val a / d).toNat).length ≤ 100000 from by
      have h1 := val_lt ca.1
      have h2 : val a / d ≤ val a := Int.ediv_le_self _ ha0
      have := digs_small (x := val a / d) (n := a.length) (by omega)
      omega)
    have Hpost := Lib.hid (fun Aq nq cq Ar nr cr w' (hq : RdI w' w'.heap.size Aq nq cq (digs (val a / d).toNat)) (h : RdI w' w'.heap.size Ar nr cr (digs (val a % d).toNat)) (hf1 : FrA w.heap.size Aq) (hf2 : FrA w.heap.size Ar) (hbel : Below w.heap.size w w') => (show DivPost w (val a) (val b) (.returned (.tuple #[.slice Aq nq cq, .slice Ar nr cr])) w' from by
      rw [hvb]; exact ⟨Aq, nq, cq, Ar, nr, cr, rfl, hq, h, ⟨hf1, hf2⟩, hbel⟩))
    generalize DivPost w (val a) (val b) = Q at *
    obtain ⟨r, hre⟩ : ∃ r, r = val a % d := ⟨_, rfl⟩
    rw [← hre] at Hsh Hrd Hpost
    clear hla hlb hbp ha0 hlt hge hvb hdd hr0 hrd hd hre
    go_enter Tryd.func28, Tryd.ntmps28
    go_wp2_with fail
    refine Hcmp.out.mono ?_
    rintro e w1 ⟨rfl, hb1⟩
    have c1 := (hb1.cell (p := ⟨b1, o1, none⟩) hb1').trans c0
    go_wp2_with fail
    refine (Hsh.out w1 (ha.up (flat_lasts _) hb1)).mono ?_
    rintro e w2 ⟨⟨v, rfl, ho⟩, hb2⟩
    obtain ⟨Aq, cq, rfl, hq, hfq⟩ := ho.rdN Hqlen.out
    have hfq := hfq.mono hb1.size
    have hb02 := hb1.trans (hb2.mono hb1.size)
    clear ho hb1 hb2 c1
    go_wp2_with fail
    have lit := Rd.litG iSized (w := w2) 3 [r] #[.int .i64 r] 1 w2.heap.size rfl rfl rfl (by omega)
    have hbL := (Below.refl w2.heap.size w2).alloc (Nat.le_refl _) (.cells #[.int .i64 r] 3)
    refine (trim_any _ 1 1 [r] _ lit).mono ?_
    rintro e _ ⟨⟨k, hk, rfl, htr⟩, rfl⟩
    have hr3 := lit.take hk
    rw [← htr, Hrd.out] at hr3
    have Hres := Lib.hid (Hpost.out _ _ _ _ _ _ _ (hq.up (flat_lasts _) hbL) hr3 hfq (FrA.at hb02.size) (hb02.trans (hbL.mono hb02.size)))
    clear hr3 htr lit hbL hq hb02
    go_wp2
    exact Hres.out
  -- more digits
  obtain ⟨t1, ht1⟩ : ∃ t, n2 = t + 1 := ⟨n2 - 1, by omega⟩
  obtain ⟨t2, ht2⟩ : ∃ t, t1 = t + 1 := ⟨t1 - 1, by omega⟩
  have hd1 : ((n2 : Int) == 1) = false := by simp; omega
  obtain ⟨b2, o2, bt, rfl, hb2', hbt, c0⟩ := hb.atI (k := t1) (by omega)
  have hbtd := cb.1.at hlb t1 (by omega)
  rw [gi_eq hbt] at hbtd
  have hbt1 : bt ≠ 0 := fun e => cb.2 bt (by
    rw [gi_last (ne_of_len hlb hn21), hlb, show n2 - 1 = t1 by omega, gi_eq hbt]) e
  have hnn2 : n2 ≤ n := by
    refine Classical.byContradiction fun h => ?_
    have := cn_longer ca.1 cb (by omega)
    omega
  have Hsb := Lib.hid (fun (sh : Int) (e : Nat) (h : ShP sh e) (he : e ≤ 20) (hs : bt * sh < 1048576) => (show pw t1 ≤ val b * sh ∧ val b * sh < pw n2 from by
    have := shift_bd cb hlb hn21 h.int he (by rw [show n2 - 1 = t1 by omega, gi_eq hbt]; exact hs)
    rw [show n2 - 1 = t1 by omega] at this
    exact this))
  have hn1i : (n2 : Int) - 1 = (t1 : Int) := by omega
  have hn2i : (n2 : Int) - 2 = (t2 : Int) := by omega
  have hwn1 : IntKind.i64.wrap ((n2 : Int) - 1) = (t1 : Int) := by rw [hn1i]; exact IntWalk.i64_in _ (by omega)
  have hwn2 : IntKind.i64.wrap ((n2 : Int) - 2) = (t2 : Int) := by rw [hn2i]; exact IntWalk.i64_in _ (by omega)
  have ht1i : (t1 : Int) < (n2 : Int) := by omega
  have ht10 : (0 : Int) ≤ (t1 : Int) := by omega
  have Hpost := Lib.hid (fun Aq nq cq Ar nr cr w' (hq : RdI w' w'.heap.size Aq nq cq (digs (val a / val b).toNat)) (h : RdI w' w'.heap.size Ar nr cr (digs (val a % val b).toNat)) (hf1 : FrA w.heap.size Aq) (hf2 : FrA w.heap.size Ar) (hbel : Below w.heap.size w w') => (show DivPost w (val a) (val b) (.returned (.tuple #[.slice Aq nq cq, .slice Ar nr cr])) w' from ⟨Aq, nq, cq, Ar, nr, cr, rfl, hq, h, ⟨hf1, hf2⟩, hbel⟩))
  generalize DivPost w (val a) (val b) = Q at *
  have k1 : t1 < n2 := by omega
  have k2 : n2 ≤ t1 + 1 := by omega
  have k3 : t2 < t1 := by omega
  have k4 : t1 ≤ t2 + 1 := by omega
  have Ht1 := Lib.hid ht1; have Ht2 := Lib.hid ht2; have Hla := Lib.hid hla; have Hlb := Lib.hid hlb
  clear hbt ht1 ht2 hla hlb
  go_enter Tryd.func28, Tryd.ntmps28
  go_wp2_with fail
  refine Hcmp.out.mono ?_
  rintro e w1 ⟨rfl, hb1⟩
  have c1 := (hb1.cell (p := ⟨b2, o2 + t1, none⟩) hb2').trans c0
  go_wp2
  go_loopg [8] 20 (fun gk sh wr => ∃ (e : Nat) (s : Int), e ≤ 20 ∧ gk = 20 - e ∧ sh = .int .i64 s ∧ ShP s e ∧ bt * s < 1048576 ∧ 1 ≤ s ∧ w1 = wr)
  case atStart => exact ⟨0, 1, by omega, rfl, rfl, rfl, by omega, by omega, rfl⟩
  case round =>
    obtain ⟨e, s, he, rfl, rfl, hsp, hbs, hs1, rfl⟩ := hrel
    have Hsp := Lib.hid hsp
    clear hsp
    have hsle : s ≤ bt * s := by
      have := Int.mul_le_mul_of_nonneg_right (show 1 ≤ bt by omega) (show 0 ≤ s by omega)
      omega
    obtain ⟨P, hP⟩ : ∃ P, bt * s = P := ⟨_, rfl⟩
    rw [hP] at hbs hsle
    have HP := Lib.hid hP
    have hwP : IntKind.i64.wrap (bt * s) = P := by rw [hP]; exact IntWalk.i64_in _ (by omega)
    by_cases hlt2 : P < 524288
    · have hd2 : decide (P < 524288) = true := by simpa using hlt2
      have he19 := Hsp.out.lt (by omega)
      have hws : IntKind.i64.wrap (s * 2) = s * 2 := IntWalk.i64_in _ (by omega)
      have HN := Lib.hid Hsp.out.next
      have HB := Lib.hid (show bt * (s * 2) < 1048576 from by rw [← Int.mul_assoc, HP.out]; omega)
      go_wp2
      go_roundg (20 - (e + 1))
      case rel => exact ⟨e + 1, s * 2, by omega, rfl, rfl, HN.out, HB.out, by omega, rfl⟩
      case measure => omega
    · have hd2 : decide (P < 524288) = false := by simpa using hlt2
      obtain ⟨y1, y2⟩ := Hsb.out s e Hsp.out he (by rw [HP.out]; exact hbs)
      have hsd : DgOk [s] := DgOk.cons.2 ⟨by omega, DgOk.nil⟩
      have hvs : val [s] = s := by simp [val]
      have Hma := Lib.hid (fun A' c' w' h1 h2 => (bmul_any A A' n cap 1 c' a [s] w' h1 h2 ca.1 hsd (by omega) (by omega)))
      have Hmb := Lib.hid (fun A' c' w' h1 h2 => (bmul_any (some ⟨b2, o2, none⟩) A' n2 cap2 1 c' b [s] w' h1 h2 cb.1 hsd (by omega) (by omega)))
      rw [hvs] at Hma Hmb
      have hX0 : pw (n - 1) ≤ val a * s := by
        have h1 := ca.ge (ne_of_len Hla.out (by omega))
        rw [Hla.out] at h1
        have := Int.mul_le_mul_of_nonneg_left hs1 ha0
        omega
      have hXY : val b * s ≤ val a * s := Int.mul_le_mul_of_nonneg_right hge (by omega)
      have hXu : val a * s < pw (n + 1) := by
        have h1 := val_lt ca.1
        rw [Hla.out] at h1
        have h2 := Int.mul_le_mul (show val a ≤ pw n - 1 by omega) (show s ≤ 1048576 by omega) (by omega) (by have := pw_pos n; omega)
        rw [pw]
        have := pw_pos n
        omega
      obtain ⟨X, hX⟩ : ∃ X, X = val a * s := ⟨_, rfl⟩
      obtain ⟨Y, hY⟩ : ∃ Y, Y = val b * s := ⟨_, rfl⟩
      rw [← hX] at Hma hX0 hXY hXu
      rw [← hY] at Hmb hXY y1 y2
      have hlv : (digs Y.toNat).length = n2 := digs_length (by rw [show n2 - 1 = t1 by omega]; exact y1) y2 hn21
      obtain ⟨lu, hlu⟩ : ∃ lu, (digs X.toNat).length = lu := ⟨_, rfl⟩
      have hXp : 0 < X := by have := pw_pos (n - 1); omega
      have hXe : ((X.toNat : Nat) : Int) = X := by omega
      have hlu1 : n ≤ lu := by
        refine Classical.byContradiction fun h => ?_
        have := digs_len.1 (show (digs X.toNat).length ≤ n - 1 by omega)
        omega
      have hlu2 : lu ≤ n + 1 := by rw [← hlu]; exact digs_len.2 (by omega)
      have HX := Lib.hid hX; have HY := Lib.hid hY; have Hlv := Lib.hid hlv; have Hlu := Lib.hid hlu; have HXe := Lib.hid hXe
      have Hy1 := Lib.hid y1; have Hy2 := Lib.hid y2; have HXY := Lib.hid hXY; have HX0 := Lib.hid hX0; have HXp := Lib.hid hXp
      have Hge := Lib.hid hge; have Ha0 := Lib.hid ha0; have Hbp := Lib.hid hbp
      obtain ⟨i0, hi0, hz0, hz1, hz2⟩ := info_parts int_info
      have hsB : s < 1048576 := by omega
      clear hX hY hlv hlu hXe y1 y2 hXY hX0 hXp hXu hvs hsd hge ha0 hbp hlt hbtd hsle hbt1
      go_wp2_with fail
      have lit := Rd.litG iSized (w := w1) 3 [s] #[.int .i64 s] 1 w1.heap.size rfl rfl rfl (by omega)
      have hbL := (Below.refl w1.heap.size w1).alloc (Nat.le_refl _) (.cells #[.int .i64 s] 3)
      have hbL0 := hb1.trans (hbL.mono hb1.size)
      refine (Hma.out _ _ _ (ha.up (flat_lasts _) hbL0) lit).mono ?_
      rintro e w2 ⟨⟨v2, rfl, ho2⟩, hb2⟩
      have hb02 := hbL0.trans (hb2.mono hbL0.size)
      have ho2 := ho2.mono (base' := w.heap.size) hbL0.size
      clear lit hbL hbL0 hb2 c1
      have hlu0 : (digs X.toNat).length ≤ 1000000 := by rw [Hlu.out]; omega
      go_wp2_with (at_builtin; refine wpList_app1 iSized rfl _ _ 22 rfl w.heap.size 3 i0 _ 8 Tryd.underlying22 hi0 hz0 hz1 hz2 rfl _ (digs X.toNat) rfl ho2 _ _ rfl _ rfl rfl hlu0 (by omega) hb02.size ?_
                   intro v3 w3 ho3 hk3 hv3 hbb3)
      have hb03 := hbb3 w.heap.size w (Nat.le_refl _) hb02
      have hl3 : (digs X.toNat ++ [0]).length = lu + 1 := by rw [List.length_append, Hlu.out]; rfl
      obtain ⟨gu, cu, rfl, hgu0, hgu1, hcu, hcu2, -⟩ := ho3.form (by rw [hl3]; omega)
      rw [hl3] at ho3 hcu ⊢
      clear hk3 hv3 hbb3 ho2 hb02 hl3
      have lit := Rd.litG iSized (w := w3) 3 [s] #[.int .i64 s] 1 w3.heap.size rfl rfl rfl (by omega)
      have hbL := (Below.refl w3.heap.size w3).alloc (Nat.le_refl _) (.cells #[.int .i64 s] 3)
      have hbL0 := hb03.trans (hbL.mono hb03.size)
      refine (Hmb.out _ _ _ (hb.up (flat_lasts _) hbL0) lit).mono ?_
      rintro e w4 ⟨⟨v4, rfl, ho4⟩, hb4⟩
      have hb04 := hbL0.trans (hb4.mono hbL0.size)
      have ho3 := ho3.below (hbL.trans (hb4.mono hbL.size))
      obtain ⟨gv, cv, rfl, hgv0, hgv1, hcv, hcv2, -⟩ := ho4.form (by rw [Hlv.out]; omega)
      rw [Hlv.out] at ho4 hcv ⊢
      have hguv : gu ≠ gv := by have := hbL.size; omega
      have hgv2 : w.heap.size ≤ gv := by have := hbL0.size; omega
      have hu2 : gu < w4.heap.size := by have := hbL.size; have := hb4.size; omega
      obtain ⟨Av4, cv4, hv4, rv4⟩ := ho4.rd iSized (by rw [Hlv.out]; omega)
      rw [Hlv.out] at hv4 rv4
      injection hv4 with e1 e2 e3
      subst e1 e3
      have Hof := Lib.hid (show digs X.toNat ++ [0] = ofF (lu + 1) (gi (digs X.toNat ++ [0])) from (ofF_gi (by rw [List.length_append, Hlu.out]; rfl)).symm)
      rw [Hof.out] at ho3
      obtain ⟨M, hM⟩ : ∃ M, lu + 1 = M + n2 := ⟨lu + 1 - n2, by omega⟩
      have HM := Lib.hid hM
      have hM1 : (((lu + 1 : Nat) : Int) - (n2 : Int)) = (M : Int) := by omega
      have hM2 : IntKind.i64.wrap ((((lu + 1 : Nat) : Int) - (n2 : Int))) = (M : Int) := by rw [hM1]; exact IntWalk.i64_in _ (by omega)
      have hM3 : (lu : Int) + 1 - (n2 : Int) = (M : Int) := by omega
      have hM4 : IntKind.i64.wrap ((lu : Int) + 1 - (n2 : Int)) = (M : Int) := by rw [hM3]; exact IntWalk.i64_in _ (by omega)
      have hM0 : 1 ≤ M := by omega
      have hMb : M ≤ 2000 := by omega
      have hwM : IntKind.i64.wrap ((M : Int) - 1) = (M : Int) - 1 := IntWalk.i64_in _ (by omega)
      have hlen : (((lu + 1 : Nat) : Int) == (n : Int)) = false := by simp; omega
      have hlen2 : ((lu : Int) + 1 == (n : Int)) = false := by simp; omega
      have Hst := Lib.hid (show DivI X Y n2 (gi (digs X.toNat ++ [0])) (lu + 1) (fun _ => 0) M M from by
        have hlx : (digs X.toNat ++ [0]).length = lu + 1 := by rw [List.length_append, Hlu.out]; rfl
        have hdx : DgOk (digs X.toNat ++ [0]) := (digs_cn _).1.append (DgOk.cons.2 ⟨by omega, DgOk.nil⟩)
        refine DivI.start hM hn21 (hdx.at hlx) ?_ ?_ (by rw [show n2 - 1 = t1 by omega]; exact Hy1.out)
        · rw [← val_vF hlx, val_snoc, digs_val, HXe.out]; omega
        · rw [Nat.add_sub_cancel]
          refine gi_eq ?_
          rw [List.getElem?_append_right (by rw [Hlu.out]; exact Nat.le_refl _), Hlu.out, Nat.sub_self]
          rfl)
      clear hM lit hbL hbL0 hb4 hb03 ho4 hgv0 hgu1
      go_wp2_with (at_make; refine wpList_mk _ iSized 0 rfl _ _ 22 rfl w.heap.size 3 i0 (.int .i64 0) Tryd.underlying22 hi0 hz0 hz1 rfl _ _ _ _ M rfl rfl (by first | rfl | omega) (by first | rfl | omega) (by rw [hz2]; omega) (by unfold maxLen; omega) hb04.size ?_
                   intro w5 ho5 hg5
                   have hb5 : Below w4.heap.size w4 w5 := (Below.refl _ _).grown hg5 (Nat.le_refl _) (by intro k hk; cases hk))
      have hb05 := hb04.trans (hb5.mono hb04.size)
      have ho3 := ho3.below hb5
      have rv5 := rv4.up (flat_lasts _) hb5
      obtain ⟨gq, hgq⟩ : ∃ g, g = w4.heap.size := ⟨_, rfl⟩
      rw [← hgq] at ho5 hu2 hgv1 ⊢
      have hgqw : w.heap.size ≤ gq := by rw [hgq]; exact hb04.size
      have hgq5 : gq < w5.heap.size := (ho5.lt gq rfl).2
      clear hg5 hb5 hb04 rv4 hgq
      rw [ofF_rep] at ho5
      go_loopg [13] M (fun gk ix wr => ∃ (k : Nat) (f q : Nat → Int), k ≤ M ∧ k = gk ∧ ix = .int .i64 ((k : Int) - 1) ∧ DivI X Y n2 f (lu + 1) q M k ∧ Own 1 iEnc wr w.heap.size 3 (.slice (some ⟨gu, 0, none⟩) (lu + 1) cu) (ofF (lu + 1) f) ∧ Own 1 iEnc wr w.heap.size 3 (.slice (some ⟨gq, 0, none⟩) M M) (ofF M q) ∧ RdI wr wr.heap.size (some ⟨gv, 0, none⟩) n2 cv (digs Y.toNat) ∧ Below w.heap.size w wr ∧ gq < wr.heap.size)
      case atStart => exact ⟨M, _, _, Nat.le_refl _, rfl, rfl, Hst.out, ho3, ho5, rv5, hb05, hgq5⟩
      case round =>
        clear ho3 ho5 rv5 hb05 hgq5
        obtain ⟨k, f, q, hk, rfl, rfl, hI, hou, hoq, rv, hbel, hgq5⟩ := hrel
        have HI := Lib.hid hI
        clear hI
        rcases Nat.eq_zero_or_pos k with hk0 | hk0
        · subst hk0
          have HYp := Lib.hid (show 0 < Y from by have := Hy1.out; have := pw_pos t1; omega)
          obtain ⟨f1, f2, f3⟩ := HI.out.fin HM.out HYp.out
          have Hdu := Lib.hid HI.out.dg
          have hs0 : 0 < s := by omega
          have f1' : vF q M = val a / val b := by rw [f1, HX.out, HY.out]; exact scale_div hs0
          have f2' : vF f (lu + 1) = (val a % val b) * s := by rw [f2, HX.out, HY.out]; exact scale_mod hs0
          have hr0 : 0 ≤ val a % val b := Int.emod_nonneg _ (by have := Hbp.out; omega)
          have hR0 : 0 ≤ vF f (lu + 1) := by rw [f2']; exact Int.mul_nonneg hr0 (by omega)
          have hRv : val (digs (vF f (lu + 1)).toNat) = vF f (lu + 1) := by rw [digs_val]; omega
          have hRq : vF f (lu + 1) / s = val a % val b := by rw [f2']; exact Int.mul_ediv_cancel _ (by omega)
          have hlR : (digs (vF f (lu + 1)).toNat).length ≤ lu + 1 := digs_small (vF_lt Hdu.out)
          have Hf1 := Lib.hid f1'; have Hf3 := Lib.hid f3; have HRv := Lib.hid hRv; have HRq := Lib.hid hRq; have HlR := Lib.hid hlR
          have hlQ : (digs (val a / val b).toNat).length ≤ M := by rw [← f1']; exact digs_small (vF_lt f3)
          have HlQ := Lib.hid hlQ
          have hlr : (digs (val a % val b).toNat).length ≤ 10000 := by
            have h1 : val a % val b < val b := Int.emod_lt_of_pos _ Hbp.out
            have h2 := val_lt cb.1
            rw [Hlb.out] at h2
            have := digs_small (x := val a % val b) (n := n2) (by omega)
            omega
          have Hlr := Lib.hid hlr
          clear f1 f2 f3 f1' f2' hr0 hR0 hRv hRq hlR hlQ hlr hs0
          go_wp2_with fail
          refine (trim_own w.heap.size _ _ _ _ _ hou (by omega) Hdu.out).mono ?_
          rintro e _ ⟨⟨v6, rfl, ho6⟩, rfl⟩
          obtain ⟨A6, c6, rfl, r6, -⟩ := ho6.rdN (by have := HlR.out; omega)
          go_wp2_with fail
          refine (bshort_any A6 _ c6 _ s wr r6 (digs_cn _).1 (by have := HlR.out; omega) (by omega)).mono ?_
          rintro e w7 ⟨⟨v7, rfl, ho7⟩, hb7⟩
          have hb07 := hbel.trans (hb7.mono hbel.size)
          rw [HRv.out, HRq.out] at ho7
          obtain ⟨A7, c7, rfl, r7, hf7⟩ := ho7.rdN (by have := Hlr.out; omega)
          have hf7 := hf7.mono hbel.size
          have hoq7 := hoq.below hb7
          clear ho6 r6 ho7 hou hoq rv hb7 hbel
          go_wp2_with fail
          refine (trim_own w.heap.size _ _ _ _ _ hoq7 (by omega) Hf3.out).mono ?_
          rintro e _ ⟨⟨v8, rfl, ho8⟩, rfl⟩
          rw [Hf1.out] at ho8
          obtain ⟨A8, c8, rfl, r8, hf8⟩ := ho8.rdN (by have := HlQ.out; omega)
          have Hres := Lib.hid (Hpost.out _ _ _ _ _ _ _ r8 r7 hf8 hf7 hb07)
          clear ho8 hoq7 r7 r8 hb07
          go_wp2
          exact Hres.out
        · obtain ⟨m, rfl⟩ : ∃ m, k = m + 1 := ⟨k - 1, by omega⟩
          have hYl := Hlv.out
          have hYdg := (digs_cn Y.toNat).1.at hYl
          have HYv := Lib.hid (show Y = vF (gi (digs Y.toNat)) n2 from by
            rw [← val_vF hYl, digs_val]; have := Hy1.out; have := pw_pos t1; omega)
          obtain ⟨b5, o5, v1, hv5, hb5', hv1, e1⟩ := rv.atI (k := t1) k1
          injection hv5 with hv5; injection hv5 with x1 x2 x3
          subst x1 x2
          obtain ⟨b6, o6, v2, hv6, hb6', hv2, e2⟩ := rv.atI (k := t2) (by omega)
          injection hv6 with hv6; injection hv6 with x1 x2 x3
          subst x1 x2
          rw [Nat.zero_add] at e1 e2
          have hv1d := hYdg t1 k1
          have hv2d := hYdg t2 (by omega)
          rw [gi_eq hv1] at hv1d
          rw [gi_eq hv2] at hv2d
          have hv10 : v1 ≠ 0 := fun e => by
            have h1 := (digs_cn Y.toNat).2 v1 (by rw [gi_last (ne_of_len hYl hn21), hYl, show n2 - 1 = t1 by omega, gi_eq hv1])
            exact h1 e
          have Hv1 := Lib.hid (gi_eq hv1); have Hv2 := Lib.hid (gi_eq hv2)
          have hMn := HM.out
          obtain ⟨z1, -⟩ := hou.cellI (i := m + n2) (by omega)
          obtain ⟨z2, -⟩ := hou.cellI (i := m + t1) (by omega)
          obtain ⟨z3, -⟩ := hou.cellI (i := m + t2) (by omega)
          have hu1d := HI.out.dg (m + n2) (by omega)
          have hu2d := HI.out.dg (m + t1) (by omega)
          have hu3d := HI.out.dg (m + t2) (by omega)
          obtain ⟨u1, hu1⟩ : ∃ u, f (m + n2) = u := ⟨_, rfl⟩
          obtain ⟨u2, hu2e⟩ : ∃ u, f (m + t1) = u := ⟨_, rfl⟩
          obtain ⟨u3, hu3⟩ : ∃ u, f (m + t2) = u := ⟨_, rfl⟩
          rw [hu1] at z1 hu1d
          rw [hu2e] at z2 hu2d
          rw [hu3] at z3 hu3d
          have Hu1 := Lib.hid hu1; have Hu2 := Lib.hid hu2e; have Hu3 := Lib.hid hu3
          obtain ⟨j1, hj1⟩ : ∃ j, j = m + n2 := ⟨_, rfl⟩
          obtain ⟨j2, hj2⟩ : ∃ j, j = m + t1 := ⟨_, rfl⟩
          obtain ⟨j3, hj3⟩ : ∃ j, j = m + t2 := ⟨_, rfl⟩
          rw [← hj1] at z1
          rw [← hj2] at z2
          rw [← hj3] at z3
          have hix1 : (m : Int) + (n2 : Int) = (j1 : Int) := by omega
          have hw1 : IntKind.i64.wrap ((m : Int) + (n2 : Int)) = (j1 : Int) := by rw [hix1]; exact IntWalk.i64_in _ (by omega)
          have hix2 : (j1 : Int) - 1 = (j2 : Int) := by omega
          have hw2 : IntKind.i64.wrap ((j1 : Int) - 1) = (j2 : Int) := by rw [hix2]; exact IntWalk.i64_in _ (by omega)
          have hix3 : (j1 : Int) - 2 = (j3 : Int) := by omega
          have hw3 : IntKind.i64.wrap ((j1 : Int) - 2) = (j3 : Int) := by rw [hix3]; exact IntWalk.i64_in _ (by omega)
          have hin1 : (j1 : Int) < (lu : Int) + 1 := by omega
          have hin2 : (j2 : Int) < (lu : Int) + 1 := by omega
          have hin3 : (j3 : Int) < (lu : Int) + 1 := by omega
          have hip1 : (0 : Int) ≤ (j1 : Int) := by omega
          have hip2 : (0 : Int) ≤ (j2 : Int) := by omega
          have hip3 : (0 : Int) ≤ (j3 : Int) := by omega
          have Hj := Lib.hid (And.intro hj1 (And.intro hj2 hj3))
          have hsh1 : IntKind.i64.wrap (u1 * 1048576) = u1 * 1048576 := IntWalk.i64_in _ (by omega)
          have hor1 := or_join u1 u2 hu1d.1 (by omega) hu2d.1 hu2d.2
          obtain ⟨top, htop⟩ : ∃ t, u1 * 1048576 + u2 = t := ⟨_, rfl⟩
          rw [htop] at hor1
          have htopd : 0 ≤ top ∧ top < 1099511627776 := by omega
          have Htop := Lib.hid htop
          clear hv1 hv2 hYl hYdg hu1 hu2e hu3 htop hMn hj1 hj2 hj3
          have hYp0 : 0 < Y := by have := Hy1.out; have := pw_pos t1; omega
          have HKn := Lib.hid (show Kn (winV f m n2) Y (winV f m n2 / Y) (pw t2) top u3 v1 v2 from by
            have hmn := Hj.out
            have hMn := HM.out
            have hY2 := HYv.out
            have hYl := Hlv.out
            have hdY := (digs_cn Y.toNat).1.at hYl
            have en2 : n2 = t2 + 2 := by omega
            obtain ⟨w0', w1'⟩ := HI.out.win HM.out (by omega)
            have hdU : Dg (fun j => f (m + j)) (t2 + 3) := fun j hj => HI.out.dg (m + j) (by omega)
            obtain ⟨a1, a2⟩ := top3 hdU
            have hw : winV f m n2 = vF (fun j => f (m + j)) (t2 + 3) := by unfold winV; rw [en2]
            obtain ⟨b1, b2⟩ := top2 (v := gi (digs Y.toNat)) (p := t2) (fun j hj => hdY j (by omega))
            rw [← en2, ← hY2] at b1 b2
            have c1 : f (m + (t2 + 2)) = u1 := by rw [← en2]; exact Hu1.out
            have c2 : f (m + (t2 + 1)) = u2 := by rw [show t2 + 1 = t1 by omega]; exact Hu2.out
            have c3 : f (m + t2) = u3 := Hu3.out
            simp only [c1, c2, c3] at a1 a2
            rw [Htop.out, ← hw] at a1 a2
            rw [show t2 + 1 = t1 by omega, Hv1.out, Hv2.out] at b1 b2
            have e := Int.emod_add_mul_ediv (winV f m n2) Y
            have e1 := Int.emod_nonneg (winV f m n2) (b := Y) (by omega)
            have e2 := Int.emod_lt_of_pos (winV f m n2) hYp0
            exact ⟨pw_pos t2, hu3d, hv2d, by omega, htopd.1, ⟨Int.ediv_nonneg w0' (by omega), Int.ediv_lt_of_lt_mul hYp0 w1'⟩, a1, a2, b1, b2, by rw [Int.mul_comm]; omega, by rw [Int.add_mul, Int.one_mul, Int.mul_comm]; omega⟩)
          obtain ⟨QD, hQD⟩ : ∃ x, x = winV f m n2 / Y := ⟨_, rfl⟩
          obtain ⟨WV, hWV⟩ : ∃ x, x = winV f m n2 := ⟨_, rfl⟩
          rw [← hQD, ← hWV] at HKn
          have HQD := Lib.hid hQD; have HWV := Lib.hid hWV
          clear hQD hWV
          go_wp2_with fail
          go_quiet (fail)
          rename_i nq
          have y1' : (wr.drewN nq).cell? ⟨gv, t1, none⟩ = some (.int .i64 v1) := e1
          have y2' : (wr.drewN nq).cell? ⟨gv, t2, none⟩ = some (.int .i64 v2) := e2
          have y3' : (wr.drewN nq).cell? ⟨gu, j3, none⟩ = some (.int .i64 u3) := z3
          have hou2 := hou.drewN nq
          have hoq2 := hoq.drewN nq
          have rv2 := rv.drewN (flat_lasts _) nq
          have hbel2 := below_drewN hbel nq
          have hgq6 : gq < (wr.drewN nq).heap.size := hgq5
          have rv3 : RdI (wr.drewN nq) (wr.drewN nq).heap.size (some ⟨gv, 0, none⟩) n2 cv (digs Y.toNat) := rv2
          clear hou hoq rv rv2 hbel e1 e2 z1 z2 z3 hgq5
          generalize wr.drewN nq = w6 at *
          have hv1z : (v1 == 0) = false := by simp; omega
          have hv1p : 1 ≤ v1 := by omega
          have htd : top.tdiv v1 = top / v1 := Int.tdiv_eq_ediv_of_nonneg htopd.1
          have htm : top.tmod v1 = top % v1 := Int.tmod_eq_emod_of_nonneg htopd.1
          have hg0 : 0 ≤ top / v1 := Int.ediv_nonneg htopd.1 (by omega)
          have hg1 : top / v1 ≤ top := Int.ediv_le_self _ htopd.1
          have hr0 := Int.emod_nonneg top (b := v1) (by omega)
          have hr1 := Int.emod_lt_of_pos top (show 0 < v1 by omega)
          have heq := Int.emod_add_mul_ediv top v1
          have hst := HKn.out.start
          obtain ⟨G0, hG0⟩ := Int.eq_ofNat_of_zero_le hg0
          obtain ⟨R0, hR0⟩ : ∃ r, top % v1 = r := ⟨_, rfl⟩
          rw [hG0] at htd hg1 heq hst
          rw [hR0] at htm hr0 hr1 heq
          have hwG : IntKind.i64.wrap (G0 : Int) = (G0 : Int) := IntWalk.i64_in _ (by omega)
          have hwR : IntKind.i64.wrap R0 = R0 := IntWalk.i64_in _ (by omega)
          have Heq := Lib.hid (show (G0 : Int) * v1 + R0 = top by rw [Int.mul_comm]; omega)
          have Hst := Lib.hid hst
          clear hG0 hR0 heq hst hg0
          go_wp2_with fail
          go_quiet (fail)
          go_wp2
          go_loopg [15, 16] G0 (fun gk gg rr wx => ∃ (g : Nat) (r : Int), g = gk ∧ gg = .int .i64 g ∧ rr = .int .i64 r ∧ (g : Int) * v1 + r = top ∧ 0 ≤ r ∧ QD ≤ (g : Int) ∧ (g : Int) ≤ 1099511627776 ∧ ∃ q, wx = w6.drewN q)
          case atStart => exact ⟨G0, R0, rfl, rfl, rfl, Heq.out, hr0, Hst.out, by omega, ⟨_, rfl⟩⟩
          case round =>
            clear Heq Hst htd htm hwG hwR hg1 hr0 hr1
            obtain ⟨g, r, rfl, rfl, rfl, hgr, hr0, hqg, hgb, hq⟩ := hrel
            have Hgr := Lib.hid hgr; have Hqg := Lib.hid hqg; have Hq := Lib.hid hq
            have y1 := (dr_cell hq ⟨gv, t1, none⟩).trans y1'
            have y2 := (dr_cell hq ⟨gv, t2, none⟩).trans y2'
            have y3 := (dr_cell hq ⟨gu, j3, none⟩).trans y3'
            have hrt : r ≤ top := by
              have := Int.mul_nonneg (show 0 ≤ (g : Int) by omega) (show 0 ≤ v1 by omega)
              omega
            clear hgr hqg hq
            have hdec : ∀ h : Nat, g = h + 1 → (1048576 ≤ (g : Int) ∨ r * 1048576 + u3 < (g : Int) * v2) → (h : Int) * v1 + (r + v1) = top ∧ QD ≤ (h : Int) := fun h e hc => by
              have h1 := HKn.out.dec Hgr.out Hqg.out hc
              have h2 := Hgr.out
              subst e
              rw [Int.natCast_add, Int.add_mul] at h2
              simp at h2
              omega
            have Hdec := Lib.hid hdec
            clear hdec
            have hwr : IntKind.i64.wrap (r + v1) = r + v1 := IntWalk.i64_in _ (by omega)
            have hj1u : (j1 : Int) + 1 ≤ (cu : Int) := by omega
            have hj1m : (m : Int) ≤ (j1 : Int) + 1 := by have := Hj.out.1; omega
            have hm00 : (0 : Int) ≤ (m : Int) := by omega
            by_cases hg : 1048576 ≤ (g : Int)
            · have hd : decide (1048576 ≤ (g : Int)) = true := by simpa using hg
              obtain ⟨h, hgh⟩ : ∃ h, g = h + 1 := ⟨g - 1, by omega⟩
              have HN := Lib.hid (Hdec.out h hgh (Or.inl hg))
              have hgi : (g : Int) - 1 = (h : Int) := by omega
              have hwgi : IntKind.i64.wrap ((g : Int) - 1) = (h : Int) := by rw [hgi]; exact IntWalk.i64_in _ (by omega)
              have hmeas : h < g := by omega
              clear hg hgh
              go_wp2_with fail
              go_quiet (fail)
              go_wp2
              go_roundg h
              case rel => exact ⟨h, r + v1, rfl, rfl, rfl, HN.out.1, by omega, HN.out.2, by omega, dr_more Hq.out _⟩
              case measure => omega
            · have hd : decide (1048576 ≤ (g : Int)) = false := by simpa using hg
              by_cases hrb : r < 1048576
              · have hd2 : decide (r < 1048576) = true := by simpa using hrb
                have hgv := mul_bd (a := (g : Int)) (b := v2) (by omega) hv2d
                have hwgv : IntKind.i64.wrap ((g : Int) * v2) = (g : Int) * v2 := IntWalk.i64_in _ (by omega)
                have hwr2 : IntKind.i64.wrap (r * 1048576) = r * 1048576 := IntWalk.i64_in _ (by omega)
                have hor := or_join r u3 hr0 (by omega) hu3d.1 hu3d.2
                by_cases hc : r * 1048576 + u3 < (g : Int) * v2
                · have hd3 : decide (r * 1048576 + u3 < (g : Int) * v2) = true := by simpa using hc
                  have hg1 : 1 ≤ g := by
                    rcases Nat.eq_zero_or_pos g with e | e
                    · rw [e] at hc
                      simp at hc
                      omega
                    · exact e
                  obtain ⟨h, hgh⟩ : ∃ h, g = h + 1 := ⟨g - 1, by omega⟩
                  have HN := Lib.hid (Hdec.out h hgh (Or.inr hc))
                  have hgi : (g : Int) - 1 = (h : Int) := by omega
                  have hwgi : IntKind.i64.wrap ((g : Int) - 1) = (h : Int) := by rw [hgi]; exact IntWalk.i64_in _ (by omega)
                  have hmeas : h < g := by omega
                  clear hc hg hgv hgh
                  go_wp2_with fail
                  go_quiet (fail)
                  go_wp2
                  go_roundg h
                  case rel => exact ⟨h, r + v1, rfl, rfl, rfl, HN.out.1, by omega, HN.out.2, by omega, dr_more Hq.out _⟩
                  case measure => omega
                · have hd3 : decide (r * 1048576 + u3 < (g : Int) * v2) = false := by simpa using hc
                  have HS := Lib.hid (show ((g : Int) - 1) * Y ≤ WV from by
                    rcases Nat.eq_zero_or_pos g with e | e
                    · rw [e]
                      have h1 := HKn.out.ql
                      have h2 := Int.mul_nonneg HKn.out.hq.1 (show 0 ≤ Y by omega)
                      simp
                      omega
                    · exact HKn.out.stop Hgr.out hr0 (by omega) (Or.inr (Int.not_lt.1 hc)) (by omega))
                  have hgb2 : (g : Int) < 1048576 := by omega
                  have HouD := Lib.hid (fun q => (show Own 1 iEnc (wr.drewN q) w.heap.size 3 (.slice (some ⟨gu, 0, none⟩) (lu + 1) cu) (ofF (lu + 1) f) from by
                    obtain ⟨q0, hq0⟩ := Hq.out; rw [hq0]; exact (hou2.drewN q0).drewN q))
                  have HoqD := Lib.hid (fun q' => (show Own 1 iEnc (wr.drewN q') w.heap.size 3 (.slice (some ⟨gq, 0, none⟩) M M) (ofF M q) from by
                    obtain ⟨q0, hq0⟩ := Hq.out; rw [hq0]; exact (hoq2.drewN q0).drewN q'))
                  have HrvD := Lib.hid (fun q' => (show RdI (wr.drewN q') (wr.drewN q').heap.size (some ⟨gv, 0, none⟩) n2 cv (digs Y.toNat) from by
                    obtain ⟨q0, hq0⟩ := Hq.out; rw [hq0]; exact (rv3.drewN (flat_lasts _) q0).drewN (flat_lasts _) q'))
                  have HbD := Lib.hid (fun q' => (show Below w.heap.size w (wr.drewN q') ∧ gq < (wr.drewN q').heap.size from by
                    obtain ⟨q0, hq0⟩ := Hq.out; rw [hq0]; exact ⟨below_drewN (below_drewN hbel2 q0) q', hgq6⟩))
                  have hjm1 : n2 + 1 ≤ j1 + 1 - m := by have := Hj.out.1; omega
                  have hjm2 : j1 + 1 - m ≤ n2 + 1 := by have := Hj.out.1; omega
                  clear hc
                  go_wp2_with fail
                  go_quiet (fail)
                  go_wp2_with fail
                  refine (settle_any w.heap.size gu (lu + 1) cu m (j1 + 1 - m) (cu - m) f (some ⟨gv, 0, none⟩) n2 cv (digs Y.toNat) (g : Int) _ (HouD.out _) (HrvD.out _) (fun c off e => by injection e with e; injection e with e1 e2 e3; omega) (by omega) (by omega) (by omega) (by omega) (digs_cn _).1 (by omega) (fun j hj => HI.out.dg (m + j) (by omega)) (by
                    have e : val (digs Y.toNat) = Y := by rw [digs_val]; omega
                    have e2 : j1 + 1 - m = n2 + 1 := by omega
                    rw [e, e2]
                    have := HS.out
                    rw [HWV.out] at this
                    exact this)).mono ?_
                  rintro e w8 ⟨qv, f', rfl, hqv, hvf, hdf, hof, hou8, hk8⟩
                  have eY : val (digs Y.toNat) = Y := by rw [digs_val]; omega
                  have e2 : j1 + 1 - m = n2 + 1 := by omega
                  rw [eY, e2] at hqv hvf
                  rw [e2] at hdf hof
                  have hqq : qv = QD := by
                    have h1 := HQD.out
                    have h2 := Hqg.out
                    have h3 := HS.out
                    have h4 := HWV.out
                    have hW : vF (fun j => f (m + j)) (n2 + 1) = WV := h4.symm
                    rw [hW] at hqv
                    rw [← h4] at h1
                    have h5 : (g : Int) - 1 ≤ QD := by rw [h1]; exact (Int.le_ediv_iff_mul_le hYp0).2 h3
                    rcases hqv with ⟨e, h⟩ | ⟨e, h⟩
                    · have : (g : Int) ≤ QD := by rw [h1]; exact (Int.le_ediv_iff_mul_le hYp0).2 h
                      omega
                    · have : QD < (g : Int) := by rw [h1]; exact Int.ediv_lt_of_lt_mul hYp0 h
                      omega
                  obtain ⟨hbz, hgqz⟩ := HbD.out _
                  have hoq8 := (HoqD.out _).keptS hk8 (fun b hb h => by
                    have h1 : gq = b := by simpa [Value.ownBlock] using hb
                    omega)
                  have rv8 := (HrvD.out _).keptS hk8 (Nat.le_refl _) hk8.size (fun _ b off e h => by
                    injection e with e; injection e with e1 e2 e3
                    omega)
                  have hb8 := hbz.trans (hk8.below hbz.size (fun b h => by omega))
                  have hgq8 := Nat.lt_of_lt_of_le hgqz hk8.size
                  have HD := Lib.hid (HI.out.step (q' := fun j => if j = m then qv else q j) (x := qv) HM.out (by omega) hYp0 Hy2.out (by rw [hqq]; exact HQD.out) hvf hdf hof (if_pos rfl) (fun j hj => if_neg (by omega)))
                  have ho9 := hoq8.setI (i := m) (by omega) qv
                  obtain ⟨z8, z9⟩ := hoq8.cellI (i := m) (by omega)
                  have hb9 := hb8.setCell (p := ⟨gq, m, none⟩) hgqw (.int .i64 qv)
                  have hk9 : Kept (fun b => b = gq) w8 (w8.setCell ⟨gq, m, none⟩ (.int .i64 qv)) := (Kept.refl _ _).setCell _ (Or.inl rfl)
                  have hou9 := hou8.keptS hk9 (fun b hb h => by
                    have h1 : gu = b := by simpa [Value.ownBlock] using hb
                    omega)
                  have rv9 := rv8.keptS hk9 (Nat.le_refl _) hk9.size (fun _ b off e h => by
                    injection e with e; injection e with e1 e2 e3
                    omega)
                  have hgq9 := Nat.lt_of_lt_of_le hgq8 hk9.size
                  have hmM : (m : Int) < (M : Int) := by omega
                  clear hqv hvf hdf hof hqq eY e2 hk8 hk9 hbz hgqz hoq8 rv8 hb8 hou8
                  go_wp2
                  go_roundg m
                  case rel => exact ⟨m, f', _, by omega, rfl, by go_num, HD.out, hou9, ho9, rv9, hb9, hgq9⟩
                  case measure => omega
              · have hd2 : decide (r < 1048576) = false := by simpa using hrb
                have HS := Lib.hid (show ((g : Int) - 1) * Y ≤ WV from by
                  rcases Nat.eq_zero_or_pos g with e | e
                  · rw [e]
                    have h1 := HKn.out.ql
                    have h2 := Int.mul_nonneg HKn.out.hq.1 (show 0 ≤ Y by omega)
                    simp
                    omega
                  · exact HKn.out.stop Hgr.out hr0 (by omega) (Or.inl (by omega)) (by omega))
                have hgb2 : (g : Int) < 1048576 := by omega
                have HouD := Lib.hid (fun q => (show Own 1 iEnc (wr.drewN q) w.heap.size 3 (.slice (some ⟨gu, 0, none⟩) (lu + 1) cu) (ofF (lu + 1) f) from by
                  obtain ⟨q0, hq0⟩ := Hq.out; rw [hq0]; exact (hou2.drewN q0).drewN q))
                have HoqD := Lib.hid (fun q' => (show Own 1 iEnc (wr.drewN q') w.heap.size 3 (.slice (some ⟨gq, 0, none⟩) M M) (ofF M q) from by
                  obtain ⟨q0, hq0⟩ := Hq.out; rw [hq0]; exact (hoq2.drewN q0).drewN q'))
                have HrvD := Lib.hid (fun q' => (show RdI (wr.drewN q') (wr.drewN q').heap.size (some ⟨gv, 0, none⟩) n2 cv (digs Y.toNat) from by
                  obtain ⟨q0, hq0⟩ := Hq.out; rw [hq0]; exact (rv3.drewN (flat_lasts _) q0).drewN (flat_lasts _) q'))
                have HbD := Lib.hid (fun q' => (show Below w.heap.size w (wr.drewN q') ∧ gq < (wr.drewN q').heap.size from by
                  obtain ⟨q0, hq0⟩ := Hq.out; rw [hq0]; exact ⟨below_drewN (below_drewN hbel2 q0) q', hgq6⟩))
                have hjm1 : n2 + 1 ≤ j1 + 1 - m := by have := Hj.out.1; omega
                have hjm2 : j1 + 1 - m ≤ n2 + 1 := by have := Hj.out.1; omega
                clear hrb
                go_wp2_with fail
                go_quiet (fail)
                go_wp2_with fail
                refine (settle_any w.heap.size gu (lu + 1) cu m (j1 + 1 - m) (cu - m) f (some ⟨gv, 0, none⟩) n2 cv (digs Y.toNat) (g : Int) _ (HouD.out _) (HrvD.out _) (fun c off e => by injection e with e; injection e with e1 e2 e3; omega) (by omega) (by omega) (by omega) (by omega) (digs_cn _).1 (by omega) (fun j hj => HI.out.dg (m + j) (by omega)) (by
                  have e : val (digs Y.toNat) = Y := by rw [digs_val]; omega
                  have e2 : j1 + 1 - m = n2 + 1 := by omega
                  rw [e, e2]
                  have := HS.out
                  rw [HWV.out] at this
                  exact this)).mono ?_
                rintro e w8 ⟨qv, f', rfl, hqv, hvf, hdf, hof, hou8, hk8⟩
                have eY : val (digs Y.toNat) = Y := by rw [digs_val]; omega
                have e2 : j1 + 1 - m = n2 + 1 := by omega
                rw [eY, e2] at hqv hvf
                rw [e2] at hdf hof
                have hqq : qv = QD := by
                  have h1 := HQD.out
                  have h2 := Hqg.out
                  have h3 := HS.out
                  have h4 := HWV.out
                  have hW : vF (fun j => f (m + j)) (n2 + 1) = WV := h4.symm
                  rw [hW] at hqv
                  rw [← h4] at h1
                  have h5 : (g : Int) - 1 ≤ QD := by rw [h1]; exact (Int.le_ediv_iff_mul_le hYp0).2 h3
                  rcases hqv with ⟨e, h⟩ | ⟨e, h⟩
                  · have : (g : Int) ≤ QD := by rw [h1]; exact (Int.le_ediv_iff_mul_le hYp0).2 h
                    omega
                  · have : QD < (g : Int) := by rw [h1]; exact Int.ediv_lt_of_lt_mul hYp0 h
                    omega
                obtain ⟨hbz, hgqz⟩ := HbD.out _
                have hoq8 := (HoqD.out _).keptS hk8 (fun b hb h => by
                  have h1 : gq = b := by simpa [Value.ownBlock] using hb
                  omega)
                have rv8 := (HrvD.out _).keptS hk8 (Nat.le_refl _) hk8.size (fun _ b off e h => by
                  injection e with e; injection e with e1 e2 e3
                  omega)
                have hb8 := hbz.trans (hk8.below hbz.size (fun b h => by omega))
                have hgq8 := Nat.lt_of_lt_of_le hgqz hk8.size
                have HD := Lib.hid (HI.out.step (q' := fun j => if j = m then qv else q j) (x := qv) HM.out (by omega) hYp0 Hy2.out (by rw [hqq]; exact HQD.out) hvf hdf hof (if_pos rfl) (fun j hj => if_neg (by omega)))
                have ho9 := hoq8.setI (i := m) (by omega) qv
                obtain ⟨z8, z9⟩ := hoq8.cellI (i := m) (by omega)
                have hb9 := hb8.setCell (p := ⟨gq, m, none⟩) hgqw (.int .i64 qv)
                have hk9 : Kept (fun b => b = gq) w8 (w8.setCell ⟨gq, m, none⟩ (.int .i64 qv)) := (Kept.refl _ _).setCell _ (Or.inl rfl)
                have hou9 := hou8.keptS hk9 (fun b hb h => by
                  have h1 : gu = b := by simpa [Value.ownBlock] using hb
                  omega)
                have rv9 := rv8.keptS hk9 (Nat.le_refl _) hk9.size (fun _ b off e h => by
                  injection e with e; injection e with e1 e2 e3
                  omega)
                have hgq9 := Nat.lt_of_lt_of_le hgq8 hk9.size
                have hmM : (m : Int) < (M : Int) := by omega
                clear hqv hvf hdf hof hqq eY e2 hk8 hk9 hbz hgqz hoq8 rv8 hb8 hou8
                go_wp2
                go_roundg m
                case rel => exact ⟨m, f', _, by omega, rfl, by go_num, HD.out, hou9, ho9, rv9, hb9, hgq9⟩
                case measure => omega
end Go.Proofs.YtkeajohkpmabcaaDoor
