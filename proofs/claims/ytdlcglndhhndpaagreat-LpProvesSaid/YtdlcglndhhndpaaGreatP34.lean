/- Laws and walks; conditions stand in each theorem. -/
import Derived.Test.YtdlcglndhhndpaaGreatP32
import Derived.Test.YtdlcglndhhndpaaGreatP33
set_option linter.unusedSimpArgs false
set_option linter.unusedVariables false
set_option maxHeartbeats 4000000
set_option maxRecDepth 100000
namespace Go.Proofs.YtdlcglndhhndpaaGreat
open Go.RowKit
theorem ZQ92 {p : Prop} (h : p := by
 first
  | (clear HA HNo HYes HLong
     go_wp2
     go_ret
     exact ⟨by rw [HR.out]; first | done | rfl, HB.out⟩)
  | fail) : p := h
theorem ZQ99 {p : Prop} (h : p := by
 first
  | (go_ret
     exact ⟨by rw [HR.out]; first | done | rfl, K.1⟩)
  | fail) : p := h
theorem same9_any (A A2 : Option Addr) (n cap n2 cap2 : Nat) (a b : List Fv) (w : World) (ha : RdF w w.heap.size A n cap a) (hb : RdF w w.heap.size A2 n2 cap2 b) :
 Calls Tryz.prog 25 #[.slice A n cap, .slice A2 n2 cap2] w fun e w' => e = .returned (.bool (decide (a = b))) ∧ Below w.heap.size w w' := by
 have K := St.start w
 have r := K.raw
 have hla := ha.len
 have hlb := hb.len
 have hca := ha.caps
 have hcb := hb.caps
 have HA := Lib.hid ha
 have HB := Lib.hid hb
 obtain ⟨R, hR⟩ : ∃ R, R = decide (a = b) := ⟨_, rfl⟩
 rw [← hR]
 clear ha hb
 by_cases hnn : (n : Int) = (n2 : Int)
 case neg =>
  have hd2 : ((n : Int) != (n2 : Int)) = true := by simp [hnn]
  have HR := Lib.hid (show R = false from by rw [hR]; exact decide_eq_false fun h => hnn (by rw [← hla, ← hlb, h]))
  clear hR hnn hla hlb
  go_enter Tryz.func25, Tryz.ntmps25
  go_wp2_with (first | (refine ZAL ?_; clear K r; intro W b K r) | (refine ZST ?_; clear K r; intro W K r))
  exact ZQ99
 obtain rfl : n = n2 := by omega
 have hd2 : ((n : Int) != (n : Int)) = false := by simp
 have HEq := Lib.hid (show (∀ j : Nat, j < n → a[j]? = b[j]?) → R = true from fun h => by
  rw [hR]
  refine decide_eq_true (List.ext_getElem? fun j => ?_)
  by_cases hj : j < n
  · exact h j hj
  · rw [List.getElem?_eq_none (by omega), List.getElem?_eq_none (by omega)])
 have HNe := Lib.hid (show ∀ (j : Nat) x y, a[j]? = some x → b[j]? = some y → x ≠ y → R = false from fun j x y h1 h2 h3 => by
  rw [hR]
  refine decide_eq_false fun h => h3 ?_
  rw [h, h2] at h1
  exact (Option.some.inj h1).symm)
 clear hla hlb hR hnn
 go_enter Tryz.func25, Tryz.ntmps25
 go_wp2_with (first | (refine ZAL ?_; clear K r; intro W b K r) | (refine ZST ?_; clear K r; intro W K r))
 go_loopg [5] n (fun gk i wr => ∃ k : Nat, k ≤ n ∧ gk = n - k ∧ i = .int .i64 k ∧ Hid (∀ j : Nat, j < k → a[j]? = b[j]?) ∧ Below w.heap.size w wr)
 case atStart => exact ⟨0, Nat.zero_le _, rfl, rfl, Lib.hid (fun j hj => absurd hj (by omega)), K.1⟩
 case round =>
  clear K r
  obtain ⟨k, hk, rfl, rfl, Hall, hbel⟩ := hrel
  by_cases hlt : k < n
  · have K := (St.start w).keep hbel
    obtain ⟨eb1, off1, A1, n1, c1, B1, m1, d1, x, hA1, hbB1, hx1, ⟨z0, z1, z2, z3⟩, r1, q1⟩ := HA.out.atF hlt
    subst hA1
    have Ex1 := Lib.hid (fun W (h : Below w.heap.size w W) => (⟨(h.cell (p := ⟨eb1, off1 + k * 4, none⟩) hbB1).trans z0, (h.cell (p := ⟨eb1, off1 + k * 4 + 1, none⟩) hbB1).trans z1, (h.cell (p := ⟨eb1, off1 + k * 4 + 2, none⟩) hbB1).trans z2, (h.cell (p := ⟨eb1, off1 + k * 4 + 3, none⟩) hbB1).trans z3⟩ : W.cell? ⟨eb1, off1 + k * 4, none⟩ = some (.int .i64 (x).s) ∧ W.cell? ⟨eb1, off1 + k * 4 + 1, none⟩ = some (.slice A1 n1 c1) ∧ W.cell? ⟨eb1, off1 + k * 4 + 2, none⟩ = some (.int .i64 (x).t) ∧ W.cell? ⟨eb1, off1 + k * 4 + 3, none⟩ = some (.slice B1 m1 d1)))
    have hki : (k : Int) < (n : Int) := by omega
    have hk0 : (0 : Int) ≤ (k : Int) := by omega
    have hcap1 := r1.caps
    have hcbp1 := q1.caps
    replace K := (K.oldRd r1).oldRd q1
    have Hx1 := Lib.hid hx1
    clear hx1 z0 z1 z2 z3 r1 q1
    obtain ⟨eb2, off2, A2, n2, c2, B2, m2, d2, y, hA2, hbB2, hx2, ⟨z0, z1, z2, z3⟩, r2, q2⟩ := HB.out.atF hlt
    subst hA2
    have Ex2 := Lib.hid (fun W (h : Below w.heap.size w W) => (⟨(h.cell (p := ⟨eb2, off2 + k * 4, none⟩) hbB2).trans z0, (h.cell (p := ⟨eb2, off2 + k * 4 + 1, none⟩) hbB2).trans z1, (h.cell (p := ⟨eb2, off2 + k * 4 + 2, none⟩) hbB2).trans z2, (h.cell (p := ⟨eb2, off2 + k * 4 + 3, none⟩) hbB2).trans z3⟩ : W.cell? ⟨eb2, off2 + k * 4, none⟩ = some (.int .i64 (y).s) ∧ W.cell? ⟨eb2, off2 + k * 4 + 1, none⟩ = some (.slice A2 n2 c2) ∧ W.cell? ⟨eb2, off2 + k * 4 + 2, none⟩ = some (.int .i64 (y).t) ∧ W.cell? ⟨eb2, off2 + k * 4 + 3, none⟩ = some (.slice B2 m2 d2)))
    have hki : (k : Int) < (n : Int) := by omega
    have hk0 : (0 : Int) ≤ (k : Int) := by omega
    have hcap2 := r2.caps
    have hcbp2 := q2.caps
    replace K := (K.oldRd r2).oldRd q2
    have Hx2 := Lib.hid hx2
    clear hx2 z0 z1 z2 z3 r2 q2
    obtain ⟨ι, f, hne, hfw, hfk, hfc⟩ := cls_st2 (fun W => St w [] [⟨rdP B2 m2 d2 y.m, oldS w⟩, ⟨rdP A2 n2 c2 y.l, oldS w⟩, ⟨rdP B1 m1 d1 x.m, oldS w⟩, ⟨rdP A1 n1 c1 x.l, oldS w⟩] W) wr K (fun W h => h.drew)
    have QC := Lib.hid (fun q => (gsame_any x.s x.t y.s y.t A1 B1 A2 B2 n1 c1 m1 d1 n2 c2 m2 d2 x.l x.m y.l y.m (f q) ((hfk q).rd ZMB) ((hfk q).rd ZMB) ((hfk q).rd ZMB) ((hfk q).rd ZMB)).mono fun e w'' ⟨he, hb⟩ => (⟨by rw [← fv_same]; exact he, hfc _ ((hfk q).keep hb)⟩ : e = Ending.returned (.bool (decide (x = y))) ∧ ∃ s, w'' = f s))
    have e1 := fun q => (Ex1.out (f q) (hfk q).1).1
    have e2 := fun q => (Ex1.out (f q) (hfk q).1).2.1
    have e3 := fun q => (Ex1.out (f q) (hfk q).1).2.2.1
    have e4 := fun q => (Ex1.out (f q) (hfk q).1).2.2.2
    have g1 := fun q => (Ex2.out (f q) (hfk q).1).1
    have g2 := fun q => (Ex2.out (f q) (hfk q).1).2.1
    have g3 := fun q => (Ex2.out (f q) (hfk q).1).2.2.1
    have g4 := fun q => (Ex2.out (f q) (hfk q).1).2.2.2
    have Hfw := Lib.hid hfw
    have Hfk := Lib.hid (fun q => (hfk q).1)
    clear hfw hfk hfc K hbel
    by_cases hxy : x = y
    · rw [decide_eq_true hxy] at QC
      have Hn := Lib.hid (show ∀ j : Nat, j < k + 1 → a[j]? = b[j]? from fun j hj => by
       by_cases e : j = k
       · subst e; rw [Hx1.out, Hx2.out, hxy]
       · exact Hall.out j (by omega))
      clear hxy Hall
      go_upto_region 6 with fail
      refine wp_region_cls2 (C := fun w' => ∃ n, w' = f n) (by kernel_rfl) (by kernel_rfl) Hfw.out ?_
      repeat (first
       | go_big_quiet_skip
       | (go_big_quiet_want; go_big_quiet_op; first | go_big_quiet_on | go_big_quiet_call ((go_at_call 50; with_reducible exact QC.out _))))
      refine wpQuiet_nil ?_
      rintro _ ⟨nq, rfl⟩
      have hB := Hfk.out nq
      clear QC e1 e2 e3 e4 g1 g2 g3 g4
      go_wp2
      go_roundg (n - (k + 1))
      case rel => exact ⟨k + 1, by omega, rfl, by go_num, Hn, hB⟩
      case measure => omega
    · rw [decide_eq_false hxy] at QC
      have Hf := Lib.hid (HNe.out k x y Hx1.out Hx2.out hxy)
      clear hxy Hall
      go_upto_region 6 with fail
      refine wp_region_cls2 (C := fun w' => ∃ n, w' = f n) (by kernel_rfl) (by kernel_rfl) Hfw.out ?_
      repeat (first
       | go_big_quiet_skip
       | (go_big_quiet_want; go_big_quiet_op; first | go_big_quiet_on | go_big_quiet_call ((go_at_call 50; with_reducible exact QC.out _))))
      refine wpQuiet_nil ?_
      rintro _ ⟨nq, rfl⟩
      have hB := Hfk.out nq
      clear QC e1 e2 e3 e4 g1 g2 g3 g4
      go_wp2
      go_ret
      exact ⟨by rw [Hf.out]; first | done | rfl, hB⟩
  · have ee : k = n := by omega
    subst ee
    have hd0 : decide (k < k) = false := by simp
    have Hf := Lib.hid (HEq.out Hall.out)
    clear hlt Hall
    go_wp2
    go_ret
    exact ⟨by rw [Hf.out]; first | done | rfl, hbel⟩
theorem small9_any (M : Int) (A : Option Addr) (n cap : Nat) (l : List Fv) (w : World) (hl : RdF w w.heap.size A n cap l) :
 Calls Tryz.prog 22 #[.slice A n cap, .int .i64 M] w fun e w' => e = .returned (.bool (few6L M 1 l)) ∧ Below w.heap.size w w' := by
 have hcaps := hl.caps
 have hlen := hl.len
 have HL := Lib.hid hl
 obtain ⟨R, hR⟩ : ∃ R, R = few6L M 1 l := ⟨_, rfl⟩
 rw [← hR]
 have HNo := Lib.hid (show ∀ (i : Nat) x, l[i]? = some x → fewV 1 x = false → R = false from fun i x hx h => by
  rw [hR]
  unfold few6L
  rw [Bool.and_eq_false_iff]
  right
  rw [List.all_eq_false]
  exact ⟨x, List.mem_of_getElem? hx, by rw [h]; simp⟩)
 have HLong := Lib.hid (show M < (n : Int) → R = false from fun h => by
  rw [hR]
  unfold few6L
  rw [hlen, decide_eq_false (by omega), Bool.false_and])
 have HYes := Lib.hid (show (n : Int) ≤ M → (∀ (i : Nat) x, i < n → l[i]? = some x → fewV 1 x = true) → R = true from fun h h1 => by
  rw [hR]
  unfold few6L
  rw [hlen, decide_eq_true h, Bool.true_and, List.all_eq_true]
  intro x hx
  obtain ⟨i, hi, rfl⟩ := List.mem_iff_getElem.1 hx
  exact h1 i _ (by omega) (List.getElem?_eq_getElem hi))
 clear hl hR hlen
 go_enter Tryz.func22, Tryz.ntmps22
 go_wp2
 go_loopg [5] n (fun gk s5 wr => ∃ k : Nat, k ≤ n ∧ gk = n - k ∧ s5 = .int .i64 k ∧ Hid (∀ (i : Nat) x, i < k → l[i]? = some x → fewV 1 x = true) ∧ Below w.heap.size w wr)
 case atStart => exact ⟨0, Nat.zero_le _, rfl, rfl, Lib.hid (fun j x h => absurd h (by omega)), Below.refl _ _⟩
 case round =>
  obtain ⟨k, hk, rfl, rfl, HA, hb⟩ := hrel
  have HB := Lib.hid hb
  by_cases hlt : k < n
  · have hltd : decide (k < n) = true := decide_eq_true hlt
    by_cases hM : (k : Int) ≤ M
    · have hMd : decide ((k : Int) ≤ M) = true := decide_eq_true hM
      obtain ⟨eb, off, A1, n1, c1, B1, m1, d1, x, hA, hbB, hx, ⟨z0, z1, z2, z3⟩, r1, r2⟩ := HL.out.atF hlt
      subst hA
      have e0 := (hb.cell (p := ⟨eb, off + k * 4, none⟩) hbB).trans z0
      have e1 := (hb.cell (p := ⟨eb, off + k * 4 + 1, none⟩) hbB).trans z1
      have e2 := (hb.cell (p := ⟨eb, off + k * 4 + 2, none⟩) hbB).trans z2
      have e3 := (hb.cell (p := ⟨eb, off + k * 4 + 3, none⟩) hbB).trans z3
      have hki : (k : Int) < (n : Int) := by omega
      have hk0 : (0 : Int) ≤ (k : Int) := by omega
      have hcp1 := r1.caps
      have hcp2 := r2.caps
      have HW := Lib.hid (fun W => gfew_any x.s x.t A1 B1 n1 c1 m1 d1 1 W)
      have hv : fewF n1 m1 1 = fewV 1 x := by unfold fewV; rw [r1.len, r2.len]
      rw [hv] at HW
      have Hx := Lib.hid hx
      clear z0 z1 z2 z3 r1 r2 hx hv
      cases hf : fewV 1 x
      · rw [hf] at HW
        have HR := Lib.hid (HNo.out k x Hx.out hf)
        clear hf HNo HYes HLong HA
        go_wp2_with (go_at_call 37; refine (HW.out _).mono ?_; rintro e w1 ⟨rfl, hb1⟩)
        go_ret
        exact ⟨by rw [HR.out]; first | done | rfl, HB.out.trans (hb1.mono HB.out.size)⟩
      · rw [hf] at HW
        have HA2 := Lib.hid (show ∀ (i : Nat) y, i < k + 1 → l[i]? = some y → fewV 1 y = true from fun i y hi hy => by
         by_cases e : i = k
         · subst e; rw [Hx.out] at hy; cases hy; exact hf
         · exact HA.out i y (by omega) hy)
        clear hf HA
        go_wp2_with (go_at_call 37; refine (HW.out _).mono ?_; rintro e w1 ⟨rfl, hb1⟩)
        go_roundg (n - (k + 1))
        case rel => exact ⟨k + 1, hlt, rfl, by go_num, HA2, HB.out.trans (hb1.mono HB.out.size)⟩
        case measure => omega
    · have hMd : decide ((k : Int) ≤ M) = false := decide_eq_false hM
      have hn2 : decide ((n : Int) ≤ M) = false := decide_eq_false (by omega)
      have HR := Lib.hid (HLong.out (by omega))
      exact ZQ92
  · have e : n = k := by omega
    subst e
    by_cases hM : (n : Int) ≤ M
    · have hMd : decide ((n : Int) ≤ M) = true := decide_eq_true hM
      have HR := Lib.hid (HYes.out hM HA.out)
      exact ZQ92
    · have hMd : decide ((n : Int) ≤ M) = false := decide_eq_false hM
      have HR := Lib.hid (HLong.out (by omega))
      exact ZQ92
theorem of9_any (p : Int) (w : World) (hp : -9223372036854775808 ≤ p ∧ p ≤ 9223372036854775807) :
 Calls Tryz.prog 66 #[.int .i64 p] w (FrV w (p : Rat)) := by
 have K := St.start w
 have r := K.raw
 have h := fun W => gOf_any p 1 W hp (by decide)
 rw [newO_yes (by decide), newE_yes (by decide), divInt_1] at h
 have HO := Lib.hid h
 clear h hp
 generalize ((p : Int) : Rat) = z at *
 go_enter Tryz.func66, Tryz.ntmps66
 go_wp2_with (first | (refine ZAL ?_; clear K r; intro W b K r) | (refine ZST ?_; clear K r; intro W K r))
 refine (HO.out _).mono ?_
 rintro e W' ⟨s7, A7, n7, c7, l7, t7, B7, m7, d7, k7, rfl, ⟨hra, hrb⟩, ho, ⟨hfa, hfb⟩, hb⟩
 have hf7 := Lib.hid (hfa.mono K.1.size)
 have hg7 := Lib.hid (hfb.mono K.1.size)
 replace K := K.retF hb hra hrb hfa hfb
 clear r
 have r := K.rawS
 clear hra hrb hfa hfb hb
 go_wp2_with (first | (refine ZAL ?_; clear K r; intro W b K r) | (refine ZST ?_; clear K r; intro W K r))
 have HE := Lib.hid (⟨s7, A7, n7, c7, l7, t7, B7, m7, d7, k7, rfl, ⟨ZRD, ZRD⟩, ho, ⟨hf7.out, hg7.out⟩, K.1⟩ : FrV w z (.returned (.agg #[.int .i64 s7, .slice A7 n7 c7, .int .i64 t7, .slice B7 m7 d7])) W)
 clear ho
 exact bodyPost_ret (v := .agg #[.int .i64 s7, .slice A7 n7 c7, .int .i64 t7, .slice B7 m7 d7]) (by simp [results, Tryz.results66, go_sem, r]) rfl HE.out
def fewP (l : List Fv) (ls : List Rv) : Bool := decide (ls.length ≤ 4) && (few6L 4 1 l && ls.all (fewRow 4 1))
theorem few9_any (A A' : Option Addr) (n cap m cap' : Nat) (l : List Fv) (ls : List Rv) (w : World) (hl : RdF w w.heap.size A n cap l) (hr : RdR w w.heap.size A' m cap' ls) :
 Calls Tryz.prog 21 #[.agg #[.slice A n cap, .slice A' m cap']] w fun e w' => e = .returned (.bool (fewP l ls)) ∧ Below w.heap.size w w' := by
 have hcap := hl.caps
 have hcap' := hr.caps
 have hlen := hr.len
 have HL := Lib.hid hr
 have HS := Lib.hid (fun W (h : Below w.heap.size w W) => small9_any 4 A n cap l W (hl.up fE_lasts h))
 have K := St.start w
 by_cases hm : m ≤ 4
 · have hm1 : decide ((m : Int) > 4) = false := decide_eq_false (by omega)
   have hm3 : decide (4 < m) = false := decide_eq_false (by omega)
   have hm2 : ¬ (m : Int) > 4 := by omega
   cases hs : few6L 4 1 l
   · have e : fewP l ls = false := by unfold fewP; rw [hs, Bool.false_and, Bool.and_false]
     rw [e]
     rw [hs] at HS
     clear e hs hlen hl hr HL
     go_enter Tryz.func21, Tryz.ntmps21
     go_wp2_with (first | (first | (apply K.box; rfl; rfl; rfl; clear K; intro W b0 K; have c0 := (K.blk (b := b0) (cs := #[.slice A n cap, .slice A' m cap']) (t := 38) List.mem_cons_self).cell (j := 0) rfl; have c1 := (K.blk (b := b0) (cs := #[.slice A n cap, .slice A' m cap']) (t := 38) List.mem_cons_self).cell (j := 1) rfl)) | (go_at_call 22; refine (HS.out _ K.1).mono ?_; rintro e W' ⟨rfl, hb⟩; replace K := K.keep hb))
     go_ret
     exact ⟨rfl, K.1⟩
   · have e : fewP l ls = ls.all (fewRow 4 1) := by unfold fewP; rw [hs, Bool.true_and, decide_eq_true (by omega), Bool.true_and]
     rw [e]
     rw [hs] at HS
     obtain ⟨R, hR⟩ : ∃ R, R = ls.all (fewRow 4 1) := ⟨_, rfl⟩
     rw [← hR]
     have HNo := Lib.hid (show ∀ (i : Nat) x, ls[i]? = some x → fewRow 4 1 x = false → R = false from fun i x hx h => by
      rw [hR, List.all_eq_false]
      exact ⟨x, List.mem_of_getElem? hx, by rw [h]; simp⟩)
     have HYes := Lib.hid (show (∀ (i : Nat) x, i < m → ls[i]? = some x → fewRow 4 1 x = true) → R = true from fun h1 => by
      rw [hR, List.all_eq_true]
      intro x hx
      obtain ⟨i, hi, rfl⟩ := List.mem_iff_getElem.1 hx
      exact h1 i _ (by omega) (List.getElem?_eq_getElem hi))
     clear e hs hlen hl hr hR
     go_enter Tryz.func21, Tryz.ntmps21
     go_wp2_with (first | (first | (apply K.box; rfl; rfl; rfl; clear K; intro W b0 K; have c0 := (K.blk (b := b0) (cs := #[.slice A n cap, .slice A' m cap']) (t := 38) List.mem_cons_self).cell (j := 0) rfl; have c1 := (K.blk (b := b0) (cs := #[.slice A n cap, .slice A' m cap']) (t := 38) List.mem_cons_self).cell (j := 1) rfl)) | (go_at_call 22; refine (HS.out _ K.1).mono ?_; rintro e W' ⟨rfl, hb⟩; replace K := K.keep hb; clear hb c0 c1))
     go_loopg [3] m (fun gk s3 wr => ∃ k : Nat, k ≤ m ∧ gk = m - k ∧ s3 = .int .i64 k ∧ Hid (∀ (i : Nat) x, i < k → ls[i]? = some x → fewRow 4 1 x = true) ∧ St w [(b0, #[.slice A n cap, .slice A' m cap'], 38)] [] wr)
     case atStart => exact ⟨0, Nat.zero_le _, rfl, rfl, Lib.hid (fun j x h => absurd h (by omega)), K⟩
     case round =>
      clear K
      obtain ⟨k, hk, rfl, rfl, HA, K⟩ := hrel
      have c1 := (K.blk (b := b0) (cs := #[.slice A n cap, .slice A' m cap']) (t := 38) List.mem_cons_self).cell (j := 1) rfl
      by_cases hlt : k < m
      · have hltd : decide (k < m) = true := decide_eq_true hlt
        have hb := K.1
        obtain ⟨eb, off, A0, n0, c0, A1, n1, c9, A2, n2, c2, x, hA, hbB, hx, ⟨z0, z1, z2, z3, z4⟩, r0, r1, r2⟩ := HL.out.atR hlt
        subst hA
        have e0 := (hb.cell (p := ⟨eb, off + k * 5, none⟩) hbB).trans z0
        have e1 := (hb.cell (p := ⟨eb, off + k * 5 + 1, none⟩) hbB).trans z1
        have e2 := (hb.cell (p := ⟨eb, off + k * 5 + 2, none⟩) hbB).trans z2
        have e3 := (hb.cell (p := ⟨eb, off + k * 5 + 3, none⟩) hbB).trans z3
        have e4 := (hb.cell (p := ⟨eb, off + k * 5 + 4, none⟩) hbB).trans z4
        have Hc := Lib.hid (fun W (h : Below wr.heap.size wr W) => (⟨keep_cell h e0, keep_cell h e1, keep_cell h e2, keep_cell h e3, keep_cell h e4⟩ : W.cell? ⟨eb, off + k * 5, none⟩ = some (.slice A0 n0 c0) ∧ W.cell? ⟨eb, off + k * 5 + 1, none⟩ = some (.int .i64 x.b.s) ∧ W.cell? ⟨eb, off + k * 5 + 2, none⟩ = some (.slice A1 n1 c9) ∧ W.cell? ⟨eb, off + k * 5 + 3, none⟩ = some (.int .i64 x.b.t) ∧ W.cell? ⟨eb, off + k * 5 + 4, none⟩ = some (.slice A2 n2 c2)))
        have hki : (k : Int) < (m : Int) := by omega
        have hk0 : (0 : Int) ≤ (k : Int) := by omega
        have hcp0 := r0.caps
        have hcp1 := r1.caps
        have hcp2 := r2.caps
        have HWa := Lib.hid (small9_any 4 A0 n0 c0 x.a wr (r0.up fE_lasts hb))
        have HW := Lib.hid (fun W => gfew_any x.b.s x.b.t A1 A2 n1 c9 n2 c2 1 W)
        have hv : fewF n1 n2 1 = fewV 1 x.b := by unfold fewV; rw [r1.len, r2.len]
        rw [hv] at HW
        clear z0 z1 z2 z3 z4 r0 r1 r2 hv
        have Hx := Lib.hid hx
        clear hx
        have HA2 := Lib.hid (show fewRow 4 1 x = true → ∀ (i : Nat) y, i < k + 1 → ls[i]? = some y → fewRow 4 1 y = true from fun hf i y hi hy => by
         by_cases e : i = k
         · subst e; rw [Hx.out] at hy; cases hy; exact hf
         · exact HA.out i y (by omega) hy)
        have HR2 := Lib.hid (HNo.out k x Hx.out)
        clear HA HNo HYes
        cases hf1 : few6L 4 1 x.a
        · rw [hf1] at HWa
          have HR := Lib.hid (HR2.out (by unfold fewRow; rw [hf1]; rfl))
          clear hf1 HR2 HA2
          go_wp2_with (go_at_call 22; refine HWa.out.mono ?_; rintro e w1 ⟨rfl, hb1⟩; replace K := K.keep hb1)
          exact ZQ99
        · rw [hf1] at HWa
          cases hf2 : fewV 1 x.b
          · rw [hf2] at HW
            have HR := Lib.hid (HR2.out (by unfold fewRow; rw [hf1, hf2]; rfl))
            clear hf1 hf2 HR2 HA2
            go_wp2_with (first | (go_at_call 22; refine HWa.out.mono ?_; rintro e w1 ⟨rfl, hb1⟩; replace K := K.keep hb1; clear c1; have c1 := (K.blk (b := b0) (cs := #[.slice A n cap, .slice (some ⟨eb, off, none⟩) m cap']) (t := 38) List.mem_cons_self).cell (j := 1) rfl; obtain ⟨g0, g1, g2, g3, g4⟩ := Hc.out _ hb1) | (go_at_call 37; refine (HW.out _).mono ?_; rintro e w2 ⟨rfl, hb2⟩; replace K := K.keep hb2))
            exact ZQ99
          · rw [hf2] at HW
            have HA3 := Lib.hid (HA2.out (by unfold fewRow; rw [hf1, hf2]; rfl))
            clear hf1 hf2 HR2 HA2
            go_wp2_with (first | (go_at_call 22; refine HWa.out.mono ?_; rintro e w1 ⟨rfl, hb1⟩; replace K := K.keep hb1; clear c1; have c1 := (K.blk (b := b0) (cs := #[.slice A n cap, .slice (some ⟨eb, off, none⟩) m cap']) (t := 38) List.mem_cons_self).cell (j := 1) rfl; obtain ⟨g0, g1, g2, g3, g4⟩ := Hc.out _ hb1) | (go_at_call 37; refine (HW.out _).mono ?_; rintro e w2 ⟨rfl, hb2⟩; replace K := K.keep hb2))
            go_roundg (m - (k + 1))
            case rel => exact ⟨k + 1, hlt, rfl, by go_num, HA3, K⟩
            case measure => omega
      · have hd : decide (k < m) = false := decide_eq_false hlt
        have e : m = k := by omega
        have HR := Lib.hid (HYes.out (by rw [e]; exact HA.out))
        clear HA HNo HYes e
        go_wp2
        exact ZQ99
 · have hm1 : decide ((m : Int) > 4) = true := decide_eq_true (by omega)
   have hm3 : decide (4 < m) = true := decide_eq_true (by omega)
   have hm2 : (m : Int) > 4 := by omega
   have e : fewP l ls = false := by unfold fewP; rw [decide_eq_false (by omega), Bool.false_and]
   rw [e]
   clear e hlen hl hr HL
   go_enter Tryz.func21, Tryz.ntmps21
   go_wp2_with (first | (apply K.box; rfl; rfl; rfl; clear K; intro W b0 K; have c0 := (K.blk (b := b0) (cs := #[.slice A n cap, .slice A' m cap']) (t := 38) List.mem_cons_self).cell (j := 0) rfl; have c1 := (K.blk (b := b0) (cs := #[.slice A n cap, .slice A' m cap']) (t := 38) List.mem_cons_self).cell (j := 1) rfl))
   go_ret
   exact ⟨rfl, K.1⟩
def LstP (w : World) (n : Nat) (x : Nat → Rat) (e : Ending) (w' : World) : Prop := ∃ A c, e = .returned (.slice A n c) ∧ FrK w w' A n c (ofF n fun i => fvQ (x i)) ∧ Below w.heap.size w w'
theorem list9_any (A : Option Addr) (n cap : Nat) (l : List Int) (w : World) (hl : RdI w w.heap.size A n cap l) (hn : n ≤ 1000) (hb : ∀ x ∈ l, -9223372036854775808 ≤ x ∧ x ≤ 9223372036854775807) :
 Calls Tryz.prog 57 #[.slice A n cap] w (LstP w n fun i => ((gi l i : Int) : Rat)) := by
 have hcap := hl.caps
 have HL := Lib.hid (fun W (h : Below w.heap.size w W) => hl.up (flat_lasts _) h)
 have HB := Lib.hid (show ∀ i, i < n → -9223372036854775808 ≤ gi l i ∧ gi l i ≤ 9223372036854775807 from fun i hi => by
  have e := hl.len
  unfold gi
  rw [List.getD_eq_getElem?_getD, List.getElem?_eq_getElem (by omega)]
  exact hb _ (List.getElem_mem _))
 have K : St w ([] ++ []) [⟨rwP 0 (fun _ => Rw.zero), rwS 0 (fun _ => Rw.zero)⟩] w := (St.start w).rwNew 0
 clear hl hb
 go_enter Tryz.func57, Tryz.ntmps57
 go_wp2_with fail
 go_loopg [3, 4] n (fun gk s3 s4 wr => ∃ (k : Nat) (v : Nat → Rw) (val : Value) (X : List Blk), k ≤ n ∧ gk = n - k ∧ s3 = val ∧ s4 = .int .i64 k ∧ Hid ((∀ j, j < k → (v j).fv = fvQ ((gi l j : Int) : Rat)) ∧ ∀ b, rwS k v b → w.heap.size ≤ b) ∧ OwL 4 Rw.cs 50 val (ofF k v) X ∧ St w (X ++ []) [⟨rwP k v, rwS k v⟩] wr)
 case atStart => exact ⟨0, fun _ => Rw.zero, _, [], Nat.zero_le _, rfl, rfl, rfl, Lib.hid ⟨fun j h => absurd h (by omega), fun b ⟨i, hi, _⟩ => absurd hi (by omega)⟩, OwL.nil, K⟩
 case round =>
  clear K
  obtain ⟨k, v, val, X, hk, rfl, rfl, rfl, HV, ho, K⟩ := hrel
  by_cases hlt : k < n
  · have hki : (k : Int) < (n : Int) := by omega
    have hk0 : (0 : Int) ≤ (k : Int) := by omega
    have hltd : decide (k < n) = true := decide_eq_true hlt
    obtain ⟨vb, vo, hA, hvb, hc⟩ := RdI.cellAt (HL.out _ K.1) hlt
    subst hA
    have HO := Lib.hid (fun W => of9_any (gi l k) W (HB.out k hlt))
    have Ho := Lib.hid ho
    have Hsz := Lib.hid K.1.size
    clear hvb ho
    go_wp2_with (first
     | (go_at_call 66; refine (HO.out _).mono ?_; rintro e W' ⟨s9, A9, n9, c9, l9, t9, B9, m9, d9, k9, rfl, ⟨hra, hrb⟩, ho9, ⟨hfa, hfb⟩, hbl⟩; replace K := K.retF hbl hra hrb hfa hfb)
     | (at_builtin; refine K.app1 Ho.out rw_sized rfl _ _ 23 rfl _ 64 Tryz.underlying23 frac_made rfl rfl (⟨s9, A9, n9, c9, l9, t9, B9, m9, d9, k9⟩ : Rw) _ rfl _ rfl (by exact rfl) (by rw [ofF_len]; omega) (by omega) ?_; intro v4 X4 W4 ho4 K4))
    rw [ofF_put] at ho4
    have HV2 := Lib.hid (show (∀ j, j < k + 1 → (putF v k (⟨s9, A9, n9, c9, l9, t9, B9, m9, d9, k9⟩ : Rw) j).fv = fvQ ((gi l j : Int) : Rat)) ∧ ∀ b, rwS (k + 1) (putF v k (⟨s9, A9, n9, c9, l9, t9, B9, m9, d9, k9⟩ : Rw)) b → w.heap.size ≤ b from ⟨fun j hj => by
     by_cases e : j = k
     · rw [e, putF_same]
       exact ho9.fv
     · rw [putF_other e]
       exact HV.out.1 j (by omega), fun b ⟨j, hj, hS⟩ => by
     by_cases e : j = k
     · rw [e, putF_same] at hS
       rcases hS with ⟨-, a, ha, rfl⟩ | ⟨-, a, ha, rfl⟩
       · exact Nat.le_trans Hsz.out (hfa a ha)
       · exact Nat.le_trans Hsz.out (hfb a ha)
     · rw [putF_other e] at hS
       exact HV.out.2 b ⟨j, by omega, hS⟩⟩)
    have HK := Lib.hid ((K4.rwAdd (v := v) (n := k) ⟨s9, A9, n9, c9, l9, t9, B9, m9, d9, k9⟩ ZMB ZMB ZMB).lessS (D' := [⟨rwP (k + 1) (putF v k ⟨s9, A9, n9, c9, l9, t9, B9, m9, d9, k9⟩), rwS (k + 1) (putF v k ⟨s9, A9, n9, c9, l9, t9, B9, m9, d9, k9⟩)⟩]) (by repeat (first | with_reducible exact List.Sublist.refl _ | with_reducible apply List.Sublist.cons_cons | with_reducible apply List.Sublist.cons)))
    clear K4 ho9 HV Ho
    go_roundg (n - (k + 1))
    case rel => exact ⟨k + 1, _, _, X4, hlt, rfl, rfl, by go_num, HV2, ho4, HK.out⟩
    case measure => omega
  · have e : n = k := by omega
    subst e
    have hltd : decide (n < n) = false := decide_eq_false hlt
    obtain ⟨Ao, co, hv, hro⟩ := ho.frK K ZMB (by omega) HV.out.2
    subst hv
    rw [ofF_congr (g := fun i => fvQ ((gi l i : Int) : Rat)) (fun i hi => HV.out.1 i hi)] at hro
    have HX := Lib.hid (show LstP w n (fun i => ((gi l i : Int) : Rat)) (.returned (.slice Ao n co)) wr from ⟨Ao, co, rfl, hro, K.1⟩)
    clear ho K hro HV hlt
    go_wp2_with fail
    go_ret
    exact HX.out
def okS (m n : Nat) : Nat → Dc → Bool
 | 0, D => match D.pick m n with
  | .swap _ _ => false
  | _ => true
 | t + 1, D => match D.pick m n with
  | .swap r s => D.fitX m n r s && okS m n t (D.xch r s)
  | _ => false
theorem okS_srch {m n : Nat} : ∀ {t : Nat} {D : Dc}, okS m n t D = true → Srch m n D (some (Dc.seq m n t D))
 | 0, D, h => by
  refine .stop fun ⟨r, s, e⟩ => ?_
  unfold okS at h
  rw [e] at h
  cases h
 | t + 1, D, h => by
  unfold okS at h
  cases e : D.pick m n with
  | swap r s =>
   rw [e] at h
   have h : (D.fitX m n r s && okS m n t (D.xch r s)) = true := h
   rw [Bool.and_eq_true] at h
   have e3 : D.nxt m n = D.xch r s := by unfold Dc.nxt; rw [e]
   refine .step e h.1 ?_
   rw [Dc.seq, e3]
   exact okS_srch h.2
  | best => rw [e] at h; cases h
  | contra i => rw [e] at h; cases h
  | endless j => rw [e] at h; cases h
def rwJ (l : List Int) (b : Int) : Rv := ⟨ofF l.length fun i => fvQ ((gi l i : Int) : Rat), fvQ ((b : Int) : Rat)⟩
def fvJ (l : List Int) : List Fv := ofF l.length fun i => fvQ ((gi l i : Int) : Rat)
def pA : List Rv := [rwJ [1, 2] 4, rwJ [3, 1] 6]
def pB : List Rv := [rwJ [-1] (-3), rwJ [1] 2]
def pC : List Rv := [rwJ [1, -1] 1]
def pD : List Rv := [rwJ [] (-1)]
abbrev opS (l : List Fv) (ls : List Rv) (m n : Nat) (zero : Bool) : Dc := opnD n (rwA2 ls) (rwB2 ls false) (if zero = true then fun _ => 0 else fvR l)
theorem says_none {l : List Fv} {ls : List Rv} {m n t r : Nat} (h : okS m n t (opS l ls m n true) = true) (hp : (Dc.seq m n t (opS l ls m n true)).pick m n = .contra r) : LpSays m n (rwA2 ls) (rwB2 ls false) (fvR l) (.none (yC n (Dc.seq m n t (opS l ls m n true)) r)) := .none (okS_srch h) hp
theorem says_fin {l : List Fv} {ls : List Rv} {m n t u : Nat} (h : okS m n t (opS l ls m n true) = true) (hp : (Dc.seq m n t (opS l ls m n true)).pick m n = .best) (h2 : okS m n u (opS l ls m n false) = true) : LpSays m n (rwA2 ls) (rwB2 ls false) (fvR l) (endOf m n (Dc.seq m n u (opS l ls m n false))) := .fin (okS_srch h) (fun r e => by cases (hp.symm.trans e)) (okS_srch h2)
theorem exA1 : okS 2 2 0 (opS (fvJ [1, 1]) pA 2 2 true) = true := by decide +kernel
theorem exA2 : okS 2 2 2 (opS (fvJ [1, 1]) pA 2 2 false) = true := by decide +kernel
theorem exA3 : (Dc.seq 2 2 0 (opS (fvJ [1, 1]) pA 2 2 true)).pick 2 2 = .best := by kernel_rfl
theorem exA4 : (Dc.seq 2 2 2 (opS (fvJ [1, 1]) pA 2 2 false)).pick 2 2 = .best := by kernel_rfl
theorem exA5 : (ofF 2 fun i => fvQ (xB 2 (Dc.seq 2 2 2 (opS (fvJ [1, 1]) pA 2 2 false)) i)) = [fvQ (Rat.divInt 8 5), fvQ (Rat.divInt 6 5)] := by decide +kernel
theorem exA6 : (ofF 2 fun i => fvQ (yB 2 (Dc.seq 2 2 2 (opS (fvJ [1, 1]) pA 2 2 false)) i)) = [fvQ (Rat.divInt 2 5), fvQ (Rat.divInt 1 5)] := by decide +kernel
theorem exB1 : okS 2 1 1 (opS (fvJ [1]) pB 2 1 true) = true := by decide +kernel
theorem exB2 : (Dc.seq 2 1 1 (opS (fvJ [1]) pB 2 1 true)).pick 2 1 = .contra 1 := by kernel_rfl
theorem exB3 : (ofF 2 fun i => fvQ (yC 1 (Dc.seq 2 1 1 (opS (fvJ [1]) pB 2 1 true)) 1 i)) = [fvQ ((1 : Int) : Rat), fvQ ((1 : Int) : Rat)] := by decide +kernel
theorem exC1 : okS 1 2 0 (opS (fvJ [1, 1]) pC 1 2 true) = true := by decide +kernel
theorem exC2 : (Dc.seq 1 2 0 (opS (fvJ [1, 1]) pC 1 2 true)).pick 1 2 = .best := by kernel_rfl
theorem exC3 : okS 1 2 1 (opS (fvJ [1, 1]) pC 1 2 false) = true := by decide +kernel
theorem exC4 : (Dc.seq 1 2 1 (opS (fvJ [1, 1]) pC 1 2 false)).pick 1 2 = .endless 1 := by kernel_rfl
theorem exC5 : (ofF 2 fun i => fvQ (xR 1 (Dc.seq 1 2 1 (opS (fvJ [1, 1]) pC 1 2 false)) 1 i)) = [fvQ ((1 : Int) : Rat), fvQ ((1 : Int) : Rat)] := by decide +kernel
theorem exD1 : okS 1 0 0 (opS [] pD 1 0 true) = true := by decide +kernel
theorem exD2 : (Dc.seq 1 0 0 (opS [] pD 1 0 true)).pick 1 0 = .contra 0 := by kernel_rfl
theorem exD3 : (ofF 1 fun i => fvQ (yC 0 (Dc.seq 1 0 0 (opS [] pD 1 0 true)) 0 i)) = [fvQ ((1 : Int) : Rat)] := by decide +kernel
end Go.Proofs.YtdlcglndhhndpaaGreat
