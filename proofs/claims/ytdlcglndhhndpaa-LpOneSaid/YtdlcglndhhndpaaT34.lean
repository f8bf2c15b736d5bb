/- Laws and walks laid together; the conditions stand in each theorem. -/
import Derived.Test.YtdlcglndhhndpaaT33
set_option linter.unusedSimpArgs false
set_option linter.unusedVariables false
namespace Go.Proofs.Ytdlcglndhhndpaa
open Go.RowKit
theorem ZQ79 {p : Prop} (h : p := by
  first
    | (clear HA HNo HYes HLong
       go_wp2
       go_ret
       exact ⟨by rw [HR.out]; first | done | rfl, HB.out⟩)
    | fail) : p := h
theorem ZQ84 {p : Prop} (h : p := by
  first
    | (go_ret
       exact ⟨by rw [HR.out]; first | done | rfl, K.1⟩)
    | fail) : p := h
set_option maxRecDepth 100000 in
set_option maxHeartbeats 2000000 in
theorem same9_any (A A2 : Option Addr) (n cap n2 cap2 : Nat) (a b : List Fv) (w : World) (ha : RdF w w.heap.size A n cap a) (hb : RdF w w.heap.size A2 n2 cap2 b) :
    Calls Try.prog 37 #[.slice A n cap, .slice A2 n2 cap2] w fun e w' => e = .returned (.bool (decide (a = b))) ∧ Below w.heap.size w w' := by
  have K := St.start w
  have r := K.raw
  have hla := ha.len
  have hlb := hb.len
  have hca := ha.caps
  have hcb := hb.caps
  have HA := Lib.hid ha
  have HB := Lib.hid hb
  obtain ⟨R, hR⟩ : ∃ R, R = decide (a = b) := ⟨_, rfl⟩
  rw [← hR]
  clear ha hb
  by_cases hnn : (n : Int) = (n2 : Int)
  case neg =>
    have hd2 : ((n : Int) != (n2 : Int)) = true := by simp [hnn]
    have HR := Lib.hid (show R = false from by rw [hR]; exact decide_eq_false fun h => hnn (by rw [← hla, ← hlb, h]))
    clear hR hnn hla hlb
    go_enter Try.func37, Try.ntmps37
    go_wp2_with (first | (refine ZAL ?_; clear K r; intro W b K r) | (refine ZST ?_; clear K r; intro W K r))
    exact ZQ84
  obtain rfl : n = n2 := by omega
  have hd2 : ((n : Int) != (n : Int)) = false := by simp
  have HEq := Lib.hid (show (∀ j : Nat, j < n → a[j]? = b[j]?) → R = true from fun h => by
    rw [hR]
    refine decide_eq_true (List.ext_getElem? fun j => ?_)
    by_cases hj : j < n
    · exact h j hj
    · rw [List.getElem?_eq_none (by omega), List.getElem?_eq_none (by omega)])
  have HNe := Lib.hid (show ∀ (j : Nat) x y, a[j]? = some x → b[j]? = some y → x ≠ y → R = false from fun j x y h1 h2 h3 => by
    rw [hR]
    refine decide_eq_false fun h => h3 ?_
    rw [h, h2] at h1
    exact (Option.some.inj h1).symm)
  clear hla hlb hR hnn
  go_enter Try.func37, Try.ntmps37
  go_wp2_with (first | (refine ZAL ?_; clear K r; intro W b K r) | (refine ZST ?_; clear K r; intro W K r))
  go_loopg [5] n (fun gk i wr => ∃ k : Nat, k ≤ n ∧ gk = n - k ∧ i = .int .i64 k ∧ Hid (∀ j : Nat, j < k → a[j]? = b[j]?) ∧ Below w.heap.size w wr)
  case atStart => exact ⟨0, Nat.zero_le _, rfl, rfl, Lib.hid (fun j hj => absurd hj (by omega)), K.1⟩
  case round =>
    clear K r
    obtain ⟨k, hk, rfl, rfl, Hall, hbel⟩ := hrel
    by_cases hlt : k < n
    · have K := (St.start w).keep hbel
      obtain ⟨eb1, off1, A1, n1, c1, B1, m1, d1, x, hA1, hbB1, hx1, ⟨z0, z1, z2, z3⟩, r1, q1⟩ := HA.out.atF hlt
      subst hA1
      have Ex1 := Lib.hid (fun W (h : Below w.heap.size w W) => (⟨(h.cell (p := ⟨eb1, off1 + k * 4, none⟩) hbB1).trans z0, (h.cell (p := ⟨eb1, off1 + k * 4 + 1, none⟩) hbB1).trans z1, (h.cell (p := ⟨eb1, off1 + k * 4 + 2, none⟩) hbB1).trans z2, (h.cell (p := ⟨eb1, off1 + k * 4 + 3, none⟩) hbB1).trans z3⟩ : W.cell? ⟨eb1, off1 + k * 4, none⟩ = some (.int .i64 (x).s) ∧ W.cell? ⟨eb1, off1 + k * 4 + 1, none⟩ = some (.slice A1 n1 c1) ∧ W.cell? ⟨eb1, off1 + k * 4 + 2, none⟩ = some (.int .i64 (x).t) ∧ W.cell? ⟨eb1, off1 + k * 4 + 3, none⟩ = some (.slice B1 m1 d1)))
      have hki : (k : Int) < (n : Int) := by omega
      have hk0 : (0 : Int) ≤ (k : Int) := by omega
      have hcap1 := r1.caps
      have hcbp1 := q1.caps
      replace K := (K.oldRd r1).oldRd q1
      have Hx1 := Lib.hid hx1
      clear hx1 z0 z1 z2 z3 r1 q1
      obtain ⟨eb2, off2, A2, n2, c2, B2, m2, d2, y, hA2, hbB2, hx2, ⟨z0, z1, z2, z3⟩, r2, q2⟩ := HB.out.atF hlt
      subst hA2
      have Ex2 := Lib.hid (fun W (h : Below w.heap.size w W) => (⟨(h.cell (p := ⟨eb2, off2 + k * 4, none⟩) hbB2).trans z0, (h.cell (p := ⟨eb2, off2 + k * 4 + 1, none⟩) hbB2).trans z1, (h.cell (p := ⟨eb2, off2 + k * 4 + 2, none⟩) hbB2).trans z2, (h.cell (p := ⟨eb2, off2 + k * 4 + 3, none⟩) hbB2).trans z3⟩ : W.cell? ⟨eb2, off2 + k * 4, none⟩ = some (.int .i64 (y).s) ∧ W.cell? ⟨eb2, off2 + k * 4 + 1, none⟩ = some (.slice A2 n2 c2) ∧ W.cell? ⟨eb2, off2 + k * 4 + 2, none⟩ = some (.int .i64 (y).t) ∧ W.cell? ⟨eb2, off2 + k * 4 + 3, none⟩ = some (.slice B2 m2 d2)))
      have hki : (k : Int) < (n : Int) := by omega
      have hk0 : (0 : Int) ≤ (k : Int) := by omega
      have hcap2 := r2.caps
      have hcbp2 := q2.caps
      replace K := (K.oldRd r2).oldRd q2
      have Hx2 := Lib.hid hx2
      clear hx2 z0 z1 z2 z3 r2 q2
      obtain ⟨ι, f, hne, hfw, hfk, hfc⟩ := cls_st2 (fun W => St w [] [⟨rdP B2 m2 d2 y.m, oldS w⟩, ⟨rdP A2 n2 c2 y.l, oldS w⟩, ⟨rdP B1 m1 d1 x.m, oldS w⟩, ⟨rdP A1 n1 c1 x.l, oldS w⟩] W) wr K (fun W h => h.drew)
      have QC := Lib.hid (fun q => (gsame_any x.s x.t y.s y.t A1 B1 A2 B2 n1 c1 m1 d1 n2 c2 m2 d2 x.l x.m y.l y.m (f q) ((hfk q).rd ZMB) ((hfk q).rd ZMB) ((hfk q).rd ZMB) ((hfk q).rd ZMB)).mono fun e w'' ⟨he, hb⟩ => (⟨by rw [← fv_same]; exact he, hfc _ ((hfk q).keep hb)⟩ : e = Ending.returned (.bool (decide (x = y))) ∧ ∃ s, w'' = f s))
      have e1 := fun q => (Ex1.out (f q) (hfk q).1).1
      have e2 := fun q => (Ex1.out (f q) (hfk q).1).2.1
      have e3 := fun q => (Ex1.out (f q) (hfk q).1).2.2.1
      have e4 := fun q => (Ex1.out (f q) (hfk q).1).2.2.2
      have g1 := fun q => (Ex2.out (f q) (hfk q).1).1
      have g2 := fun q => (Ex2.out (f q) (hfk q).1).2.1
      have g3 := fun q => (Ex2.out (f q) (hfk q).1).2.2.1
      have g4 := fun q => (Ex2.out (f q) (hfk q).1).2.2.2
      have Hfw := Lib.hid hfw
      have Hfk := Lib.hid (fun q => (hfk q).1)
      clear hfw hfk hfc K hbel
      by_cases hxy : x = y
      · rw [decide_eq_true hxy] at QC
        have Hn := Lib.hid (show ∀ j : Nat, j < k + 1 → a[j]? = b[j]? from fun j hj => by
          by_cases e : j = k
          · subst e; rw [Hx1.out, Hx2.out, hxy]
          · exact Hall.out j (by omega))
        clear hxy Hall
        go_upto_region 6 with fail
        refine wp_region_cls2 (C := fun w' => ∃ n, w' = f n) (by kernel_rfl) (by kernel_rfl) Hfw.out ?_
        repeat (first
          | go_big_quiet_skip
          | (go_big_quiet_want; go_big_quiet_op; first | go_big_quiet_on | go_big_quiet_call ((go_at_call 25; with_reducible exact QC.out _))))
        refine wpQuiet_nil ?_
        rintro _ ⟨nq, rfl⟩
        have hB := Hfk.out nq
        clear QC e1 e2 e3 e4 g1 g2 g3 g4
        go_wp2
        go_roundg (n - (k + 1))
        case rel => exact ⟨k + 1, by omega, rfl, by go_num, Hn, hB⟩
        case measure => omega
      · rw [decide_eq_false hxy] at QC
        have Hf := Lib.hid (HNe.out k x y Hx1.out Hx2.out hxy)
        clear hxy Hall
        go_upto_region 6 with fail
        refine wp_region_cls2 (C := fun w' => ∃ n, w' = f n) (by kernel_rfl) (by kernel_rfl) Hfw.out ?_
        repeat (first
          | go_big_quiet_skip
          | (go_big_quiet_want; go_big_quiet_op; first | go_big_quiet_on | go_big_quiet_call ((go_at_call 25; with_reducible exact QC.out _))))
        refine wpQuiet_nil ?_
        rintro _ ⟨nq, rfl⟩
        have hB := Hfk.out nq
        clear QC e1 e2 e3 e4 g1 g2 g3 g4
        go_wp2
        go_ret
        exact ⟨by rw [Hf.out]; first | done | rfl, hB⟩
    · have ee : k = n := by omega
      subst ee
      have hd0 : decide (k < k) = false := by simp
      have Hf := Lib.hid (HEq.out Hall.out)
      clear hlt Hall
      go_wp2
      go_ret
      exact ⟨by rw [Hf.out]; first | done | rfl, hbel⟩
set_option maxRecDepth 100000 in
set_option maxHeartbeats 2000000 in
theorem small9_any (M : Int) (A : Option Addr) (n cap : Nat) (l : List Fv) (w : World) (hl : RdF w w.heap.size A n cap l) :
    Calls Try.prog 39 #[.slice A n cap, .int .i64 M] w fun e w' => e = .returned (.bool (few6L M 1 l)) ∧ Below w.heap.size w w' := by
  have hcaps := hl.caps
  have hlen := hl.len
  have HL := Lib.hid hl
  obtain ⟨R, hR⟩ : ∃ R, R = few6L M 1 l := ⟨_, rfl⟩
  rw [← hR]
  have HNo := Lib.hid (show ∀ (i : Nat) x, l[i]? = some x → fewV 1 x = false → R = false from fun i x hx h => by
    rw [hR]
    unfold few6L
    rw [Bool.and_eq_false_iff]
    right
    rw [List.all_eq_false]
    exact ⟨x, List.mem_of_getElem? hx, by rw [h]; simp⟩)
  have HLong := Lib.hid (show M < (n : Int) → R = false from fun h => by
    rw [hR]
    unfold few6L
    rw [hlen, decide_eq_false (by omega), Bool.false_and])
  have HYes := Lib.hid (show (n : Int) ≤ M → (∀ (i : Nat) x, i < n → l[i]? = some x → fewV 1 x = true) → R = true from fun h h1 => by
    rw [hR]
    unfold few6L
    rw [hlen, decide_eq_true h, Bool.true_and, List.all_eq_true]
    intro x hx
    obtain ⟨i, hi, rfl⟩ := List.mem_iff_getElem.1 hx
    exact h1 i _ (by omega) (List.getElem?_eq_getElem hi))
  clear hl hR hlen
  go_enter Try.func39, Try.ntmps39
  go_wp2
  go_loopg [5] n (fun gk s5 wr => ∃ k : Nat, k ≤ n ∧ gk = n - k ∧ s5 = .int .i64 k ∧ Hid (∀ (i : Nat) x, i < k → l[i]? = some x → fewV 1 x = true) ∧ Below w.heap.size w wr)
  case atStart => exact ⟨0, Nat.zero_le _, rfl, rfl, Lib.hid (fun j x h => absurd h (by omega)), Below.refl _ _⟩
  case round =>
    obtain ⟨k, hk, rfl, rfl, HA, hb⟩ := hrel
    have HB := Lib.hid hb
    by_cases hlt : k < n
    · have hltd : decide (k < n) = true := decide_eq_true hlt
      by_cases hM : (k : Int) ≤ M
      · have hMd : decide ((k : Int) ≤ M) = true := decide_eq_true hM
        obtain ⟨eb, off, A1, n1, c1, B1, m1, d1, x, hA, hbB, hx, ⟨z0, z1, z2, z3⟩, r1, r2⟩ := HL.out.atF hlt
        subst hA
        have e0 := (hb.cell (p := ⟨eb, off + k * 4, none⟩) hbB).trans z0
        have e1 := (hb.cell (p := ⟨eb, off + k * 4 + 1, none⟩) hbB).trans z1
        have e2 := (hb.cell (p := ⟨eb, off + k * 4 + 2, none⟩) hbB).trans z2
        have e3 := (hb.cell (p := ⟨eb, off + k * 4 + 3, none⟩) hbB).trans z3
        have hki : (k : Int) < (n : Int) := by omega
        have hk0 : (0 : Int) ≤ (k : Int) := by omega
        have hcp1 := r1.caps
        have hcp2 := r2.caps
        have HW := Lib.hid (fun W => gfew_any x.s x.t A1 B1 n1 c1 m1 d1 1 W)
        have hv : fewF n1 m1 1 = fewV 1 x := by unfold fewV; rw [r1.len, r2.len]
        rw [hv] at HW
        have Hx := Lib.hid hx
        clear z0 z1 z2 z3 r1 r2 hx hv
        cases hf : fewV 1 x
        · rw [hf] at HW
          have HR := Lib.hid (HNo.out k x Hx.out hf)
          clear hf HNo HYes HLong HA
          go_wp2_with (go_at_call 20; refine (HW.out _).mono ?_; rintro e w1 ⟨rfl, hb1⟩)
          go_ret
          exact ⟨by rw [HR.out]; first | done | rfl, HB.out.trans (hb1.mono HB.out.size)⟩
        · rw [hf] at HW
          have HA2 := Lib.hid (show ∀ (i : Nat) y, i < k + 1 → l[i]? = some y → fewV 1 y = true from fun i y hi hy => by
            by_cases e : i = k
            · subst e; rw [Hx.out] at hy; cases hy; exact hf
            · exact HA.out i y (by omega) hy)
          clear hf HA
          go_wp2_with (go_at_call 20; refine (HW.out _).mono ?_; rintro e w1 ⟨rfl, hb1⟩)
          go_roundg (n - (k + 1))
          case rel => exact ⟨k + 1, hlt, rfl, by go_num, HA2, HB.out.trans (hb1.mono HB.out.size)⟩
          case measure => omega
      · have hMd : decide ((k : Int) ≤ M) = false := decide_eq_false hM
        have hn2 : decide ((n : Int) ≤ M) = false := decide_eq_false (by omega)
        have HR := Lib.hid (HLong.out (by omega))
        exact ZQ79
    · have e : n = k := by omega
      subst e
      by_cases hM : (n : Int) ≤ M
      · have hMd : decide ((n : Int) ≤ M) = true := decide_eq_true hM
        have HR := Lib.hid (HYes.out hM HA.out)
        exact ZQ79
      · have hMd : decide ((n : Int) ≤ M) = false := decide_eq_false hM
        have HR := Lib.hid (HLong.out (by omega))
        exact ZQ79
set_option maxRecDepth 100000 in
set_option maxHeartbeats 1000000 in
theorem of9_any (p : Int) (w : World) (hp : -9223372036854775808 ≤ p ∧ p ≤ 9223372036854775807) :
    Calls Try.prog 34 #[.int .i64 p] w (FrV w (p : Rat)) := by
  have K := St.start w
  have r := K.raw
  have h := fun W => gOf_any p 1 W hp (by decide)
  rw [newO_yes (by decide), newE_yes (by decide), divInt_1] at h
  have HO := Lib.hid h
  clear h hp
  generalize ((p : Int) : Rat) = z at *
  go_enter Try.func34, Try.ntmps34
  go_wp2_with (first | (refine ZAL ?_; clear K r; intro W b K r) | (refine ZST ?_; clear K r; intro W K r))
  refine (HO.out _).mono ?_
  rintro e W' ⟨s7, A7, n7, c7, l7, t7, B7, m7, d7, k7, rfl, ⟨hra, hrb⟩, ho, ⟨hfa, hfb⟩, hb⟩
  have hf7 := Lib.hid (hfa.mono K.1.size)
  have hg7 := Lib.hid (hfb.mono K.1.size)
  replace K := K.retF hb hra hrb hfa hfb
  clear r
  have r := K.rawS
  clear hra hrb hfa hfb hb
  go_wp2_with (first | (refine ZAL ?_; clear K r; intro W b K r) | (refine ZST ?_; clear K r; intro W K r))
  have HE := Lib.hid (⟨s7, A7, n7, c7, l7, t7, B7, m7, d7, k7, rfl, ⟨ZRD, ZRD⟩, ho, ⟨hf7.out, hg7.out⟩, K.1⟩ : FrV w z (.returned (.agg #[.int .i64 s7, .slice A7 n7 c7, .int .i64 t7, .slice B7 m7 d7])) W)
  clear ho
  exact bodyPost_ret (v := .agg #[.int .i64 s7, .slice A7 n7 c7, .int .i64 t7, .slice B7 m7 d7]) (by simp [results, Try.results34, go_sem, r]) rfl HE.out
end Go.Proofs.Ytdlcglndhhndpaa
namespace Go.Proofs.Ytdlcglndhhndpaa
open Go.RowKit
def fewP (l : List Fv) (ls : List Rv) : Bool := decide (ls.length ≤ 4) && (few6L 4 1 l && ls.all (fewRow 4 1))
set_option maxRecDepth 100000 in
set_option maxHeartbeats 4000000 in
theorem few9_any (A A' : Option Addr) (n cap m cap' : Nat) (l : List Fv) (ls : List Rv) (w : World) (hl : RdF w w.heap.size A n cap l) (hr : RdR w w.heap.size A' m cap' ls) :
    Calls Try.prog 29 #[.agg #[.slice A n cap, .slice A' m cap']] w fun e w' => e = .returned (.bool (fewP l ls)) ∧ Below w.heap.size w w' := by
  have hcap := hl.caps
  have hcap' := hr.caps
  have hlen := hr.len
  have HL := Lib.hid hr
  have HS := Lib.hid (fun W (h : Below w.heap.size w W) => small9_any 4 A n cap l W (hl.up fE_lasts h))
  have K := St.start w
  by_cases hm : m ≤ 4
  · have hm1 : decide ((m : Int) > 4) = false := decide_eq_false (by omega)
    have hm3 : decide (4 < m) = false := decide_eq_false (by omega)
    have hm2 : ¬ (m : Int) > 4 := by omega
    cases hs : few6L 4 1 l
    · have e : fewP l ls = false := by unfold fewP; rw [hs, Bool.false_and, Bool.and_false]
      rw [e]
      rw [hs] at HS
      clear e hs hlen hl hr HL
      go_enter Try.func29, Try.ntmps29
      go_wp2_with (first | (first | (apply K.box; rfl; rfl; rfl; clear K; intro W b0 K; have c0 := (K.blk (b := b0) (cs := #[.slice A n cap, .slice A' m cap']) (t := 58) List.mem_cons_self).cell (j := 0) rfl; have c1 := (K.blk (b := b0) (cs := #[.slice A n cap, .slice A' m cap']) (t := 58) List.mem_cons_self).cell (j := 1) rfl)) | (go_at_call 39; refine (HS.out _ K.1).mono ?_; rintro e W' ⟨rfl, hb⟩; replace K := K.keep hb))
      go_ret
      exact ⟨rfl, K.1⟩
    · have e : fewP l ls = ls.all (fewRow 4 1) := by unfold fewP; rw [hs, Bool.true_and, decide_eq_true (by omega), Bool.true_and]
      rw [e]
      rw [hs] at HS
      obtain ⟨R, hR⟩ : ∃ R, R = ls.all (fewRow 4 1) := ⟨_, rfl⟩
      rw [← hR]
      have HNo := Lib.hid (show ∀ (i : Nat) x, ls[i]? = some x → fewRow 4 1 x = false → R = false from fun i x hx h => by
        rw [hR, List.all_eq_false]
        exact ⟨x, List.mem_of_getElem? hx, by rw [h]; simp⟩)
      have HYes := Lib.hid (show (∀ (i : Nat) x, i < m → ls[i]? = some x → fewRow 4 1 x = true) → R = true from fun h1 => by
        rw [hR, List.all_eq_true]
        intro x hx
        obtain ⟨i, hi, rfl⟩ := List.mem_iff_getElem.1 hx
        exact h1 i _ (by omega) (List.getElem?_eq_getElem hi))
      clear e hs hlen hl hr hR
      go_enter Try.func29, Try.ntmps29
      go_wp2_with (first | (first | (apply K.box; rfl; rfl; rfl; clear K; intro W b0 K; have c0 := (K.blk (b := b0) (cs := #[.slice A n cap, .slice A' m cap']) (t := 58) List.mem_cons_self).cell (j := 0) rfl; have c1 := (K.blk (b := b0) (cs := #[.slice A n cap, .slice A' m cap']) (t := 58) List.mem_cons_self).cell (j := 1) rfl)) | (go_at_call 39; refine (HS.out _ K.1).mono ?_; rintro e W' ⟨rfl, hb⟩; replace K := K.keep hb; clear hb c0 c1))
      go_loopg [3] m (fun gk s3 wr => ∃ k : Nat, k ≤ m ∧ gk = m - k ∧ s3 = .int .i64 k ∧ Hid (∀ (i : Nat) x, i < k → ls[i]? = some x → fewRow 4 1 x = true) ∧ St w [(b0, #[.slice A n cap, .slice A' m cap'], 58)] [] wr)
      case atStart => exact ⟨0, Nat.zero_le _, rfl, rfl, Lib.hid (fun j x h => absurd h (by omega)), K⟩
      case round =>
        clear K
        obtain ⟨k, hk, rfl, rfl, HA, K⟩ := hrel
        have c1 := (K.blk (b := b0) (cs := #[.slice A n cap, .slice A' m cap']) (t := 58) List.mem_cons_self).cell (j := 1) rfl
        by_cases hlt : k < m
        · have hltd : decide (k < m) = true := decide_eq_true hlt
          have hb := K.1
          obtain ⟨eb, off, A0, n0, c0, A1, n1, c9, A2, n2, c2, x, hA, hbB, hx, ⟨z0, z1, z2, z3, z4⟩, r0, r1, r2⟩ := HL.out.atR hlt
          subst hA
          have e0 := (hb.cell (p := ⟨eb, off + k * 5, none⟩) hbB).trans z0
          have e1 := (hb.cell (p := ⟨eb, off + k * 5 + 1, none⟩) hbB).trans z1
          have e2 := (hb.cell (p := ⟨eb, off + k * 5 + 2, none⟩) hbB).trans z2
          have e3 := (hb.cell (p := ⟨eb, off + k * 5 + 3, none⟩) hbB).trans z3
          have e4 := (hb.cell (p := ⟨eb, off + k * 5 + 4, none⟩) hbB).trans z4
          have Hc := Lib.hid (fun W (h : Below wr.heap.size wr W) => (⟨keep_cell h e0, keep_cell h e1, keep_cell h e2, keep_cell h e3, keep_cell h e4⟩ : W.cell? ⟨eb, off + k * 5, none⟩ = some (.slice A0 n0 c0) ∧ W.cell? ⟨eb, off + k * 5 + 1, none⟩ = some (.int .i64 x.b.s) ∧ W.cell? ⟨eb, off + k * 5 + 2, none⟩ = some (.slice A1 n1 c9) ∧ W.cell? ⟨eb, off + k * 5 + 3, none⟩ = some (.int .i64 x.b.t) ∧ W.cell? ⟨eb, off + k * 5 + 4, none⟩ = some (.slice A2 n2 c2)))
          have hki : (k : Int) < (m : Int) := by omega
          have hk0 : (0 : Int) ≤ (k : Int) := by omega
          have hcp0 := r0.caps
          have hcp1 := r1.caps
          have hcp2 := r2.caps
          have HWa := Lib.hid (small9_any 4 A0 n0 c0 x.a wr (r0.up fE_lasts hb))
          have HW := Lib.hid (fun W => gfew_any x.b.s x.b.t A1 A2 n1 c9 n2 c2 1 W)
          have hv : fewF n1 n2 1 = fewV 1 x.b := by unfold fewV; rw [r1.len, r2.len]
          rw [hv] at HW
          clear z0 z1 z2 z3 z4 r0 r1 r2 hv
          have Hx := Lib.hid hx
          clear hx
          have HA2 := Lib.hid (show fewRow 4 1 x = true → ∀ (i : Nat) y, i < k + 1 → ls[i]? = some y → fewRow 4 1 y = true from fun hf i y hi hy => by
            by_cases e : i = k
            · subst e; rw [Hx.out] at hy; cases hy; exact hf
            · exact HA.out i y (by omega) hy)
          have HR2 := Lib.hid (HNo.out k x Hx.out)
          clear HA HNo HYes
          cases hf1 : few6L 4 1 x.a
          · rw [hf1] at HWa
            have HR := Lib.hid (HR2.out (by unfold fewRow; rw [hf1]; rfl))
            clear hf1 HR2 HA2
            go_wp2_with (go_at_call 39; refine HWa.out.mono ?_; rintro e w1 ⟨rfl, hb1⟩; replace K := K.keep hb1)
            exact ZQ84
          · rw [hf1] at HWa
            cases hf2 : fewV 1 x.b
            · rw [hf2] at HW
              have HR := Lib.hid (HR2.out (by unfold fewRow; rw [hf1, hf2]; rfl))
              clear hf1 hf2 HR2 HA2
              go_wp2_with (first | (go_at_call 39; refine HWa.out.mono ?_; rintro e w1 ⟨rfl, hb1⟩; replace K := K.keep hb1; clear c1; have c1 := (K.blk (b := b0) (cs := #[.slice A n cap, .slice (some ⟨eb, off, none⟩) m cap']) (t := 58) List.mem_cons_self).cell (j := 1) rfl; obtain ⟨g0, g1, g2, g3, g4⟩ := Hc.out _ hb1) | (go_at_call 20; refine (HW.out _).mono ?_; rintro e w2 ⟨rfl, hb2⟩; replace K := K.keep hb2))
              exact ZQ84
            · rw [hf2] at HW
              have HA3 := Lib.hid (HA2.out (by unfold fewRow; rw [hf1, hf2]; rfl))
              clear hf1 hf2 HR2 HA2
              go_wp2_with (first | (go_at_call 39; refine HWa.out.mono ?_; rintro e w1 ⟨rfl, hb1⟩; replace K := K.keep hb1; clear c1; have c1 := (K.blk (b := b0) (cs := #[.slice A n cap, .slice (some ⟨eb, off, none⟩) m cap']) (t := 58) List.mem_cons_self).cell (j := 1) rfl; obtain ⟨g0, g1, g2, g3, g4⟩ := Hc.out _ hb1) | (go_at_call 20; refine (HW.out _).mono ?_; rintro e w2 ⟨rfl, hb2⟩; replace K := K.keep hb2))
              go_roundg (m - (k + 1))
              case rel => exact ⟨k + 1, hlt, rfl, by go_num, HA3, K⟩
              case measure => omega
        · have hd : decide (k < m) = false := decide_eq_false hlt
          have e : m = k := by omega
          have HR := Lib.hid (HYes.out (by rw [e]; exact HA.out))
          clear HA HNo HYes e
          go_wp2
          exact ZQ84
  · have hm1 : decide ((m : Int) > 4) = true := decide_eq_true (by omega)
    have hm3 : decide (4 < m) = true := decide_eq_true (by omega)
    have hm2 : (m : Int) > 4 := by omega
    have e : fewP l ls = false := by unfold fewP; rw [decide_eq_false (by omega), Bool.false_and]
    rw [e]
    clear e hlen hl hr HL
    go_enter Try.func29, Try.ntmps29
    go_wp2_with (first | (apply K.box; rfl; rfl; rfl; clear K; intro W b0 K; have c0 := (K.blk (b := b0) (cs := #[.slice A n cap, .slice A' m cap']) (t := 58) List.mem_cons_self).cell (j := 0) rfl; have c1 := (K.blk (b := b0) (cs := #[.slice A n cap, .slice A' m cap']) (t := 58) List.mem_cons_self).cell (j := 1) rfl))
    go_ret
    exact ⟨rfl, K.1⟩
end Go.Proofs.Ytdlcglndhhndpaa
