/- Laws and walks; conditions stand in each theorem. -/
import Derived.Deep.QuietTactic
import Derived.BigQuiet
import Derived.Test.YtdlcglndhhndpaaGreatL18
import Derived.Test.YtdlcglndhhndpaaGreatL22
set_option linter.unusedSimpArgs false
set_option linter.unusedVariables false
set_option maxHeartbeats 2000000
set_option maxRecDepth 100000
namespace Go.Proofs.YtdlcglndhhndpaaGreat
open Go.RowKit
theorem ZL37 {p : Prop} (h : p := by
 first
  | (have e : n = k := by omega
     subst e
     by_cases hM : (n : Int) ≤ M
     · have hMd : decide ((n : Int) ≤ M) = true := decide_eq_true hM
       have HR := Lib.hid (HYes.out hM HA.out)
       clear HA HNo HYes HLong
       go_wp2
       go_ret
       exact ⟨by rw [HR.out]; first | done | rfl, HB.out⟩
     · have hMd : decide ((n : Int) ≤ M) = false := decide_eq_false hM
       have HR := Lib.hid (HLong.out (by omega))
       clear HA HNo HYes HLong
       go_wp2
       go_ret
       exact ⟨by rw [HR.out]; first | done | rfl, HB.out⟩)
  | fail) : p := h
theorem ZL43 {p : Prop} (h : p := by
 first
  | (have HR := Lib.hid (HLong.out (by omega))
     clear HA HNo HYes HLong
     go_wp2
     go_ret
     exact ⟨by rw [HR.out]; first | done | rfl, HB.out⟩)
  | fail) : p := h
theorem ZL97 {p : Prop} (h : p := by
 first
  | (rw [hlen, decide_eq_true h, Bool.true_and, List.all_eq_true]
     intro x hx
     obtain ⟨i, hi, rfl⟩ := List.mem_iff_getElem.1 hx
     exact h1 i _ (by omega) (List.getElem?_eq_getElem hi))
  | fail) : p := h
theorem wp_region_cls2 {P : Program} {C : World → Prop} {id : Nat} {Q : Exit → Act → World → Prop} {a : Act} {w : World} {l : List Oper} (hm : P.follows .mixedOrders = true) (hB : Region.lexB .any l.toArray = true) (hC : C w.drew)
 (h : wpQuiet P l.toArray C (fun a' => ∀ w', C w' → Q .normal a' w') l a) : (Code.region id l.toArray true).wp P Q a w :=
 wp_region_quiet (C := C) hm hB hC (by simpa using h)
theorem cls_st2 (KS : World → Prop) (w : World) (h : KS w) (hd : ∀ W, KS W → KS W.drew) : ∃ (ι : Type) (f : ι → World), Nonempty ι ∧ (∃ n, w.drew = f n) ∧ (∀ n, KS (f n)) ∧ ∀ w', KS w' → ∃ n, w' = f n :=
 ⟨{w' : World // KS w'}, Subtype.val, ⟨⟨w, h⟩⟩, ⟨⟨w.drew, hd w h⟩, rfl⟩, fun n => n.2, fun w' h => ⟨⟨w', h⟩, rfl⟩⟩
theorem fv_ext {x y : Fv} : (x.s = y.s ∧ x.l = y.l ∧ x.t = y.t ∧ x.m = y.m) ↔ x = y :=
 ⟨fun ⟨e1, e2, e3, e4⟩ => by cases x; cases y; simp_all, fun e => by subst e; exact ⟨rfl, rfl, rfl, rfl⟩⟩
instance fvDec : DecidableEq Fv := fun x y => decidable_of_iff _ fv_ext
theorem fv_same (x y : Fv) : sameF x.s x.l x.t x.m y.s y.l y.t y.m = decide (x = y) := by
 unfold sameF sameB
 rw [← Bool.decide_and]
 refine decide_eq_decide.2 ⟨fun ⟨⟨e1, e2⟩, e3, e4⟩ => ?_, fun e => ?_⟩
 · cases x; cases y; simp_all
 · subst e; exact ⟨⟨rfl, rfl⟩, rfl, rfl⟩
theorem same6_any (A A2 : Option Addr) (n cap n2 cap2 : Nat) (a b : List Fv) (w : World) (ha : RdF w w.heap.size A n cap a) (hb : RdF w w.heap.size A2 n2 cap2 b) :
 Calls Tryz.prog 17 #[.slice A n cap, .slice A2 n2 cap2] w fun e w' => e = .returned (.bool (decide (a = b))) ∧ Below w.heap.size w w' := by
 have K := St.start w
 have r := K.raw
 have hla := ha.len
 have hlb := hb.len
 have hca := ha.caps
 have hcb := hb.caps
 have HA := Lib.hid ha
 have HB := Lib.hid hb
 obtain ⟨R, hR⟩ : ∃ R, R = decide (a = b) := ⟨_, rfl⟩
 rw [← hR]
 clear ha hb
 by_cases hnn : (n : Int) = (n2 : Int)
 case neg =>
  have hd2 : ((n : Int) != (n2 : Int)) = true := by simp [hnn]
  have HR := Lib.hid (show R = false from by rw [hR]; exact decide_eq_false fun h => hnn (by rw [← hla, ← hlb, h]))
  clear hR hnn hla hlb
  go_enter Tryz.func17, Tryz.ntmps17
  go_wp2_with (first | (refine ZAL ?_; clear K r; intro W b K r) | (refine ZST ?_; clear K r; intro W K r))
  go_ret
  exact ⟨by rw [HR.out]; first | done | rfl, K.1⟩
 obtain rfl : n = n2 := by omega
 have hd2 : ((n : Int) != (n : Int)) = false := by simp
 have HEq := Lib.hid (show (∀ j : Nat, j < n → a[j]? = b[j]?) → R = true from fun h => by
  rw [hR]
  refine decide_eq_true (List.ext_getElem? fun j => ?_)
  by_cases hj : j < n
  · exact h j hj
  · rw [List.getElem?_eq_none (by omega), List.getElem?_eq_none (by omega)])
 have HNe := Lib.hid (show ∀ (j : Nat) x y, a[j]? = some x → b[j]? = some y → x ≠ y → R = false from fun j x y h1 h2 h3 => by
  rw [hR]
  refine decide_eq_false fun h => h3 ?_
  rw [h, h2] at h1
  exact (Option.some.inj h1).symm)
 clear hla hlb hR hnn
 go_enter Tryz.func17, Tryz.ntmps17
 go_wp2_with (first | (refine ZAL ?_; clear K r; intro W b K r) | (refine ZST ?_; clear K r; intro W K r))
 go_loopg [5] n (fun gk i wr => ∃ k : Nat, k ≤ n ∧ gk = n - k ∧ i = .int .i64 k ∧ Hid (∀ j : Nat, j < k → a[j]? = b[j]?) ∧ Below w.heap.size w wr)
 case atStart => exact ⟨0, Nat.zero_le _, rfl, rfl, Lib.hid (fun j hj => absurd hj (by omega)), K.1⟩
 case round =>
  clear K r
  obtain ⟨k, hk, rfl, rfl, Hall, hbel⟩ := hrel
  by_cases hlt : k < n
  · have K := (St.start w).keep hbel
    obtain ⟨eb1, off1, A1, n1, c1, B1, m1, d1, x, hA1, hbB1, hx1, ⟨z0, z1, z2, z3⟩, r1, q1⟩ := HA.out.atF hlt
    subst hA1
    have Ex1 := Lib.hid (fun W (h : Below w.heap.size w W) => (⟨(h.cell (p := ⟨eb1, off1 + k * 4, none⟩) hbB1).trans z0, (h.cell (p := ⟨eb1, off1 + k * 4 + 1, none⟩) hbB1).trans z1, (h.cell (p := ⟨eb1, off1 + k * 4 + 2, none⟩) hbB1).trans z2, (h.cell (p := ⟨eb1, off1 + k * 4 + 3, none⟩) hbB1).trans z3⟩ : W.cell? ⟨eb1, off1 + k * 4, none⟩ = some (.int .i64 (x).s) ∧ W.cell? ⟨eb1, off1 + k * 4 + 1, none⟩ = some (.slice A1 n1 c1) ∧ W.cell? ⟨eb1, off1 + k * 4 + 2, none⟩ = some (.int .i64 (x).t) ∧ W.cell? ⟨eb1, off1 + k * 4 + 3, none⟩ = some (.slice B1 m1 d1)))
    have hki : (k : Int) < (n : Int) := by omega
    have hk0 : (0 : Int) ≤ (k : Int) := by omega
    have hcap1 := r1.caps
    have hcbp1 := q1.caps
    replace K := (K.oldRd r1).oldRd q1
    have Hx1 := Lib.hid hx1
    clear hx1 z0 z1 z2 z3 r1 q1
    obtain ⟨eb2, off2, A2, n2, c2, B2, m2, d2, y, hA2, hbB2, hx2, ⟨z0, z1, z2, z3⟩, r2, q2⟩ := HB.out.atF hlt
    subst hA2
    have Ex2 := Lib.hid (fun W (h : Below w.heap.size w W) => (⟨(h.cell (p := ⟨eb2, off2 + k * 4, none⟩) hbB2).trans z0, (h.cell (p := ⟨eb2, off2 + k * 4 + 1, none⟩) hbB2).trans z1, (h.cell (p := ⟨eb2, off2 + k * 4 + 2, none⟩) hbB2).trans z2, (h.cell (p := ⟨eb2, off2 + k * 4 + 3, none⟩) hbB2).trans z3⟩ : W.cell? ⟨eb2, off2 + k * 4, none⟩ = some (.int .i64 (y).s) ∧ W.cell? ⟨eb2, off2 + k * 4 + 1, none⟩ = some (.slice A2 n2 c2) ∧ W.cell? ⟨eb2, off2 + k * 4 + 2, none⟩ = some (.int .i64 (y).t) ∧ W.cell? ⟨eb2, off2 + k * 4 + 3, none⟩ = some (.slice B2 m2 d2)))
    have hki : (k : Int) < (n : Int) := by omega
    have hk0 : (0 : Int) ≤ (k : Int) := by omega
    have hcap2 := r2.caps
    have hcbp2 := q2.caps
    replace K := (K.oldRd r2).oldRd q2
    have Hx2 := Lib.hid hx2
    clear hx2 z0 z1 z2 z3 r2 q2
    obtain ⟨ι, f, hne, hfw, hfk, hfc⟩ := cls_st2 (fun W => St w [] [⟨rdP B2 m2 d2 y.m, oldS w⟩, ⟨rdP A2 n2 c2 y.l, oldS w⟩, ⟨rdP B1 m1 d1 x.m, oldS w⟩, ⟨rdP A1 n1 c1 x.l, oldS w⟩] W) wr K (fun W h => h.drew)
    have QC := Lib.hid (fun q => (gsame_any x.s x.t y.s y.t A1 B1 A2 B2 n1 c1 m1 d1 n2 c2 m2 d2 x.l x.m y.l y.m (f q) ((hfk q).rd ZMB) ((hfk q).rd ZMB) ((hfk q).rd ZMB) ((hfk q).rd ZMB)).mono fun e w'' ⟨he, hb⟩ => (⟨by rw [← fv_same]; exact he, hfc _ ((hfk q).keep hb)⟩ : e = Ending.returned (.bool (decide (x = y))) ∧ ∃ s, w'' = f s))
    have e1 := fun q => (Ex1.out (f q) (hfk q).1).1
    have e2 := fun q => (Ex1.out (f q) (hfk q).1).2.1
    have e3 := fun q => (Ex1.out (f q) (hfk q).1).2.2.1
    have e4 := fun q => (Ex1.out (f q) (hfk q).1).2.2.2
    have g1 := fun q => (Ex2.out (f q) (hfk q).1).1
    have g2 := fun q => (Ex2.out (f q) (hfk q).1).2.1
    have g3 := fun q => (Ex2.out (f q) (hfk q).1).2.2.1
    have g4 := fun q => (Ex2.out (f q) (hfk q).1).2.2.2
    have Hfw := Lib.hid hfw
    have Hfk := Lib.hid (fun q => (hfk q).1)
    clear hfw hfk hfc K hbel
    by_cases hxy : x = y
    · rw [decide_eq_true hxy] at QC
      have Hn := Lib.hid (show ∀ j : Nat, j < k + 1 → a[j]? = b[j]? from fun j hj => by
       by_cases e : j = k
       · subst e; rw [Hx1.out, Hx2.out, hxy]
       · exact Hall.out j (by omega))
      clear hxy Hall
      go_upto_region 6 with fail
      refine wp_region_cls2 (C := fun w' => ∃ n, w' = f n) (by kernel_rfl) (by kernel_rfl) Hfw.out ?_
      repeat (first
       | go_big_quiet_skip
       | (go_big_quiet_want; go_big_quiet_op; first | go_big_quiet_on | go_big_quiet_call ((go_at_call 50; with_reducible exact QC.out _))))
      refine wpQuiet_nil ?_
      rintro _ ⟨nq, rfl⟩
      have hB := Hfk.out nq
      clear QC e1 e2 e3 e4 g1 g2 g3 g4
      go_wp2
      go_roundg (n - (k + 1))
      case rel => exact ⟨k + 1, by omega, rfl, by go_num, Hn, hB⟩
      case measure => omega
    · rw [decide_eq_false hxy] at QC
      have Hf := Lib.hid (HNe.out k x y Hx1.out Hx2.out hxy)
      clear hxy Hall
      go_upto_region 6 with fail
      refine wp_region_cls2 (C := fun w' => ∃ n, w' = f n) (by kernel_rfl) (by kernel_rfl) Hfw.out ?_
      repeat (first
       | go_big_quiet_skip
       | (go_big_quiet_want; go_big_quiet_op; first | go_big_quiet_on | go_big_quiet_call ((go_at_call 50; with_reducible exact QC.out _))))
      refine wpQuiet_nil ?_
      rintro _ ⟨nq, rfl⟩
      have hB := Hfk.out nq
      clear QC e1 e2 e3 e4 g1 g2 g3 g4
      go_wp2
      go_ret
      exact ⟨by rw [Hf.out]; first | done | rfl, hB⟩
  · have ee : k = n := by omega
    subst ee
    have hd0 : decide (k < k) = false := by simp
    have Hf := Lib.hid (HEq.out Hall.out)
    clear hlt Hall
    go_wp2
    go_ret
    exact ⟨by rw [Hf.out]; first | done | rfl, hbel⟩
def fewV (d : Int) (x : Fv) : Bool := fewF x.l.length x.m.length d
def few6L (M d : Int) (l : List Fv) : Bool := decide ((l.length : Int) ≤ M) && l.all (fewV d)
theorem fewfracs_any (M d : Int) (A : Option Addr) (n cap : Nat) (l : List Fv) (w : World) (hl : RdF w w.heap.size A n cap l) :
 Calls Tryz.prog 8 #[.slice A n cap, .int .i64 M, .int .i64 d] w fun e w' => e = .returned (.bool (few6L M d l)) ∧ Below w.heap.size w w' := by
 have hcaps := hl.caps
 have hlen := hl.len
 have HL := Lib.hid hl
 obtain ⟨R, hR⟩ : ∃ R, R = few6L M d l := ⟨_, rfl⟩
 rw [← hR]
 have HNo := Lib.hid (show ∀ (i : Nat) x, l[i]? = some x → fewV d x = false → R = false from fun i x hx h => by
  rw [hR]
  unfold few6L
  rw [Bool.and_eq_false_iff]
  right
  rw [List.all_eq_false]
  exact ⟨x, List.mem_of_getElem? hx, by rw [h]; simp⟩)
 have HLong := Lib.hid (show M < (n : Int) → R = false from fun h => by
  rw [hR]
  unfold few6L
  rw [hlen, decide_eq_false (by omega), Bool.false_and])
 have HYes := Lib.hid (show (n : Int) ≤ M → (∀ (i : Nat) x, i < n → l[i]? = some x → fewV d x = true) → R = true from fun h h1 => by
  rw [hR]
  unfold few6L
  exact ZL97)
 clear hl hR hlen
 go_enter Tryz.func8, Tryz.ntmps8
 go_wp2
 go_loopg [7] n (fun gk s7 wr => ∃ k : Nat, k ≤ n ∧ gk = n - k ∧ s7 = .int .i64 k ∧ Hid (∀ (i : Nat) x, i < k → l[i]? = some x → fewV d x = true) ∧ Below w.heap.size w wr)
 case atStart => exact ⟨0, Nat.zero_le _, rfl, rfl, Lib.hid (fun j x h => absurd h (by omega)), Below.refl _ _⟩
 case round =>
  obtain ⟨k, hk, rfl, rfl, HA, hb⟩ := hrel
  have HB := Lib.hid hb
  by_cases hlt : k < n
  · have hltd : decide (k < n) = true := decide_eq_true hlt
    by_cases hM : (k : Int) ≤ M
    · have hMd : decide ((k : Int) ≤ M) = true := decide_eq_true hM
      obtain ⟨eb, off, A1, n1, c1, B1, m1, d1, x, hA, hbB, hx, ⟨z0, z1, z2, z3⟩, r1, r2⟩ := HL.out.atF hlt
      subst hA
      have e0 := (hb.cell (p := ⟨eb, off + k * 4, none⟩) hbB).trans z0
      have e1 := (hb.cell (p := ⟨eb, off + k * 4 + 1, none⟩) hbB).trans z1
      have e2 := (hb.cell (p := ⟨eb, off + k * 4 + 2, none⟩) hbB).trans z2
      have e3 := (hb.cell (p := ⟨eb, off + k * 4 + 3, none⟩) hbB).trans z3
      have hki : (k : Int) < (n : Int) := by omega
      have hk0 : (0 : Int) ≤ (k : Int) := by omega
      have hcp1 := r1.caps
      have hcp2 := r2.caps
      have HW := Lib.hid (fun W => gfew_any x.s x.t A1 B1 n1 c1 m1 d1 d W)
      have hv : fewF n1 m1 d = fewV d x := by unfold fewV; rw [r1.len, r2.len]
      rw [hv] at HW
      have Hx := Lib.hid hx
      clear z0 z1 z2 z3 r1 r2 hx hv
      cases hf : fewV d x
      · rw [hf] at HW
        have HR := Lib.hid (HNo.out k x Hx.out hf)
        clear hf HNo HYes HLong HA
        go_wp2_with (go_at_call 37; refine (HW.out _).mono ?_; rintro e w1 ⟨rfl, hb1⟩)
        go_ret
        exact ⟨by rw [HR.out]; first | done | rfl, HB.out.trans (hb1.mono HB.out.size)⟩
      · rw [hf] at HW
        have HA2 := Lib.hid (show ∀ (i : Nat) y, i < k + 1 → l[i]? = some y → fewV d y = true from fun i y hi hy => by
         by_cases e : i = k
         · subst e; rw [Hx.out] at hy; cases hy; exact hf
         · exact HA.out i y (by omega) hy)
        clear hf HA
        go_wp2_with (go_at_call 37; refine (HW.out _).mono ?_; rintro e w1 ⟨rfl, hb1⟩)
        go_roundg (n - (k + 1))
        case rel => exact ⟨k + 1, hlt, rfl, by go_num, HA2, HB.out.trans (hb1.mono HB.out.size)⟩
        case measure => omega
    · have hMd : decide ((k : Int) ≤ M) = false := decide_eq_false hM
      have hn2 : decide ((n : Int) ≤ M) = false := decide_eq_false (by omega)
      exact ZL43
  · exact ZL37
def fewRow (M d : Int) (x : Rv) : Bool := few6L M d x.a && fewV d x.b
def few6R (M d : Int) (l : List Rv) : Bool := decide ((l.length : Int) ≤ M) && l.all (fewRow M d)
theorem few6_any (M d : Int) (A : Option Addr) (n cap : Nat) (l : List Rv) (w : World) (hl : RdR w w.heap.size A n cap l) :
 Calls Tryz.prog 7 #[.slice A n cap, .int .i64 M, .int .i64 d] w fun e w' => e = .returned (.bool (few6R M d l)) ∧ Below w.heap.size w w' := by
 have hcaps := hl.caps
 have hlen := hl.len
 have HL := Lib.hid hl
 obtain ⟨R, hR⟩ : ∃ R, R = few6R M d l := ⟨_, rfl⟩
 rw [← hR]
 have HNo := Lib.hid (show ∀ (i : Nat) x, l[i]? = some x → fewRow M d x = false → R = false from fun i x hx h => by
  rw [hR]
  unfold few6R
  rw [Bool.and_eq_false_iff]
  right
  rw [List.all_eq_false]
  exact ⟨x, List.mem_of_getElem? hx, by rw [h]; simp⟩)
 have HLong := Lib.hid (show M < (n : Int) → R = false from fun h => by
  rw [hR]
  unfold few6R
  rw [hlen, decide_eq_false (by omega), Bool.false_and])
 have HYes := Lib.hid (show (n : Int) ≤ M → (∀ (i : Nat) x, i < n → l[i]? = some x → fewRow M d x = true) → R = true from fun h h1 => by
  rw [hR]
  unfold few6R
  exact ZL97)
 clear hl hR hlen
 go_enter Tryz.func7, Tryz.ntmps7
 go_wp2
 go_loopg [7] n (fun gk s7 wr => ∃ k : Nat, k ≤ n ∧ gk = n - k ∧ s7 = .int .i64 k ∧ Hid (∀ (i : Nat) x, i < k → l[i]? = some x → fewRow M d x = true) ∧ Below w.heap.size w wr)
 case atStart => exact ⟨0, Nat.zero_le _, rfl, rfl, Lib.hid (fun j x h => absurd h (by omega)), Below.refl _ _⟩
 case round =>
  obtain ⟨k, hk, rfl, rfl, HA, hb⟩ := hrel
  have HB := Lib.hid hb
  by_cases hlt : k < n
  · have hltd : decide (k < n) = true := decide_eq_true hlt
    by_cases hM : (k : Int) ≤ M
    · have hMd : decide ((k : Int) ≤ M) = true := decide_eq_true hM
      obtain ⟨eb, off, A0, n0, c0, A1, n1, c1, A2, n2, c2, x, hA, hbB, hx, ⟨z0, z1, z2, z3, z4⟩, r0, r1, r2⟩ := HL.out.atR hlt
      subst hA
      have e0 := (hb.cell (p := ⟨eb, off + k * 5, none⟩) hbB).trans z0
      have e1 := (hb.cell (p := ⟨eb, off + k * 5 + 1, none⟩) hbB).trans z1
      have e2 := (hb.cell (p := ⟨eb, off + k * 5 + 2, none⟩) hbB).trans z2
      have e3 := (hb.cell (p := ⟨eb, off + k * 5 + 3, none⟩) hbB).trans z3
      have e4 := (hb.cell (p := ⟨eb, off + k * 5 + 4, none⟩) hbB).trans z4
      have Hc := Lib.hid (fun W (h : Below wr.heap.size wr W) => (⟨keep_cell h e0, keep_cell h e1, keep_cell h e2, keep_cell h e3, keep_cell h e4⟩ : W.cell? ⟨eb, off + k * 5, none⟩ = some (.slice A0 n0 c0) ∧ W.cell? ⟨eb, off + k * 5 + 1, none⟩ = some (.int .i64 x.b.s) ∧ W.cell? ⟨eb, off + k * 5 + 2, none⟩ = some (.slice A1 n1 c1) ∧ W.cell? ⟨eb, off + k * 5 + 3, none⟩ = some (.int .i64 x.b.t) ∧ W.cell? ⟨eb, off + k * 5 + 4, none⟩ = some (.slice A2 n2 c2)))
      have hki : (k : Int) < (n : Int) := by omega
      have hk0 : (0 : Int) ≤ (k : Int) := by omega
      have hcp0 := r0.caps
      have hcp1 := r1.caps
      have hcp2 := r2.caps
      have HWa := Lib.hid (fewfracs_any M d A0 n0 c0 x.a wr (r0.up fE_lasts hb))
      have HW := Lib.hid (fun W => gfew_any x.b.s x.b.t A1 A2 n1 c1 n2 c2 d W)
      have hv : fewF n1 n2 d = fewV d x.b := by unfold fewV; rw [r1.len, r2.len]
      rw [hv] at HW
      clear z0 z1 z2 z3 z4 r0 r1 r2 hv
      have Hx := Lib.hid hx
      clear hx
      have HA2 := Lib.hid (show fewRow M d x = true → ∀ (i : Nat) y, i < k + 1 → l[i]? = some y → fewRow M d y = true from fun hf i y hi hy => by
       by_cases e : i = k
       · subst e; rw [Hx.out] at hy; cases hy; exact hf
       · exact HA.out i y (by omega) hy)
      have HR2 := Lib.hid (HNo.out k x Hx.out)
      clear HA HNo HYes HLong
      cases hf1 : few6L M d x.a
      · rw [hf1] at HWa
        have HR := Lib.hid (HR2.out (by unfold fewRow; rw [hf1]; rfl))
        clear hf1 HR2 HA2
        go_wp2_with (go_at_call 8; refine HWa.out.mono ?_; rintro e w1 ⟨rfl, hb1⟩)
        go_ret
        exact ⟨by rw [HR.out]; first | done | rfl, HB.out.trans (hb1.mono HB.out.size)⟩
      · rw [hf1] at HWa
        cases hf2 : fewV d x.b
        · rw [hf2] at HW
          have HR := Lib.hid (HR2.out (by unfold fewRow; rw [hf1, hf2]; rfl))
          clear hf1 hf2 HR2 HA2
          go_wp2_with (first | (go_at_call 8; refine HWa.out.mono ?_; rintro e w1 ⟨rfl, hb1⟩; obtain ⟨g0, g1, g2, g3, g4⟩ := Hc.out _ hb1) | (go_at_call 37; refine (HW.out _).mono ?_; rintro e w2 ⟨rfl, hb2⟩))
          go_ret
          exact ⟨by rw [HR.out]; first | done | rfl, (HB.out.trans (hb1.mono HB.out.size)).trans (hb2.mono (HB.out.trans (hb1.mono HB.out.size)).size)⟩
        · rw [hf2] at HW
          have HA3 := Lib.hid (HA2.out (by unfold fewRow; rw [hf1, hf2]; rfl))
          clear hf1 hf2 HR2 HA2
          go_wp2_with (first | (go_at_call 8; refine HWa.out.mono ?_; rintro e w1 ⟨rfl, hb1⟩; obtain ⟨g0, g1, g2, g3, g4⟩ := Hc.out _ hb1) | (go_at_call 37; refine (HW.out _).mono ?_; rintro e w2 ⟨rfl, hb2⟩))
          go_roundg (n - (k + 1))
          case rel => exact ⟨k + 1, hlt, rfl, by go_num, HA3, (HB.out.trans (hb1.mono HB.out.size)).trans (hb2.mono (HB.out.trans (hb1.mono HB.out.size)).size)⟩
          case measure => omega
    · have hMd : decide ((k : Int) ≤ M) = false := decide_eq_false hM
      have hn2 : decide ((n : Int) ≤ M) = false := decide_eq_false (by omega)
      exact ZL43
  · exact ZL37
theorem zero6_any (s t : Int) (A A' : Option Addr) (n cap n' cap' : Nat) (w : World) :
 Calls Tryz.prog 87 #[.agg #[.int .i64 s, .slice A n cap, .int .i64 t, .slice A' n' cap']] w fun e w' => e = .returned (.bool (s == 0)) ∧ Below w.heap.size w w' := by
 have K := St.start w
 have r := K.raw
 obtain ⟨R, hR⟩ : ∃ R, (s == 0) = R := ⟨_, rfl⟩
 rw [hR]
 go_enter Tryz.func87, Tryz.ntmps87
 go_wp2_with (first | (refine ZAL ?_; clear K r; intro W b K r) | (refine ZST ?_; clear K r; intro W K r))
 go_ret
 exact ⟨rfl, K.1⟩
theorem number6_any (p : Int) (w : World) (hp : -9223372036854775808 ≤ p ∧ p ≤ 9223372036854775807) :
 Calls Tryz.prog 36 #[.int .i64 p] w (FrV w (p : Rat)) := by
 have K := St.start w
 have r := K.raw
 have h := fun W => gOf_any p 1 W hp (by decide)
 rw [newO_yes (by decide), newE_yes (by decide), divInt_1] at h
 have HO := Lib.hid h
 clear h hp
 generalize ((p : Int) : Rat) = z at *
 go_enter Tryz.func36, Tryz.ntmps36
 go_wp2_with (first | (refine ZAL ?_; clear K r; intro W b K r) | (refine ZST ?_; clear K r; intro W K r))
 refine (HO.out _).mono ?_
 rintro e W' ⟨s7, A7, n7, c7, l7, t7, B7, m7, d7, k7, rfl, ⟨hra, hrb⟩, ho, ⟨hfa, hfb⟩, hb⟩
 have hf7 := Lib.hid (hfa.mono K.1.size)
 have hg7 := Lib.hid (hfb.mono K.1.size)
 replace K := K.retF hb hra hrb hfa hfb
 clear r
 have r := K.rawS
 clear hra hrb hfa hfb hb
 go_wp2_with (first | (refine ZAL ?_; clear K r; intro W b K r) | (refine ZST ?_; clear K r; intro W K r))
 have HE := Lib.hid (⟨s7, A7, n7, c7, l7, t7, B7, m7, d7, k7, rfl, ⟨ZRD, ZRD⟩, ho, ⟨hf7.out, hg7.out⟩, K.1⟩ : FrV w z (.returned (.agg #[.int .i64 s7, .slice A7 n7 c7, .int .i64 t7, .slice B7 m7 d7])) W)
 clear ho
 exact bodyPost_ret (v := .agg #[.int .i64 s7, .slice A7 n7 c7, .int .i64 t7, .slice B7 m7 d7]) (by simp [results, Tryz.results36, go_sem, r]) rfl HE.out
def RowV (w : World) (a : List Fv) (b : Fv) (e : Ending) (w' : World) : Prop :=
 ∃ A c s A1 n1 c1 t A2 n2 c2, e = .returned (.agg #[.slice A a.length c, .int .i64 s, .slice A1 n1 c1, .int .i64 t, .slice A2 n2 c2]) ∧ RdF w' w'.heap.size A a.length c a ∧ (RdI w' w'.heap.size A1 n1 c1 b.l ∧ RdI w' w'.heap.size A2 n2 c2 b.m) ∧ (s = b.s ∧ t = b.t) ∧ Below w.heap.size w w'
theorem RdI.cellAt {w : World} {B : Nat} {A : Option Addr} {n cap : Nat} {l : List Int} (h : RdI w B A n cap l) {k : Nat} (hk : k < n) : ∃ b off, A = some ⟨b, off, none⟩ ∧ b < B ∧ w.cell? ⟨b, off + k, none⟩ = some (.int .i64 (gi l k)) := by
 obtain ⟨b, off, x, hA, hb, hx, hc⟩ := h.atI hk
 have e : gi l k = x := by
  unfold gi
  rw [List.getD_eq_getElem?_getD, hx]
  rfl
 rw [e]
 exact ⟨b, off, hA, hb, hc⟩
theorem row6_any (A : Option Addr) (n cap : Nat) (l : List Int) (w : World) (hl : RdI w w.heap.size A (n + 1) cap l) (hn : n ≤ 100) (hb : ∀ x ∈ l, -9223372036854775808 ≤ x ∧ x ≤ 9223372036854775807) :
 Calls Tryz.prog 34 #[.slice A (n + 1) cap] w (RowV w (ofF n fun i => fvQ ((gi l i : Int) : Rat)) (fvQ ((gi l n : Int) : Rat))) := by
 obtain ⟨N, hN⟩ : ∃ N, N = n + 1 := ⟨_, rfl⟩
 rw [← hN] at hl ⊢
 have hcap := hl.caps
 have HL := Lib.hid hl
 have HNu := Lib.hid (fun (i : Nat) (hi : i < N) W => number6_any (gi l i) W (hb _ (by
  have := hl.len
  unfold gi
  rw [List.getD_eq_getElem?_getD, List.getElem?_eq_getElem (by omega)]
  exact List.getElem_mem _)))
 have HN := Lib.hid hN
 have hw : IntKind.i64.wrap ((N : Int) - 1) = (n : Int) := by
  rw [show (N : Int) - 1 = (n : Int) by omega]
  exact IntWalk.i64_in _ (by omega)
 have K := St.start w
 have r := K.raw
 clear hl hb hN
 go_enter Tryz.func34, Tryz.ntmps34
 go_wp2_with (first | (apply K.alloc; rfl; rfl; exact row_zero; clear K r; (first | ((fail_if_success revert b0); intro W b0 K) | ((fail_if_success revert b1); intro W b1 K) | intro W b K); have r := K.rawS) | (apply K.storeA; rfl; rfl; rfl; rfl; rfl; (exact ZUP); exact row_size; rfl; rfl; rfl; clear K r; intro W K; have r := K.rawS))
 go_loopg [4] n (fun gk s4 wr => ∃ (k : Nat) (u : Nat → Rw) (v : Value) (X : List Blk), k ≤ n ∧ gk = n - k ∧ s4 = .int .i64 k ∧ Hid (∀ j, j < k → (u j).fv = fvQ ((gi l j : Int) : Rat)) ∧ OwL 4 Rw.cs 50 v (ofF k u) X ∧ St w (X ++ [(b1, #[v, .int .i64 0, .slice none 0 0, .int .i64 0, .slice none 0 0], 56), (b0, #[.slice none 0 0, .int .i64 0, .slice none 0 0, .int .i64 0, .slice none 0 0], 56)]) [⟨rwP k u, rwS k u⟩] wr)
 case atStart => exact ⟨0, fun _ => Rw.zero, .slice none 0 0, [], Nat.zero_le _, rfl, rfl, Lib.hid (fun j h => absurd h (by omega)), OwL.nil, K.rwNew 0⟩
 case round =>
  clear K r
  obtain ⟨k, u, v, X, hk, rfl, rfl, HV, ho, K⟩ := hrel
  by_cases hlt : k < n
  · obtain ⟨eb, off, hA, hbB, hc⟩ := RdI.cellAt HL.out (show k < N by rw [HN.out]; omega)
    subst hA
    have hki : (k : Int) < (N : Int) := by rw [HN.out]; omega
    have hki2 : (k : Int) < (n : Int) := by omega
    have hk0 : (0 : Int) ≤ (k : Int) := by omega
    have HS := Lib.hid (fun V (hb : Below w.heap.size w V) (h1 : Hb V b1 #[v, .int .i64 0, .slice none 0 0, .int .i64 0, .slice none 0 0] 56) => (show V.cell? ⟨b1, 0, none⟩ = some v ∧ V.cell? ⟨eb, off + k, none⟩ = some (.int .i64 (gi l k)) from ⟨h1.cell rfl, (hb.cell (p := ⟨eb, off + k, none⟩) hbB).trans hc⟩))
    have HNk := Lib.hid (HNu.out k (by rw [HN.out]; omega))
    go_upto_region 5 with fail
    have K0 := K.drew
    have s0 := HS.out _ K0.1 (K0.blk ZMA)
    clear K
    refine wp_region_T 10 (fun V => V.cell? ⟨b1, 0, none⟩ = some v ∧ V.cell? ⟨eb, off + k, none⟩ = some (.int .i64 (gi l k))) (by kernel_rfl) s0 (fun hSh => ?_)
    clear s0
    refine wpAnyT.tk 0 rfl ?_
    refine wpAnyT.tk 1 rfl ?_
    refine wpAnyT.tk 2 rfl ?_
    refine wpAnyT.tk 3 rfl ?_
    refine wpAnyT.tk 4 rfl ?_
    refine wpAnyT.tk 5 rfl ?_
    refine wpAnyT.on 6 rfl fun KK hKK => ?_
    go_simp
    go_at_call 36
    refine (HNk.out _).mono ?_
    rintro e W5 ⟨s7, A7, n7, c7, l7, t7, B7, m7, d7, k7, rfl, ⟨hra, hrb⟩, ho7, ⟨hfa, hfb⟩, hb⟩
    have k5 := K0.retF hb hra hrb hfa hfb
    clear hra hrb hfa hfb hb
    go_wp2_with fail
    refine hKK.out _ _ (HS.out _ k5.1 (k5.blk ZMA)) (fun hSh => ?_)
    clear hKK KK
    refine ZPT ?_
    refine wpAnyT.on 7 rfl fun KK hKK => ?_
    refine k5.litOp _ _ rfl _ rfl _ _ (run_litF _ _ _ _ _ _ _ _ _) ?_
    intro g W6 k6
    refine hKK.out _ _ (HS.out _ k6.1 (k6.blk ZMA)) (fun hSh => ?_)
    clear hKK KK
    refine ZPT ?_
    replace k6 := k6.mid
    refine wpAnyT.on 8 rfl fun KK hKK => ?_
    refine k6.appOp ho rw_sized _ _ 23 rfl _ 64 Tryz.underlying23 frac_made rfl rfl (⟨s7, A7, n7, c7, l7, t7, B7, m7, d7, k7⟩ : Rw) g _ (by exact List.mem_cons_self) rfl (by rw [ofF_len]; omega) (by omega) ?_
    intro v8 X8 W8 ho8 k8
    replace k8 := k8.cutm
    refine hKK.out _ _ (HS.out _ k8.1 (k8.blk ZMA)) (fun hSh => ?_)
    clear hKK KK
    refine ZPT ?_
    refine wpAnyT.on 9 rfl fun KK hKK => ?_
    go_simp
    refine hKK.out _ _ (by assumption) (fun hSh => ?_)
    clear hKK KK
    refine ZPT ?_
    refine wpAnyT.last rfl (by kernel_rfl) ?_
    obtain ⟨AH, nH, cH, hhv⟩ := ho8.shape
    subst hhv
    refine k8.storeS (b := b1) (off := 0) (cs := #[v, .int .i64 0, .slice none 0 0, .int .i64 0, .slice none 0 0]) (cs' := #[.slice AH nH cH, .int .i64 0, .slice none 0 0, .int .i64 0, .slice none 0 0]) (t := 56) rfl rfl _ _ _ rfl AH nH cH rfl rfl ZUA rfl slf_size (by simp) ?_
    intro W K
    rw [ofF_put] at ho8
    have HV2 := Lib.hid (show ∀ j, j < k + 1 → (putF u k (⟨s7, A7, n7, c7, l7, t7, B7, m7, d7, k7⟩ : Rw) j).fv = fvQ ((gi l j : Int) : Rat) from fun j hj => by
     by_cases e : j = k
     · subst e; rw [putF_same]; exact ho7.fv
     · rw [putF_other e]; exact HV.out j (by omega))
    have HK := Lib.hid ((K.rwAdd ⟨s7, A7, n7, c7, l7, t7, B7, m7, d7, k7⟩ ZMB ZMB ZMB).less (D' := [⟨rwP (k + 1) (putF u k ⟨s7, A7, n7, c7, l7, t7, B7, m7, d7, k7⟩), rwS (k + 1) (putF u k ⟨s7, A7, n7, c7, l7, t7, B7, m7, d7, k7⟩)⟩]) (fun z hz => by rw [List.mem_singleton.1 hz]; exact List.mem_cons_self))
    have Ho8 := Lib.hid ho8
    clear k8 k6 k5 K0 K ho8 ho7 HV ho hSh
    go_wp2_with fail
    go_roundg (n - (k + 1))
    case rel => exact ⟨k + 1, _, _, X8, hlt, rfl, by go_num, HV2, Ho8.out, HK.out⟩
    case measure => omega
  · have e : n = k := by omega
    subst e
    obtain ⟨eb, off, hA, hbB, hc⟩ := RdI.cellAt HL.out (show n < N by rw [HN.out]; omega)
    subst hA
    have hki : (n : Int) < (N : Int) := by rw [HN.out]; omega
    have hk0 : (0 : Int) ≤ (n : Int) := by omega
    have hcw := (K.1.cell (p := ⟨eb, off + n, none⟩) hbB).trans hc
    have HNk := Lib.hid (HNu.out n (by rw [HN.out]; omega))
    obtain ⟨Ao, co, hv, hro⟩ := ho.rdF K ZMB (by omega)
    subst hv
    have Hho := Lib.hid ho
    clear ho hro hlt
    go_wp2_with (first
     | (go_at_call 36; refine (HNk.out _).mono ?_; rintro e W5 ⟨s7, A7, n7, c7, l7, t7, B7, m7, d7, k7, rfl, ⟨hra, hrb⟩, ho7, ⟨hfa, hfb⟩, hb⟩; have hbb := Lib.hid hb; have k5 := K.retF hb hra hrb hfa hfb; clear hra hrb hfa hfb hb)
     | (refine k5.storeP (b := b1) (off := 1) (cs := #[.slice Ao n co, .int .i64 0, .slice none 0 0, .int .i64 0, .slice none 0 0]) (cs' := #[.slice Ao n co, .int .i64 s7, .slice A7 n7 c7, .int .i64 t7, .slice B7 m7 d7]) (t := 56) rfl rfl _ _ _ rfl #[.int .i64 s7, .slice A7 n7 c7, .int .i64 t7, .slice B7 m7 d7] rfl rfl ZUA rfl frac_size rfl (by simp) rfl ?_; intro W6 k6; have hB := k6.blk (b := b1) (cs := #[.slice Ao n co, .int .i64 s7, .slice A7 n7 c7, .int .i64 t7, .slice B7 m7 d7]) (t := 56) ZMA; have g0 := hB.cell (j := 0) rfl; have g1 := hB.cell (j := 1) rfl; have g2 := hB.cell (j := 2) rfl; have g3 := hB.cell (j := 3) rfl; have g4 := hB.cell (j := 4) rfl; clear hB)
     | (refine k6.storeA (b := b0) (cs := #[.slice none 0 0, .int .i64 0, .slice none 0 0, .int .i64 0, .slice none 0 0]) (cs' := #[.slice Ao n co, .int .i64 s7, .slice A7 n7 c7, .int .i64 t7, .slice B7 m7 d7]) (t := 56) rfl rfl _ _ _ rfl rfl rfl ZUA row_size rfl rfl rfl ?_; intro W7 k7; have hB := k7.blk (b := b0) (cs := #[.slice Ao n co, .int .i64 s7, .slice A7 n7 c7, .int .i64 t7, .slice B7 m7 d7]) (t := 56) ZMA; have p0 := hB.cell (j := 0) rfl; have p1 := hB.cell (j := 1) rfl; have p2 := hB.cell (j := 2) rfl; have p3 := hB.cell (j := 3) rfl; have p4 := hB.cell (j := 4) rfl; clear hB))
    have HX := Lib.hid (show RowV w (ofF n fun i => fvQ ((gi l i : Int) : Rat)) (fvQ ((gi l n : Int) : Rat)) (.returned (.agg #[.slice Ao n co, .int .i64 s7, .slice A7 n7 c7, .int .i64 t7, .slice B7 m7 d7])) W7 from by
     obtain ⟨Ap, cp, hv, hro⟩ := Hho.out.rdF k7 ZMB (by omega)
     injection hv with h1 h2 h3
     subst h1 h3
     rw [ofF_congr HV.out] at hro
     have hfv := ho7.fv
     refine ⟨Ao, co, s7, A7, n7, c7, t7, B7, m7, d7, by simp only [ofF_len], by simp only [ofF_len]; exact hro, ?_, ?_, k7.1⟩
     · rw [← hfv]
       exact ⟨k7.rd ZMB, k7.rd ZMB⟩
     · rw [← hfv]
       exact ⟨rfl, rfl⟩)
    exact bodyPost_ret (v := .agg #[.slice Ao n co, .int .i64 s7, .slice A7 n7 c7, .int .i64 t7, .slice B7 m7 d7]) (by simp [results, Tryz.results34, go_sem, p0, p1, p2, p3, p4]) rfl HX.out
end Go.Proofs.YtdlcglndhhndpaaGreat
