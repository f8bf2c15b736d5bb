/- Laws and walks; conditions stand in each theorem. -/
import Derived.Test.YtdlcglndhhndpaaGreatL18
set_option linter.unusedSimpArgs false
set_option linter.unusedVariables false
set_option maxHeartbeats 4000000
set_option maxRecDepth 100000
namespace Go.Proofs.YtdlcglndhhndpaaGreat
open Go.RowKit
theorem ZL20 {p : Prop} (h : p := by first | ((go_wp2_with (first | (first | (refine ZAL ?_; clear K r; (first | ((fail_if_success revert b0); intro W b0 K r) | ((fail_if_success revert b1); intro W b1 K r) | intro W b K r)) | (refine ZST ?_; clear K r; intro W K r)) | (first | (apply K.alloc; rfl; rfl; exact row_zero; clear K r; (first | ((fail_if_success revert b0); intro W b0 K) | ((fail_if_success revert b1); intro W b1 K) | intro W b K); have r := K.rawS) | (apply K.storeA; rfl; rfl; rfl; rfl; rfl; (exact ZUP); exact row_size; rfl; rfl; rfl; clear K r; intro W K; have r := K.rawS))); go_ret; exact ⟨by rw [HNo.out]; first | done | rfl, K.1⟩)) | fail) : p := h
theorem ZL110 {p : Prop} (h : p := by
 first
  | (go_enter Tryz.func18, Tryz.ntmps18
     go_wp2_with (go_at_call 15; refine HR.out.mono ?_; rintro e W ⟨rfl, hb⟩)
     go_ret
     exact ⟨rfl, hb⟩)
  | fail) : p := h
set_option maxRecDepth 100000
def vcL (x : List Fv) : Nat → Rat := fun k => ((x[k]?).map Fv.rat).getD 0
theorem vcL_at {x : List Fv} {k : Nat} {y : Fv} (h : x[k]? = some y) : vcL x k = y.rat := by
 unfold vcL
 rw [h]
 rfl
def checkL (N : Int) (l : List Rv) (x : List Fv) : Bool := rightL N l && (decide ((x.length : Int) = N) && x.all Fv.ok && chkM l.length (mxR l) (vcL x))
def addO1 (x : Rat) : Option Rat → Option Rat
 | none => none
 | some y => if addK x y = true then some (x + y) else none
def addE1 (x : Rat) : Option Rat → Int
 | none => 1
 | some y => if addK x y = true then 0 else 6
theorem qAdd (x : Rat) (s1 t1 s2 t2 : Int) (A1 B1 A2 B2 : Option Addr) (n1 c1 m1 d1 n2 c2 m2 d2 : Nat) (l1 k1 l2 k2 : List Int) (w : World) (r1 : RdI w w.heap.size A1 n1 c1 l1) (q1 : RdI w w.heap.size B1 m1 d1 k1) (r2 : RdI w w.heap.size A2 n2 c2 l2) (q2 : RdI w w.heap.size B2 m2 d2 k2)
 (h1 : StdF s1 l1 t1 k1 x) (f1 : fitsF x = true) (o : Option Rat) (h2 : OptF s2 l2 t2 k2 o) (f2 : ∀ z, o = some z → fitsF z = true) : Calls Tryz.prog 53 #[.agg #[.int .i64 s1, .slice A1 n1 c1, .int .i64 t1, .slice B1 m1 d1], .agg #[.int .i64 s2, .slice A2 n2 c2, .int .i64 t2, .slice B2 m2 d2]] w (FrE w (addO1 x o) (addE1 x o)) := by
 have h := fAdd_any s1 t1 s2 t2 A1 B1 A2 B2 n1 c1 m1 d1 n2 c2 m2 d2 l1 k1 l2 k2 w r1 q1 r2 q2
 cases o with
 | none =>
  rw [h1.right f1, h2.zero, Bool.and_false, binO_no, binE_no] at h
  exact h
 | some z =>
  have h2 : StdF s2 l2 t2 k2 z := h2
  rw [h1.right f1, h2.right (f2 z rfl), h1.rat, h2.rat] at h
  have e1 : binO (true && true) (addK x z) (x + z) = addO1 x (some z) := by
   unfold addO1 binO
   simp
  have e2 : binE (true && true) (addK x z) = addE1 x (some z) := by
   unfold addE1 binE
   simp
  rw [e1, e2] at h
  exact h
theorem qCmp (x y : Rat) (s1 t1 s2 t2 : Int) (A1 B1 A2 B2 : Option Addr) (n1 c1 m1 d1 n2 c2 m2 d2 : Nat) (l1 k1 l2 k2 : List Int) (w : World) (r1 : RdI w w.heap.size A1 n1 c1 l1) (q1 : RdI w w.heap.size B1 m1 d1 k1) (r2 : RdI w w.heap.size A2 n2 c2 l2) (q2 : RdI w w.heap.size B2 m2 d2 k2)
 (h1 : StdF s1 l1 t1 k1 x) (f1 : fitsF x = true) (h2 : StdF s2 l2 t2 k2 y) (f2 : fitsF y = true) : Calls Tryz.prog 54 #[.agg #[.int .i64 s1, .slice A1 n1 c1, .int .i64 t1, .slice B1 m1 d1], .agg #[.int .i64 s2, .slice A2 n2 c2, .int .i64 t2, .slice B2 m2 d2]] w fun e w' => e = .returned (.int .i64 (cmpQ x y)) ∧ Below w.heap.size w w' := by
 have h := fCompare_any s1 t1 s2 t2 A1 B1 A2 B2 n1 c1 m1 d1 n2 c2 m2 d2 l1 k1 l2 k2 w r1 q1 r2 q2
 rw [h1.right f1, h2.right f2, h1.rat, h2.rat] at h
 exact h
theorem dotK_step (a x : Nat → Rat) (k : Nat) (s : Rat) (h : dotK a x k = some s) : dotK a x (k + 1) = if (mulK (a k) (x k) && addK s (a k * x k)) = true then some (s + a k * x k) else none := by
 rw [dotK, h, Option.bind_some]
theorem dotK_none {a x : Nat → Rat} {k : Nat} (h : dotK a x k = none) : ∀ {n : Nat}, k ≤ n → dotK a x n = none := fun {n} => by
 induction n with
 | zero =>
  intro hk
  rw [Nat.le_zero.1 hk] at h
  rw [dotK] at h
  cases h
 | succ n ih =>
  intro hk
  by_cases e : k = n + 1
  · rw [← e]; exact h
  · rw [dotK, ih (by omega)]
    rfl
theorem chk_no {n i : Nat} {m : Mx} {x : Nat → Rat} (hi : i < n) (h : dotK (m i) x n ≠ some (m i n)) : chkM n m x = false := by
 unfold chkM
 rw [List.all_eq_false]
 exact ⟨i, List.mem_range.2 hi, by simp [h]⟩
theorem chk_all {n : Nat} {m : Mx} {x : Nat → Rat} (h : ∀ i, i < n → dotK (m i) x n = some (m i n)) : chkM n m x = true := by
 unfold chkM
 rw [List.all_eq_true]
 intro i hi
 exact decide_eq_true (h i (List.mem_range.1 hi))
theorem fOf0_any (w : World) : Calls Tryz.prog 40 #[.int .i64 0, .int .i64 1] w (FrE w (some 0) 0) := by
 have h := fOf_any 0 1 w (by decide) (by decide)
 rw [newO_yes (by decide), newE_yes (by decide), divInt_1, Rat.intCast_zero] at h
 exact h
theorem OptF.std {s : Int} {l : List Int} {t : Int} {m : List Int} {q : Rat} (h : OptF s l t m (some q)) : StdF s l t m q := h
theorem lcheck_any (N : Int) (A : Option Addr) (n cap : Nat) (l : List Rv) (Ax : Option Addr) (nx cx : Nat) (x : List Fv) (w : World) (hl : RdR w w.heap.size A n cap l) (hx : RdF w w.heap.size Ax nx cx x) :
 Calls Tryz.prog 18 #[.slice A n cap, .int .i64 N, .slice Ax nx cx] w fun e w' => e = .returned (.bool (checkL N l x)) ∧ Below w.heap.size w w' := by
 have hlen := hl.len
 have hcap := hl.caps
 have hlx := hx.len
 have hcx := hx.caps
 have HR := Lib.hid (lright_any N A n cap l w hl)
 cases hr : rightL N l
 · rw [hr] at HR
   have hRe : checkL N l x = false := by unfold checkL; rw [hr]; rfl
   rw [hRe]
   clear hl hx hlen hlx hr hRe
   exact ZL110
 obtain ⟨hN, hn40⟩ := rightL_len hr
 rw [hlen] at hN hn40
 subst hN
 rw [hr] at HR
 by_cases hnn : n = nx
 case neg =>
  have hd : ((nx : Int) != (n : Int)) = true := by simp; omega
  have hRe : checkL (n : Int) l x = false := by unfold checkL; rw [decide_eq_false (show ¬ (x.length : Int) = (n : Int) by omega)]; simp
  rw [hRe]
  clear hl hx hlen hlx hr hRe hnn
  exact ZL110
 subst hnn
 have hd : ((n : Int) != (n : Int)) = false := by simp
 have HC := Lib.hid (fun W (h : Below w.heap.size w W) => conFC_any Ax n cx x W (hx.up fE_lasts h))
 cases hok : x.all Fv.ok
 · rw [hok] at HC
   have hRe : checkL (n : Int) l x = false := by unfold checkL; rw [hok]; simp
   rw [hRe]
   clear hl hx hlen hlx hr hRe hok
   go_enter Tryz.func18, Tryz.ntmps18
   go_wp2_with (first
    | (go_at_call 15; refine HR.out.mono ?_; rintro e W ⟨rfl, hb⟩)
    | (go_at_call 48; refine (HC.out _ hb).mono ?_; rintro e W2 ⟨rfl, hb2⟩; have hb3 := hb.trans (hb2.mono hb.size)))
   go_ret
   exact ⟨rfl, hb3⟩
 rw [hok] at HC
 obtain ⟨m, hm⟩ : ∃ m, m = mxR l := ⟨_, rfl⟩
 obtain ⟨X, hX⟩ : ∃ X, X = vcL x := ⟨_, rfl⟩
 obtain ⟨R, hR⟩ : ∃ R, R = chkM n m X := ⟨_, rfl⟩
 have hRe : checkL (n : Int) l x = R := by unfold checkL; rw [hr, hok, decide_eq_true (show (x.length : Int) = (n : Int) by omega), hlen, hR, hm, hX]; simp
 rw [hRe]
 have HRow := Lib.hid (show ∀ (k : Nat) z, l[k]? = some z → z.a.length = n ∧ z.b.ok = true ∧ (∀ y ∈ z.a, y.ok = true) ∧ (∀ (j : Nat) y, z.a[j]? = some y → m k j = y.rat) ∧ m k n = z.b.rat from fun k z hz => by
  unfold rightL at hr
  rw [Bool.and_eq_true, List.all_eq_true] at hr
  have h1 := hr.2 z (List.mem_of_getElem? hz)
  unfold rowF at h1
  rw [Bool.and_eq_true, Bool.and_eq_true, decide_eq_true_eq, List.all_eq_true] at h1
  have hln : z.a.length = n := by omega
  refine ⟨hln, h1.1.2, h1.2, fun j y hy => ?_, ?_⟩
  · rw [hm]
    refine mxR_at hz ?_
    unfold rowL
    rw [List.getElem?_append_left (List.getElem?_eq_some_iff.1 hy).1]
    exact hy
  · rw [hm]
    refine mxR_at hz ?_
    unfold rowL
    rw [List.getElem?_append_right (by omega), hln, Nat.sub_self]
    rfl)
 have HX := Lib.hid (show ∀ (k : Nat) y, x[k]? = some y → y.ok = true ∧ X k = y.rat from fun k y hy => ⟨List.all_eq_true.1 hok y (List.mem_of_getElem? hy), by rw [hX]; exact vcL_at hy⟩)
 have HNoR := Lib.hid (show ∀ k, k < n → dotK (m k) X n ≠ some (m k n) → R = false from fun k hk h => by rw [hR]; exact chk_no hk h)
 have HYesR := Lib.hid (show (∀ k, k < n → dotK (m k) X n = some (m k n)) → R = true from fun h => by rw [hR]; exact chk_all h)
 have HL := Lib.hid hl
 have HLx := Lib.hid hx
 clear hl hx hlen hlx hr hok hRe hR hX hm
 go_enter Tryz.func18, Tryz.ntmps18
 go_wp2_with (first
  | (go_at_call 15; refine HR.out.mono ?_; rintro e W ⟨rfl, hb⟩)
  | (go_at_call 48; refine (HC.out _ hb).mono ?_; rintro e W2 ⟨rfl, hb2⟩; have hb3 := hb.trans (hb2.mono hb.size)))
 clear HR HC hb hb2
 go_loopg [33] n (fun gk s33 wr => ∃ k : Nat, k ≤ n ∧ gk = n - k ∧ s33 = .int .i64 k ∧ Hid (∀ i, i < k → dotK (m i) X n = some (m i n)) ∧ Below w.heap.size w wr)
 case atStart => exact ⟨0, Nat.zero_le _, rfl, rfl, Lib.hid (fun i h => absurd h (by omega)), hb3⟩
 clear hb3
 obtain ⟨k, hk, rfl, rfl, HA, hb⟩ := hrel
 by_cases hlt : k < n
 case neg =>
  have e : k = n := by omega
  subst e
  have HNo := Lib.hid (HYesR.out HA.out)
  clear HA
  go_wp2
  go_ret
  exact ⟨by rw [HNo.out]; first | done | rfl, hb⟩
 obtain ⟨eb, off, A0, n0, c0, A1, n1, c1, A3, n3, c3, z, hA, hbB, hz, ⟨z0, z1, z2, z3, z4⟩, r0, r1, r3⟩ := HL.out.atR hlt
 subst hA
 have K := (St.start w).keep hb
 have y0 := (K.1.cell (p := ⟨eb, off + k * 5, none⟩) hbB).trans z0
 have y1 := (K.1.cell (p := ⟨eb, off + k * 5 + 1, none⟩) hbB).trans z1
 have y2 := (K.1.cell (p := ⟨eb, off + k * 5 + 2, none⟩) hbB).trans z2
 have y3 := (K.1.cell (p := ⟨eb, off + k * 5 + 3, none⟩) hbB).trans z3
 have y4 := (K.1.cell (p := ⟨eb, off + k * 5 + 4, none⟩) hbB).trans z4
 have hki : (k : Int) < (n : Int) := by omega
 have hk0 : (0 : Int) ≤ (k : Int) := by omega
 have hcap0 := r0.caps
 have hcap1 := r1.caps
 have hcap3 := r3.caps
 obtain ⟨ha1, ha2, ha3, ha4, ha5⟩ := HRow.out k z hz
 have hn0 : n = n0 := by rw [← r0.len]; exact ha1.symm
 subst hn0
 replace K := (K.oldRd r1).oldRd r3
 have HLa := Lib.hid r0
 have HOk := Lib.hid ha3
 have HVa := Lib.hid ha4
 have Hb := Lib.hid (show StdF z.b.s z.b.l z.b.t z.b.m (m k n) ∧ fitsF (m k n) = true from ha5 ▸ fv_std ha2)
 clear z0 z1 z2 z3 z4 r0 r1 r3 hz ha1 ha2 ha3 ha4 ha5 hb
 have r := K.raw
 go_wp2_with (first | (first | (refine ZAL ?_; clear K r; (first | ((fail_if_success revert b0); intro W b0 K r) | ((fail_if_success revert b1); intro W b1 K r) | intro W b K r)) | (refine ZST ?_; clear K r; intro W K r)) | (first | (apply K.alloc; rfl; rfl; exact row_zero; clear K r; (first | ((fail_if_success revert b0); intro W b0 K) | ((fail_if_success revert b1); intro W b1 K) | intro W b K); have r := K.rawS) | (apply K.storeA; rfl; rfl; rfl; rfl; rfl; (exact ZUP); exact row_size; rfl; rfl; rfl; clear K r; intro W K; have r := K.rawS)))
 refine (fOf0_any _).mono ?_
 rintro e W' ⟨s4, A4, n4, c4, l4, t4, B4, m4, d4, k4, rfl, ⟨hra, hrb⟩, ho4, ⟨hfa, hfb⟩, hb⟩
 have hf4 := Lib.hid (hfa.mono K.1.size)
 have hg4 := Lib.hid (hfb.mono K.1.size)
 replace K := K.retF hb hra hrb hfa hfb
 clear r
 have r := K.rawS
 clear hra hrb hfa hfb hb
 have Hs4 := Lib.hid ho4.std
 clear ho4 hf4 hg4
 go_wp2_with (first | (first | (refine ZAL ?_; clear K r; (first | ((fail_if_success revert b0); intro W b0 K r) | ((fail_if_success revert b1); intro W b1 K r) | intro W b K r)) | (refine ZST ?_; clear K r; intro W K r)) | (first | (apply K.alloc; rfl; rfl; exact row_zero; clear K r; (first | ((fail_if_success revert b0); intro W b0 K) | ((fail_if_success revert b1); intro W b1 K) | intro W b K); have r := K.rawS) | (apply K.storeA; rfl; rfl; rfl; rfl; rfl; (exact ZUP); exact row_size; rfl; rfl; rfl; clear K r; intro W K; have r := K.rawS)))
 have HA1 := Lib.hid K.1
 go_loopg [44] n (fun gk s44 wr => ∃ (j : Nat) (q : Rat) (s4 t4 : Int) (A4 B4 : Option Addr) (n4 c4 m4 d4 : Nat) (l4 k4 : List Int), j ≤ n ∧ gk = n - j ∧ s44 = .int .i64 j ∧ Hid (dotK (m k) X j = some q ∧ fitsF q = true ∧ StdF s4 l4 t4 k4 q) ∧ St w [(b1, #[.int .i64 s4, .slice A4 n4 c4, .int .i64 t4, .slice B4 m4 d4], 50), (b0, #[.slice A0 n c0, .int .i64 z.b.s, .slice A1 n1 c1, .int .i64 z.b.t, .slice A3 n3 c3], 56)] [⟨rdP B4 m4 d4 k4, rdS B4 m4⟩, ⟨rdP A4 n4 c4 l4, rdS A4 n4⟩, ⟨rdP A3 n3 c3 z.b.m, oldS w⟩, ⟨rdP A1 n1 c1 z.b.l, oldS w⟩] wr)
 case atStart => exact ⟨0, 0, s4, t4, A4, B4, n4, c4, m4, d4, l4, k4, Nat.zero_le _, rfl, rfl, Lib.hid ⟨rfl, fitsF_zero, Hs4.out⟩, K⟩
 clear K r Hs4 HA1
 obtain ⟨j, q, s4, t4, A4, B4, n4, c4, m4, d4, l4, k4, hj, rfl, rfl, HQ, K⟩ := hrel
 have r := K.rawS
 obtain ⟨hsum, fq, hs4⟩ := HQ.out
 by_cases hlt : j < n
 case neg =>
  have e : j = n := by omega
  subst e
  have HCm := Lib.hid (fun W g1 g2 g3 g4 => qCmp q (m k j) s4 t4 z.b.s z.b.t A4 B4 A1 A3 n4 c4 m4 d4 n1 c1 n3 c3 l4 k4 z.b.l z.b.m W g1 g2 g3 g4 hs4 fq Hb.out.1 Hb.out.2)
  by_cases hqe : q = m k j
  · have e0 : cmpQ q (m k j) = 0 := cmpQ_zero.2 hqe
    rw [e0] at HCm
    have HA2 := Lib.hid (show ∀ i, i < k + 1 → dotK (m i) X j = some (m i j) from fun i hi => by
     by_cases e : i = k
     · rw [e, hsum, hqe]
     · exact HA.out i (by omega))
    clear hsum fq hs4 hqe e0
    go_wp2_with (first | (first | (refine ZAL ?_; clear K r; (first | ((fail_if_success revert b0); intro W b0 K r) | ((fail_if_success revert b1); intro W b1 K r) | intro W b K r)) | (refine ZST ?_; clear K r; intro W K r)) | (first | (apply K.alloc; rfl; rfl; exact row_zero; clear K r; (first | ((fail_if_success revert b0); intro W b0 K) | ((fail_if_success revert b1); intro W b1 K) | intro W b K); have r := K.rawS) | (apply K.storeA; rfl; rfl; rfl; rfl; rfl; (exact ZUP); exact row_size; rfl; rfl; rfl; clear K r; intro W K; have r := K.rawS)))
    refine (HCm.out _ ZRD ZRD ZRD ZRD).mono ?_
    rintro e W' ⟨rfl, hb⟩
    replace K := K.keep hb
    clear r
    have r := K.rawS
    clear hb
    go_wp2_with (first | (first | (refine ZAL ?_; clear K r; (first | ((fail_if_success revert b0); intro W b0 K r) | ((fail_if_success revert b1); intro W b1 K r) | intro W b K r)) | (refine ZST ?_; clear K r; intro W K r)) | (first | (apply K.alloc; rfl; rfl; exact row_zero; clear K r; (first | ((fail_if_success revert b0); intro W b0 K) | ((fail_if_success revert b1); intro W b1 K) | intro W b K); have r := K.rawS) | (apply K.storeA; rfl; rfl; rfl; rfl; rfl; (exact ZUP); exact row_size; rfl; rfl; rfl; clear K r; intro W K; have r := K.rawS)))
    go_roundg (j - (k + 1))
    case rel => exact ⟨k + 1, by omega, rfl, by go_num, HA2, K.1⟩
    case measure => omega
  · obtain ⟨C, hC⟩ : ∃ C, C = cmpQ q (m k j) := ⟨_, rfl⟩
    rw [← hC] at HCm
    have hd2 : (C != 0) = true := by
     rw [bne_iff_ne, hC]
     exact fun h => hqe (cmpQ_zero.1 h)
    have HNo := Lib.hid (HNoR.out k (by omega) (by rw [hsum]; exact fun h => hqe (Option.some.inj h)))
    clear hsum fq hs4 hqe hC
    go_wp2_with (first | (first | (refine ZAL ?_; clear K r; (first | ((fail_if_success revert b0); intro W b0 K r) | ((fail_if_success revert b1); intro W b1 K r) | intro W b K r)) | (refine ZST ?_; clear K r; intro W K r)) | (first | (apply K.alloc; rfl; rfl; exact row_zero; clear K r; (first | ((fail_if_success revert b0); intro W b0 K) | ((fail_if_success revert b1); intro W b1 K) | intro W b K); have r := K.rawS) | (apply K.storeA; rfl; rfl; rfl; rfl; rfl; (exact ZUP); exact row_size; rfl; rfl; rfl; clear K r; intro W K; have r := K.rawS)))
    refine (HCm.out _ ZRD ZRD ZRD ZRD).mono ?_
    rintro e W' ⟨rfl, hb⟩
    replace K := K.keep hb
    clear r
    have r := K.rawS
    clear hb
    exact ZL20
 obtain ⟨eb5, off5, A5, n5, c5, B5, m5, d5, a, hA5, hbB5, hx5, ⟨z0, z1, z2, z3⟩, r5, q5⟩ := HLa.out.atF hlt
 subst hA5
 have Ex5 := Lib.hid (fun W (h : Below w.heap.size w W) => (⟨(h.cell (p := ⟨eb5, off5 + j * 4, none⟩) hbB5).trans z0, (h.cell (p := ⟨eb5, off5 + j * 4 + 1, none⟩) hbB5).trans z1, (h.cell (p := ⟨eb5, off5 + j * 4 + 2, none⟩) hbB5).trans z2, (h.cell (p := ⟨eb5, off5 + j * 4 + 3, none⟩) hbB5).trans z3⟩ : W.cell? ⟨eb5, off5 + j * 4, none⟩ = some (.int .i64 (a).s) ∧ W.cell? ⟨eb5, off5 + j * 4 + 1, none⟩ = some (.slice A5 n5 c5) ∧ W.cell? ⟨eb5, off5 + j * 4 + 2, none⟩ = some (.int .i64 (a).t) ∧ W.cell? ⟨eb5, off5 + j * 4 + 3, none⟩ = some (.slice B5 m5 d5)))
 have hki : (j : Int) < (n : Int) := by omega
 have hk0 : (0 : Int) ≤ (j : Int) := by omega
 have hcap5 := r5.caps
 have hcbp5 := q5.caps
 replace K := (K.oldRd r5).oldRd q5
 have Hx5 := Lib.hid hx5
 clear hx5 z0 z1 z2 z3 r5 q5
 obtain ⟨eb6, off6, A6, n6, c6, B6, m6, d6, y, hA6, hbB6, hx6, ⟨z0, z1, z2, z3⟩, r6, q6⟩ := HLx.out.atF hlt
 subst hA6
 have Ex6 := Lib.hid (fun W (h : Below w.heap.size w W) => (⟨(h.cell (p := ⟨eb6, off6 + j * 4, none⟩) hbB6).trans z0, (h.cell (p := ⟨eb6, off6 + j * 4 + 1, none⟩) hbB6).trans z1, (h.cell (p := ⟨eb6, off6 + j * 4 + 2, none⟩) hbB6).trans z2, (h.cell (p := ⟨eb6, off6 + j * 4 + 3, none⟩) hbB6).trans z3⟩ : W.cell? ⟨eb6, off6 + j * 4, none⟩ = some (.int .i64 (y).s) ∧ W.cell? ⟨eb6, off6 + j * 4 + 1, none⟩ = some (.slice A6 n6 c6) ∧ W.cell? ⟨eb6, off6 + j * 4 + 2, none⟩ = some (.int .i64 (y).t) ∧ W.cell? ⟨eb6, off6 + j * 4 + 3, none⟩ = some (.slice B6 m6 d6)))
 have hki : (j : Int) < (n : Int) := by omega
 have hk0 : (0 : Int) ≤ (j : Int) := by omega
 have hcap6 := r6.caps
 have hcbp6 := q6.caps
 replace K := (K.oldRd r6).oldRd q6
 have Hx6 := Lib.hid hx6
 clear hx6 z0 z1 z2 z3 r6 q6
 obtain ⟨hsa, fa⟩ := fv_std (HOk.out a (List.mem_of_getElem? Hx5.out))
 obtain ⟨hyok, hyX⟩ := HX.out j y Hx6.out
 obtain ⟨hsy, fy⟩ := fv_std hyok
 have hst := dotK_step (m k) X j q hsum
 rw [HVa.out j a Hx5.out, hyX] at hst
 obtain ⟨e1, e2, e3, e4⟩ := Ex5.out _ K.1
 have HMu := Lib.hid (fun W g1 g2 g3 g4 => qMul a.rat y.rat a.s a.t y.s y.t A5 B5 A6 B6 n5 c5 m5 d5 n6 c6 m6 d6 a.l a.m y.l y.m W g1 g2 g3 g4 hsa fa hsy fy)
 have HAd := Lib.hid (fun s2 t2 A2 B2 n2 c2 m2 d2 l2 k2 W g1 g2 g3 g4 o h2 f2 => qAdd q s4 t4 s2 t2 A4 B4 A2 B2 n4 c4 m4 d4 n2 c2 m2 d2 l4 k4 l2 k2 W g1 g2 g3 g4 hs4 fq o h2 f2)
 obtain ⟨o, ho⟩ : ∃ o, o = mulO1 a.rat y.rat := ⟨_, rfl⟩
 obtain ⟨ev, hev⟩ : ∃ ev, ev = mulE1 a.rat y.rat := ⟨_, rfl⟩
 rw [← ho, ← hev] at HMu
 have Hof := Lib.hid (show ∀ z, o = some z → fitsF z = true from fun z h => by rw [ho] at h; exact mulO1_fits h)
 obtain ⟨ef, hef⟩ : ∃ ef, ef = addE1 q o := ⟨_, rfl⟩
 have Hcase := Lib.hid (show ((ev != 0) = true ∧ R = false) ∨ ((ev != 0) = false ∧ (ef != 0) = true ∧ R = false) ∨ ((ev != 0) = false ∧ (ef != 0) = false ∧ ∃ q', addO1 q o = some q' ∧ fitsF q' = true ∧ dotK (m k) X (j + 1) = some q') from by
  cases hmk : mulK a.rat y.rat
  · left
    rw [hmk, Bool.false_and, if_neg (by decide)] at hst
    refine ⟨?_, HNoR.out k (by omega) (by rw [dotK_none hst (by omega)]; exact fun h => by cases h)⟩
    rw [hev]
    unfold mulE1
    rw [hmk]
    rfl
  · right
    have h1 : ev = 0 := by rw [hev]; unfold mulE1; rw [hmk]; rfl
    have h2 : o = some (a.rat * y.rat) := by rw [ho]; unfold mulO1; rw [hmk]; rfl
    have h3 : (ev != 0) = false := by rw [h1]; rfl
    cases hak : addK q (a.rat * y.rat)
    · left
      rw [hmk, hak, Bool.and_false, if_neg (by decide)] at hst
      refine ⟨h3, ?_, HNoR.out k (by omega) (by rw [dotK_none hst (by omega)]; exact fun h => by cases h)⟩
      rw [hef, h2, addE1, hak]
      rfl
    · right
      rw [hmk, hak, Bool.and_true, if_pos rfl] at hst
      refine ⟨h3, ?_, _, ?_, addK_fits hak, hst⟩
      · rw [hef, h2, addE1, hak]
        rfl
      · rw [h2, addO1, hak]
        rfl)
 have Hef := Lib.hid hef
 clear hst hsum fq hs4 hsa fa hsy fy hyok hyX ho hev hef
 go_upto_region 10 with (first | (refine ZAL ?_; clear K r; (first | ((fail_if_success revert b0); intro W b0 K r) | ((fail_if_success revert b1); intro W b1 K r) | intro W b K r)) | (refine ZST ?_; clear K r; intro W K r))
 obtain ⟨RR, HR0⟩ := K.hideZ 50
 go_cut [14, 13] from 50 to 57 (fun e p wx => ∃ g s8 A8 n8 c8 l8 t8 B8 m8 d8 k8, e = .int .i64 ev ∧ p = .pointer (some ⟨g, 0, none⟩) ∧ OptF s8 l8 t8 k8 (o) ∧ (FrA w.heap.size A8 ∧ FrA w.heap.size B8) ∧ RR g #[.int .i64 s8, .slice A8 n8 c8, .int .i64 t8, .slice B8 m8 d8] A8 n8 c8 l8 B8 m8 d8 k8 wx)
 case first =>
  obtain ⟨gz1, hgz1, KA⟩ := K.newZ #[.int .i64 0, .slice none 0 0, .int .i64 0, .slice none 0 0] 50
  have rA := KA.raw
  have Kd := K.drew
  have KAd := KA.drew
  have HBd := Lib.hid (K.bel.size)
  have eA2 := Ex6.out _ KA.1
  have eK2 := Ex6.out _ K.1
  simp only [Raw, RawC, RawZ, and_true, true_and, Nat.zero_add, Nat.reduceAdd] at rA
  go_region_with (first
   | (go_at_call 52; (with_reducible refine (HMu.out _ ?qa ?qb ?qc ?qd).mono ?_); (case qa => (first | with_reducible exact Kd.rd ZMB | with_reducible exact KAd.rd ZMB)); (case qb => (first | with_reducible exact Kd.rd ZMB | with_reducible exact KAd.rd ZMB)); (case qc => (first | with_reducible exact Kd.rd ZMB | with_reducible exact KAd.rd ZMB)); (case qd => (first | with_reducible exact Kd.rd ZMB | with_reducible exact KAd.rd ZMB)); rintro e W ⟨s31, A31, n31, c31, l31, t31, B31, m31, d31, k31, rfl, ⟨hra, hrb⟩, hs31, ⟨hfa, hfb⟩, hb⟩; have hF31 := Lib.hid (hfa.mono (C := w.heap.size) (by first | exact Kd.bel.size | exact KAd.bel.size)); have hG31 := Lib.hid (hfb.mono (C := w.heap.size) (by first | exact Kd.bel.size | exact KAd.bel.size)); (first | with_reducible replace K := Kd.retF hb hra hrb hfa hfb | with_reducible replace K := KAd.retF hb hra hrb hfa hfb); clear r rA KA hra hrb hfa hfb hb; have r := K.raw; have z := K.rawz; simp only [Raw, RawC, RawZ, and_true, true_and, Nat.zero_add, Nat.reduceAdd] at r z))
  all_goals
   go_wp2_with fail
   go_meet
   first
    | with_reducible exact ⟨_, s31, A31, n31, c31, l31, t31, B31, m31, d31, k31, rfl, rfl, hs31, ⟨hF31.out, hG31.out⟩, (HR0 _ _ _ _ _ _ _ _ _ _ _).2 (K.new #[.int .i64 s31, .slice A31 n31 c31, .int .i64 t31, .slice B31 m31 d31] 50)⟩
    | with_reducible exact ⟨_, s31, A31, n31, c31, l31, t31, B31, m31, d31, k31, rfl, rfl, hs31, ⟨hF31.out, hG31.out⟩, (HR0 _ _ _ _ _ _ _ _ _ _ _).2 (K.set4Z (u0 := .int .i64 s31) (u1 := .slice A31 n31 c31) (u2 := .int .i64 t31) (u3 := .slice B31 m31 d31) ZUP)⟩
    | exact ⟨_, s31, A31, n31, c31, l31, t31, B31, m31, d31, k31, rfl, rfl, hs31, ⟨hF31.out, hG31.out⟩, (HR0 _ _ _ _ _ _ _ _ _ _ _).2 (K.new #[.int .i64 s31, .slice A31 n31 c31, .int .i64 t31, .slice B31 m31 d31] 50)⟩
    | exact ⟨_, s31, A31, n31, c31, l31, t31, B31, m31, d31, k31, rfl, rfl, hs31, ⟨hF31.out, hG31.out⟩, (HR0 _ _ _ _ _ _ _ _ _ _ _).2 (K.set4Z (u0 := .int .i64 s31) (u1 := .slice A31 n31 c31) (u2 := .int .i64 t31) (u3 := .slice B31 m31 d31) ZUP)⟩
 obtain ⟨gb9, s9, A9, n9, c9, l9, t9, B9, m9, d9, k9, rfl, rfl, hs9, ⟨hF9, hG9⟩, hk9⟩ := hcut
 replace K := (HR0 _ _ _ _ _ _ _ _ _ _ _).1 hk9
 clear r hk9 HR0
 have r := K.rawS
 go_wp2_with (first | (first | (refine ZAL ?_; clear K r; (first | ((fail_if_success revert b0); intro W b0 K r) | ((fail_if_success revert b1); intro W b1 K r) | intro W b K r)) | (refine ZST ?_; clear K r; intro W K r)) | (first | (apply K.alloc; rfl; rfl; exact row_zero; clear K r; (first | ((fail_if_success revert b0); intro W b0 K) | ((fail_if_success revert b1); intro W b1 K) | intro W b K); have r := K.rawS) | (apply K.storeA; rfl; rfl; rfl; rfl; rfl; (exact ZUP); exact row_size; rfl; rfl; rfl; clear K r; intro W K; have r := K.rawS)))
 refine (HAd.out _ _ _ _ _ _ _ _ _ _ _ ZRD ZRD ZRD ZRD o hs9 Hof.out).mono ?_
 rw [← Hef.out]
 rintro e W' ⟨s7, A7, n7, c7, l7, t7, B7, m7, d7, k7, rfl, ⟨hra, hrb⟩, ho7, ⟨hfa, hfb⟩, hb⟩
 have hf7 := Lib.hid (hfa.mono K.1.size)
 have hg7 := Lib.hid (hfb.mono K.1.size)
 replace K := K.retF hb hra hrb hfa hfb
 clear r
 have r := K.rawS
 clear hra hrb hfa hfb hb
 clear HMu HAd hs9
 rcases Hcase.out with ⟨h1, h2⟩ | ⟨h1, h2, h3⟩ | ⟨h1, h2, q2, h3, h4, h5⟩
 · have HNo := Lib.hid h2
   clear ho7 h2
   exact ZL20
 · have HNo := Lib.hid h3
   clear ho7 h3
   exact ZL20
 rw [h3] at ho7
 have Ho7 := Lib.hid ho7.std
 have H4 := Lib.hid h4
 have H5 := Lib.hid h5
 clear ho7 h3 h4 h5
 go_wp2_with (first | (first | (refine ZAL ?_; clear K r; (first | ((fail_if_success revert b0); intro W b0 K r) | ((fail_if_success revert b1); intro W b1 K r) | intro W b K r)) | (refine ZST ?_; clear K r; intro W K r)) | (first | (apply K.alloc; rfl; rfl; exact row_zero; clear K r; (first | ((fail_if_success revert b0); intro W b0 K) | ((fail_if_success revert b1); intro W b1 K) | intro W b K); have r := K.rawS) | (apply K.storeA; rfl; rfl; rfl; rfl; rfl; (exact ZUP); exact row_size; rfl; rfl; rfl; clear K r; intro W K; have r := K.rawS)))
 go_roundg (n - (j + 1))
 case rel => exact ⟨j + 1, q2, s7, t7, A7, B7, n7, c7, m7, d7, l7, k7, hlt, rfl, by go_num, Lib.hid ⟨H5.out, H4.out, Ho7.out⟩, (K.part ZSL).less ZLE⟩
 case measure => omega
end Go.Proofs.YtdlcglndhhndpaaGreat
