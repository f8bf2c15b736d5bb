/- Laws and walks laid together; the conditions stand in each theorem. -/
import Derived.Test.YtdlcglndhhndpaaT34
set_option linter.unusedSimpArgs false
set_option linter.unusedVariables false
namespace Go.Proofs.Ytdlcglndhhndpaa
open Go.RowKit
def LstP (w : World) (n : Nat) (x : Nat → Rat) (e : Ending) (w' : World) : Prop := ∃ A c, e = .returned (.slice A n c) ∧ FrK w w' A n c (ofF n fun i => fvQ (x i)) ∧ Below w.heap.size w w'
set_option maxRecDepth 100000 in
set_option maxHeartbeats 4000000 in
theorem list9_any (A : Option Addr) (n cap : Nat) (l : List Int) (w : World) (hl : RdI w w.heap.size A n cap l) (hn : n ≤ 1000) (hb : ∀ x ∈ l, -9223372036854775808 ≤ x ∧ x ≤ 9223372036854775807) :
    Calls Try.prog 60 #[.slice A n cap] w (LstP w n fun i => ((gi l i : Int) : Rat)) := by
  have hcap := hl.caps
  have HL := Lib.hid (fun W (h : Below w.heap.size w W) => hl.up (flat_lasts _) h)
  have HB := Lib.hid (show ∀ i, i < n → -9223372036854775808 ≤ gi l i ∧ gi l i ≤ 9223372036854775807 from fun i hi => by
    have e := hl.len
    unfold gi
    rw [List.getD_eq_getElem?_getD, List.getElem?_eq_getElem (by omega)]
    exact hb _ (List.getElem_mem _))
  have K : St w ([] ++ []) [⟨rwP 0 (fun _ => Rw.zero), rwS 0 (fun _ => Rw.zero)⟩] w := (St.start w).rwNew 0
  clear hl hb
  go_enter Try.func60, Try.ntmps60
  go_wp2_with fail
  go_loopg [3, 4] n (fun gk s3 s4 wr => ∃ (k : Nat) (v : Nat → Rw) (val : Value) (X : List Blk), k ≤ n ∧ gk = n - k ∧ s3 = val ∧ s4 = .int .i64 k ∧ Hid ((∀ j, j < k → (v j).fv = fvQ ((gi l j : Int) : Rat)) ∧ ∀ b, rwS k v b → w.heap.size ≤ b) ∧ OwL 4 Rw.cs 40 val (ofF k v) X ∧ St w (X ++ []) [⟨rwP k v, rwS k v⟩] wr)
  case atStart => exact ⟨0, fun _ => Rw.zero, _, [], Nat.zero_le _, rfl, rfl, rfl, Lib.hid ⟨fun j h => absurd h (by omega), fun b ⟨i, hi, _⟩ => absurd hi (by omega)⟩, OwL.nil, K⟩
  case round =>
    clear K
    obtain ⟨k, v, val, X, hk, rfl, rfl, rfl, HV, ho, K⟩ := hrel
    by_cases hlt : k < n
    · have hki : (k : Int) < (n : Int) := by omega
      have hk0 : (0 : Int) ≤ (k : Int) := by omega
      have hltd : decide (k < n) = true := decide_eq_true hlt
      obtain ⟨vb, vo, hA, hvb, hc⟩ := RdI.cellAt (HL.out _ K.1) hlt
      subst hA
      have HO := Lib.hid (fun W => of9_any (gi l k) W (HB.out k hlt))
      have Ho := Lib.hid ho
      have Hsz := Lib.hid K.1.size
      clear hvb ho
      go_wp2_with (first
        | (go_at_call 34; refine (HO.out _).mono ?_; rintro e W' ⟨s9, A9, n9, c9, l9, t9, B9, m9, d9, k9, rfl, ⟨hra, hrb⟩, ho9, ⟨hfa, hfb⟩, hbl⟩; replace K := K.retF hbl hra hrb hfa hfb)
        | (at_builtin; refine K.app1 Ho.out rw_sized rfl _ _ 23 rfl _ 64 Try.underlying23 frac_made rfl rfl (⟨s9, A9, n9, c9, l9, t9, B9, m9, d9, k9⟩ : Rw) _ rfl _ rfl (by exact rfl) (by rw [ofF_len]; omega) (by omega) ?_; intro v4 X4 W4 ho4 K4))
      rw [ofF_put] at ho4
      have HV2 := Lib.hid (show (∀ j, j < k + 1 → (putF v k (⟨s9, A9, n9, c9, l9, t9, B9, m9, d9, k9⟩ : Rw) j).fv = fvQ ((gi l j : Int) : Rat)) ∧ ∀ b, rwS (k + 1) (putF v k (⟨s9, A9, n9, c9, l9, t9, B9, m9, d9, k9⟩ : Rw)) b → w.heap.size ≤ b from ⟨fun j hj => by
        by_cases e : j = k
        · rw [e, putF_same]
          exact ho9.fv
        · rw [putF_other e]
          exact HV.out.1 j (by omega), fun b ⟨j, hj, hS⟩ => by
        by_cases e : j = k
        · rw [e, putF_same] at hS
          rcases hS with ⟨-, a, ha, rfl⟩ | ⟨-, a, ha, rfl⟩
          · exact Nat.le_trans Hsz.out (hfa a ha)
          · exact Nat.le_trans Hsz.out (hfb a ha)
        · rw [putF_other e] at hS
          exact HV.out.2 b ⟨j, by omega, hS⟩⟩)
      have HK := Lib.hid ((K4.rwAdd (v := v) (n := k) ⟨s9, A9, n9, c9, l9, t9, B9, m9, d9, k9⟩ ZMB ZMB ZMB).lessS (D' := [⟨rwP (k + 1) (putF v k ⟨s9, A9, n9, c9, l9, t9, B9, m9, d9, k9⟩), rwS (k + 1) (putF v k ⟨s9, A9, n9, c9, l9, t9, B9, m9, d9, k9⟩)⟩]) (by repeat (first | with_reducible exact List.Sublist.refl _ | with_reducible apply List.Sublist.cons_cons | with_reducible apply List.Sublist.cons)))
      clear K4 ho9 HV Ho
      go_roundg (n - (k + 1))
      case rel => exact ⟨k + 1, _, _, X4, hlt, rfl, rfl, by go_num, HV2, ho4, HK.out⟩
      case measure => omega
    · have e : n = k := by omega
      subst e
      have hltd : decide (n < n) = false := decide_eq_false hlt
      obtain ⟨Ao, co, hv, hro⟩ := ho.frK K ZMB (by omega) HV.out.2
      subst hv
      rw [ofF_congr (g := fun i => fvQ ((gi l i : Int) : Rat)) (fun i hi => HV.out.1 i hi)] at hro
      have HX := Lib.hid (show LstP w n (fun i => ((gi l i : Int) : Rat)) (.returned (.slice Ao n co)) wr from ⟨Ao, co, rfl, hro, K.1⟩)
      clear ho K hro HV hlt
      go_wp2_with fail
      go_ret
      exact HX.out
def okS (m n : Nat) : Nat → Dc → Bool
  | 0, D => match D.pick m n with
    | .swap _ _ => false
    | _ => true
  | t + 1, D => match D.pick m n with
    | .swap r s => D.fitX m n r s && okS m n t (D.xch r s)
    | _ => false
theorem okS_srch {m n : Nat} : ∀ {t : Nat} {D : Dc}, okS m n t D = true → Srch m n D (some (Dc.seq m n t D))
  | 0, D, h => by
    refine .stop fun ⟨r, s, e⟩ => ?_
    unfold okS at h
    rw [e] at h
    cases h
  | t + 1, D, h => by
    unfold okS at h
    cases e : D.pick m n with
    | swap r s =>
      rw [e] at h
      have h : (D.fitX m n r s && okS m n t (D.xch r s)) = true := h
      rw [Bool.and_eq_true] at h
      have e3 : D.nxt m n = D.xch r s := by unfold Dc.nxt; rw [e]
      refine .step e h.1 ?_
      rw [Dc.seq, e3]
      exact okS_srch h.2
    | best => rw [e] at h; cases h
    | contra i => rw [e] at h; cases h
    | endless j => rw [e] at h; cases h
def rwJ (l : List Int) (b : Int) : Rv := ⟨ofF l.length fun i => fvQ ((gi l i : Int) : Rat), fvQ ((b : Int) : Rat)⟩
def fvJ (l : List Int) : List Fv := ofF l.length fun i => fvQ ((gi l i : Int) : Rat)
def pA : List Rv := [rwJ [1, 2] 4, rwJ [3, 1] 6]
def pB : List Rv := [rwJ [-1] (-3), rwJ [1] 2]
def pC : List Rv := [rwJ [1, -1] 1]
def pD : List Rv := [rwJ [] (-1)]
abbrev opS (l : List Fv) (ls : List Rv) (m n : Nat) (zero : Bool) : Dc := opnD n (rwA2 ls) (rwB2 ls false) (if zero = true then fun _ => 0 else fvR l)
theorem says_none {l : List Fv} {ls : List Rv} {m n t r : Nat} (h : okS m n t (opS l ls m n true) = true) (hp : (Dc.seq m n t (opS l ls m n true)).pick m n = .contra r) : LpSays m n (rwA2 ls) (rwB2 ls false) (fvR l) (.none (yC n (Dc.seq m n t (opS l ls m n true)) r)) := .none (okS_srch h) hp
theorem says_fin {l : List Fv} {ls : List Rv} {m n t u : Nat} (h : okS m n t (opS l ls m n true) = true) (hp : (Dc.seq m n t (opS l ls m n true)).pick m n = .best) (h2 : okS m n u (opS l ls m n false) = true) : LpSays m n (rwA2 ls) (rwB2 ls false) (fvR l) (endOf m n (Dc.seq m n u (opS l ls m n false))) := .fin (okS_srch h) (fun r e => by cases (hp.symm.trans e)) (okS_srch h2)
theorem exA1 : okS 2 2 0 (opS (fvJ [1, 1]) pA 2 2 true) = true := by decide +kernel
theorem exA2 : okS 2 2 2 (opS (fvJ [1, 1]) pA 2 2 false) = true := by decide +kernel
theorem exA3 : (Dc.seq 2 2 0 (opS (fvJ [1, 1]) pA 2 2 true)).pick 2 2 = .best := by kernel_rfl
theorem exA4 : (Dc.seq 2 2 2 (opS (fvJ [1, 1]) pA 2 2 false)).pick 2 2 = .best := by kernel_rfl
theorem exA5 : (ofF 2 fun i => fvQ (xB 2 (Dc.seq 2 2 2 (opS (fvJ [1, 1]) pA 2 2 false)) i)) = [fvQ (Rat.divInt 8 5), fvQ (Rat.divInt 6 5)] := by decide +kernel
theorem exA6 : (ofF 2 fun i => fvQ (yB 2 (Dc.seq 2 2 2 (opS (fvJ [1, 1]) pA 2 2 false)) i)) = [fvQ (Rat.divInt 2 5), fvQ (Rat.divInt 1 5)] := by decide +kernel
theorem exB1 : okS 2 1 1 (opS (fvJ [1]) pB 2 1 true) = true := by decide +kernel
theorem exB2 : (Dc.seq 2 1 1 (opS (fvJ [1]) pB 2 1 true)).pick 2 1 = .contra 1 := by kernel_rfl
theorem exB3 : (ofF 2 fun i => fvQ (yC 1 (Dc.seq 2 1 1 (opS (fvJ [1]) pB 2 1 true)) 1 i)) = [fvQ ((1 : Int) : Rat), fvQ ((1 : Int) : Rat)] := by decide +kernel
theorem exC1 : okS 1 2 0 (opS (fvJ [1, 1]) pC 1 2 true) = true := by decide +kernel
theorem exC2 : (Dc.seq 1 2 0 (opS (fvJ [1, 1]) pC 1 2 true)).pick 1 2 = .best := by kernel_rfl
theorem exC3 : okS 1 2 1 (opS (fvJ [1, 1]) pC 1 2 false) = true := by decide +kernel
theorem exC4 : (Dc.seq 1 2 1 (opS (fvJ [1, 1]) pC 1 2 false)).pick 1 2 = .endless 1 := by kernel_rfl
theorem exC5 : (ofF 2 fun i => fvQ (xR 1 (Dc.seq 1 2 1 (opS (fvJ [1, 1]) pC 1 2 false)) 1 i)) = [fvQ ((1 : Int) : Rat), fvQ ((1 : Int) : Rat)] := by decide +kernel
theorem exD1 : okS 1 0 0 (opS [] pD 1 0 true) = true := by decide +kernel
theorem exD2 : (Dc.seq 1 0 0 (opS [] pD 1 0 true)).pick 1 0 = .contra 0 := by kernel_rfl
theorem exD3 : (ofF 1 fun i => fvQ (yC 0 (Dc.seq 1 0 0 (opS [] pD 1 0 true)) 0 i)) = [fvQ ((1 : Int) : Rat)] := by decide +kernel
end Go.Proofs.Ytdlcglndhhndpaa
namespace Go.Proofs.Ytdlcglndhhndpaa
open Go.RowKit
set_option maxRecDepth 100000 in
set_option maxHeartbeats 4000000 in
theorem row9_any (A : Option Addr) (n cap : Nat) (l : List Int) (b : Int) (w : World) (hl : RdI w w.heap.size A n cap l) (hn : n ≤ 1000) (hb : ∀ x ∈ l, -9223372036854775808 ≤ x ∧ x ≤ 9223372036854775807) (hb2 : -9223372036854775808 ≤ b ∧ b ≤ 9223372036854775807) :
    Calls Try.prog 61 #[.slice A n cap, .int .i64 b] w fun e w' => ∃ x : Rr, e = .returned (.agg #[.slice x.A n x.c, .int .i64 x.y.s, .slice x.y.A x.y.n x.y.c, .int .i64 x.y.t, .slice x.y.B x.y.m x.y.d]) ∧ x.n = n ∧ x.on w' ∧ x.rv = rwJ l b ∧ Below w.heap.size w w' := by
  have hlen := hl.len
  have HL := Lib.hid (fun W (h : Below w.heap.size w W) => list9_any A n cap l W (hl.up (flat_lasts _) h) hn hb)
  have HO := Lib.hid (fun W => of9_any b W hb2)
  have hcap := hl.caps
  have K := St.start w
  clear hl hb hb2
  go_enter Try.func61, Try.ntmps61
  go_wp2_with (apply K.alloc; rfl; rfl; exact row_zero; clear K; intro W b0 K)
  refine (HL.out _ K.1).mono ?_
  rintro e W1 ⟨A1, c1, rfl, hr1, hb1⟩
  have hcap1 := hr1.now.caps
  replace K := K.addK hb1 hr1
  clear hr1 hb1
  go_wp2_with fail
  refine (HO.out _).mono ?_
  rintro e W2 ⟨s9, A9, n9, c9, l9, t9, B9, m9, d9, k9, rfl, ⟨hra, hrb⟩, ho9, ⟨hfa, hfb⟩, hbl⟩
  replace K := K.retF hbl hra hrb hfa hfb
  clear hra hrb hfa hfb hbl
  go_wp2_with (apply K.storeA; rfl; rfl; rfl; rfl; rfl; (repeat (first | with_reducible apply Upd.head | with_reducible apply Upd.tail)); exact row_size; rfl; rfl; rfl; clear K; intro W3 K)
  have c0 := K.blk (b := b0) (cs := #[.slice A1 n c1, .int .i64 s9, .slice A9 n9 c9, .int .i64 t9, .slice B9 m9 d9]) (t := 45) List.mem_cons_self
  have z0 := c0.cell (j := 0) rfl
  have z1 := c0.cell (j := 1) rfl
  have z2 := c0.cell (j := 2) rfl
  have z3 := c0.cell (j := 3) rfl
  have z4 := c0.cell (j := 4) rfl
  have HE := Lib.hid (⟨⟨A1, n, c1, fvJ l, ⟨s9, A9, n9, c9, l9, t9, B9, m9, d9, k9⟩⟩, rfl, rfl, ⟨by unfold fvJ; rw [hlen]; exact K.getQ ZMB, K.rd ZMB, K.rd ZMB⟩, by unfold fvJ rwJ; show (⟨_, ⟨s9, l9, t9, k9⟩⟩ : Rv) = _; rw [ho9.fv], K.1⟩ : ∃ x : Rr, (Ending.returned (.agg #[.slice A1 n c1, .int .i64 s9, .slice A9 n9 c9, .int .i64 t9, .slice B9 m9 d9])) = .returned (.agg #[.slice x.A n x.c, .int .i64 x.y.s, .slice x.y.A x.y.n x.y.c, .int .i64 x.y.t, .slice x.y.B x.y.m x.y.d]) ∧ x.n = n ∧ x.on W3 ∧ x.rv = rwJ l b ∧ Below w.heap.size w W3)
  clear K c0 ho9
  exact bodyPost_ret (v := .agg #[.slice A1 n c1, .int .i64 s9, .slice A9 n9 c9, .int .i64 t9, .slice B9 m9 d9]) (by simp [results, Try.results61, go_sem, z0, z1, z2, z3, z4]) rfl HE.out
set_option maxRecDepth 100000 in
set_option maxHeartbeats 4000000 in
theorem is9_any (x : Rw) (p q : Int) (z : Rat) (w : World) (h1 : RdI w w.heap.size x.A x.n x.c x.l) (h2 : RdI w w.heap.size x.B x.m x.d x.k) (hO : ∀ W, Calls Try.prog 42 #[.int .i64 p, .int .i64 q] W (FrE W (some z) 0)) :
    Calls Try.prog 62 #[.agg #[.int .i64 x.s, .slice x.A x.n x.c, .int .i64 x.t, .slice x.B x.m x.d], .int .i64 p, .int .i64 q] w fun e w' => e = .returned (.bool (decide (x.fv = fvQ z))) ∧ Below w.heap.size w w' := by
  have HO := Lib.hid hO
  have K := ((St.start w).oldRd h1).oldRd h2
  have hc1 := h1.caps
  have hc2 := h2.caps
  have r := K.raw
  clear h1 h2 hO
  go_enter Try.func62, Try.ntmps62
  go_wp2_with (first | (refine ZAL ?_; clear K r; (first | ((fail_if_success revert b0); intro W b0 K r) | intro W b K r)) | (refine ZST ?_; clear K r; intro W K r))
  refine (HO.out _).mono ?_
  rintro e W' ⟨s5, A5, n5, c5, l5, t5, B5, m5, d5, k5, rfl, ⟨hra, hrb⟩, ho5, ⟨hfa, hfb⟩, hb⟩
  replace K := K.retF hb hra hrb hfa hfb
  clear r
  have r := K.rawS
  have hs5 := ho5.std
  have HSm := Lib.hid (fun W a b' c d => gsame_any x.s x.t s5 t5 x.A x.B A5 B5 x.n x.c x.m x.d n5 c5 m5 d5 x.l x.k l5 k5 W a b' c d)
  have e0 : sameF x.s x.l x.t x.k s5 l5 t5 k5 = decide (x.fv = fvQ z) := by
    have := fv_same x.fv ⟨s5, l5, t5, k5⟩
    rw [hs5.fv] at this
    have h6 := hs5.fv
    unfold fvQ at h6
    injection h6 with g1 g2 g3 g4
    rw [g1, g2, g3, g4]
    exact this
  rw [e0] at HSm
  obtain ⟨R, hR⟩ : ∃ R, decide (x.fv = fvQ z) = R := ⟨_, rfl⟩
  rw [hR] at HSm
  have HRR := Lib.hid hR
  clear hR
  clear hra hrb hfa hfb hb ho5 hs5 e0
  go_wp2_with (first | (refine ZAL ?_; clear K r; (first | ((fail_if_success revert b0); intro W b0 K r) | intro W b K r)) | (refine ZST ?_; clear K r; intro W K r))
  refine (HSm.out _ (K.rd ZMB) (K.rd ZMB) (K.rd ZMB) (K.rd ZMB)).mono ?_
  rintro e W2 ⟨rfl, hb⟩
  replace K := K.keep hb
  go_wp2_with fail
  exact bodyPost_ret (v := .bool R) (by simp [results, Try.results62, go_sem]) rfl ⟨by rw [HRR.out], K.1⟩
end Go.Proofs.Ytdlcglndhhndpaa
