/- Walks over the reference of layer 7: Same, On, Join, Fits. Conditions stand in each theorem. -/
import Derived.Test.YtfidjhhpcjmioaaR3
namespace Go.Proofs.Ytfidjhhpcjmioaa
open Go.RowKit
set_option linter.unusedVariables false

theorem same_any (A B : Option Addr) (n m cap capb : Nat) (a b : List (Int × Int)) (w : World) (ha : RdP w w.heap.size A n cap a) (hb : RdP w w.heap.size B m capb b) :
  Calls Try.prog 17 #[.slice A n cap, .slice B m capb] w fun e w' => e = .returned (.bool (decide (a = b))) ∧ Below w.heap.size w w' := by
  obtain ⟨hn1, hn2, hn3⟩ := ha.caps
  obtain ⟨hm1, hm2, hm3⟩ := hb.caps
  by_cases hnm : n = m
  · subst hnm
    have Ha := Lib.hid ha.len
    have Hb := Lib.hid hb.len
    go_enter Try.func17, Try.ntmps17
    go_wp2
    go_loopg [5] n (fun gk i wr => ∃ k : Nat, k ≤ n ∧ gk = n - k ∧ i = .int .i64 k ∧ (∀ j, j < k → a[j]? = b[j]?) ∧ ∃ q, wr = w.drewN q)
    case atStart => exact ⟨0, Nat.zero_le _, rfl, rfl, fun _ h => absurd h (by omega), 0, rfl⟩
    case round =>
      obtain ⟨k, hk, rfl, rfl, he, q, rfl⟩ := hrel
      have He := Lib.hid he; clear he
      by_cases hlt : k < n
      · obtain ⟨b1, off, x, y, rfl, hbB, hxy, c0, c1⟩ := ha.atP hlt
        obtain ⟨b2, off2, u, v, rfl, hbB2, huv, d0, d1⟩ := hb.atP hlt
        have hki : (k : Int) < (n : Int) := by omega
        have hk0 : (0 : Int) ≤ (k : Int) := by omega
        have Hxy := Lib.hid hxy; have Huv := Lib.hid huv; clear hxy huv
        cases hx : (x == u)
        · have HF := Lib.hid (show decide (a = b) = false by
            rw [decide_eq_false_iff_not]; intro e
            have h1 := Hxy.out; rw [e, Huv.out] at h1; simp at h1 hx; exact hx h1.1.symm)
          go_wp2_with fail
          go_quiet (fail)
          go_wp2
          go_ret
          exact ⟨congrArg (fun z => Ending.returned (Value.bool z)) HF.out.symm, below_drewN (below_drewN (Below.refl _ _) _) _⟩
        · cases hy : (y == v)
          · have HF := Lib.hid (show decide (a = b) = false by
              rw [decide_eq_false_iff_not]; intro e
              have h1 := Hxy.out; rw [e, Huv.out] at h1; simp at h1 hy; exact hy h1.2.symm)
            go_wp2_with fail
            go_quiet (fail)
            go_wp2
            go_ret
            exact ⟨congrArg (fun z => Ending.returned (Value.bool z)) HF.out.symm, below_drewN (below_drewN (Below.refl _ _) _) _⟩
          · have HE := Lib.hid (show ∀ j, j < k + 1 → a[j]? = b[j]? from fun j hj => by
              by_cases e : j = k
              · subst e; rw [Hxy.out, Huv.out]; simp at hx hy; rw [hx, hy]
              · exact He.out j (by omega))
            go_wp2_with fail
            go_quiet (fail)
            go_wp2
            go_roundg (n - (k + 1))
            case rel => exact ⟨k + 1, by omega, rfl, by go_num, HE.out, _, rfl⟩
            case measure => omega
      · have e : k = n := by omega
        subst e
        have HF := Lib.hid (show decide (a = b) = true by
          rw [decide_eq_true_iff]
          apply List.ext_getElem?
          intro j
          by_cases hj : j < k
          · exact He.out j hj
          · rw [List.getElem?_eq_none (by have := Ha.out; omega), List.getElem?_eq_none (by have := Hb.out; omega)])
        go_wp2
        go_ret
        exact ⟨congrArg (fun z => Ending.returned (Value.bool z)) HF.out.symm, below_drewN (Below.refl _ _) _⟩
  · have HF := Lib.hid (show decide (a = b) = false by
      rw [decide_eq_false_iff_not]; intro e; apply hnm; rw [← ha.len, ← hb.len, e])
    have hne : ((n : Int) != (m : Int)) = true := by simp [bne]; omega
    clear hnm
    go_enter Try.func17, Try.ntmps17
    go_wp2
    go_ret
    exact ⟨congrArg (fun z => Ending.returned (Value.bool z)) HF.out.symm, Below.refl _ _⟩

/-- the value at a place of Newton's polynomial through n points -/
def newtV (l : List (Int × Int)) (n : Nat) (t : Int) : Int := nwt (fi (ofF n (dd (fx l) (fy l) (n - 1)))) (fx l) t n n
/-- whether the points at a, a + 1, .. are on Newton's polynomial through the first k ones -/
def onFrom (l : List (Int × Int)) (k : Nat) : Nat → Nat → Bool
  | _, 0 => true
  | a, m + 1 => (newtV (l.take k) k (fx l a) == fy l a) && onFrom l k (a + 1) m

theorem ofF_dd_bd {l : List (Int × Int)} (hX : ∀ s ∈ l, ptOk s) (n s : Nat) : ∀ x ∈ ofF n (dd (fx l) (fy l) s), 0 ≤ x ∧ x < 2147483647 := by
  intro x hx
  obtain ⟨i, _, rfl⟩ := ofF_mem hx
  exact dd_bd _ _ (fy_bd hX) _ _

theorem qd {P : Program} {f : FuncId} {args : Array Value} {w : World} {n : Nat} {v : Value}
    (h : Calls P f args (w.drewN n) fun e w' => e = .returned v ∧ ∃ m, w' = (w.drewN n).drewN m) :
    Calls P f args (w.drewN n) fun e w'' => e = .returned v ∧ ∃ m, w'' = w.drewN m :=
  h.mono fun _ _ ⟨he, m, hm⟩ => ⟨he, n + m, by rw [hm, World.drewN_drewN]⟩
theorem Rd.drewN {α : Type} {sz : Nat} {R : Enc α} {w : World} {B : Nat} {A : Option Addr} {n cap : Nat} {l : List α} (hR : Lasts R) (h : Rd sz R w B A n cap l) (k : Nat) : Rd sz R (w.drewN k) B A n cap l :=
  h.keep hR (Nat.le_refl _) fun _ _ => rfl

theorem at_new (A D : Option Addr) (n cap capd : Nat) (l : List (Int × Int)) (t : Int) (hX : ∀ s ∈ l, ptOk s) (ht : 0 ≤ t) (ht' : t ≤ 1000) (w : World) (hl : RdP w w.heap.size A n cap l) (hd : RdI w w.heap.size D n capd (ofF n (dd (fx l) (fy l) (n - 1)))) :
  Calls Try.prog 52 #[.slice A n cap, .slice D n capd, .int .i64 t] w fun e w' => e = .returned (.int .i64 (newtV l n t)) ∧ ∃ q, w' = w.drewN q :=
  at_any A D n cap capd l _ t w hl hd hX (ofF_dd_bd hX n (n - 1)) ht ht'

theorem on_any (A : Option Addr) (n cap : Nat) (l : List (Int × Int)) (k : Nat) (w : World) (hl : RdP w w.heap.size A n cap l) (hk : 1 ≤ k) (hk' : k ≤ n) (hX : ∀ s ∈ l, ptOk s) (hnn : n ≤ 1000000) :
  Calls Try.prog 43 #[.slice A n cap, .int .i64 k] w fun e w' => (e = .returned (.tuple #[.int .i64 (if onFrom l k k (n - k) then newtV (l.take k) k 0 else 0), .bool (onFrom l k k (n - k))])) ∧ Below w.heap.size w w' := by
  obtain ⟨hn1, hn2, hn3⟩ := hl.caps
  have hXt : ∀ s ∈ l.take k, ptOk s := fun s hs => hX s (List.mem_of_mem_take hs)
  obtain ⟨V, hV⟩ : ∃ V, V = (if onFrom l k k (n - k) then newtV (l.take k) k 0 else 0) := ⟨_, rfl⟩
  rw [← hV]
  have HV := Lib.hid hV; clear hV
  have hkn : (k : Int) ≤ (n : Int) := by omega
  have hkc : (k : Int) ≤ (cap : Int) := by omega
  have hmin : (if (n : Int) < (k : Int) then (n : Int) else (k : Int)) = (k : Int) := by rw [if_neg (by omega)]
  go_enter Try.func43, Try.ntmps43
  go_wp2_with fail
  refine (poly_any A k cap (l.take k) _ (hl.take hk') hXt (by omega)).mono ?_
  rintro e w1 ⟨v, rfl, hown, hb1⟩
  obtain ⟨D, capd, rfl, hrd⟩ := hown.rd iSized (by rw [ofF_len]; omega)
  rw [ofF_len] at hrd ⊢
  clear hown hmin
  go_wp2
  go_loopg [8] (n - k) (fun gk i wr => ∃ j : Nat, k ≤ j ∧ j ≤ n ∧ gk = n - j ∧ i = .int .i64 j ∧ (onFrom l k k (n - k) = onFrom l k j (n - j)) ∧ Below w1.heap.size w1 wr)
  case atStart => exact ⟨k, by omega, by omega, rfl, rfl, rfl, Below.refl _ _⟩
  case round =>
    obtain ⟨j, hj1, hj2, rfl, rfl, hag, hbr⟩ := hrel
    have Hag := Lib.hid hag; clear hag
    have hbw := hb1.trans (hbr.mono hb1.size)
    have hlw := hl.up (flat_lasts _) hbw
    have hrw := hrd.up (flat_lasts _) hbr
    by_cases hlt : j < n
    · obtain ⟨b, off, x, y, rfl, hbB, hxy, c0, c1⟩ := hlw.atP hlt
      obtain ⟨x1, x2, y1, y2⟩ := hX _ (List.mem_of_getElem? hxy)
      simp only at x1 x2 y1 y2
      have Hx := Lib.hid (fx_eq hxy)
      have Hy := Lib.hid (fy_eq hxy)
      clear hxy
      have hji : (j : Int) < (n : Int) := by omega
      have hj0 : (0 : Int) ≤ (j : Int) := by omega
      have hst : n - j = (n - (j + 1)) + 1 := by omega
      have Hst := Lib.hid (show onFrom l k k (n - k) = ((newtV (l.take k) k x == y) && onFrom l k (j + 1) (n - (j + 1))) by rw [Hag.out, hst, onFrom, Hx.out, Hy.out])
      clear hst
      have hat := at_new (some ⟨b, off, none⟩) D k cap capd (l.take k) x hXt x1 x2
      have Hat := Lib.hid hat; clear hat
      have hlt' := (hlw.take hk')
      cases hV : (newtV (l.take k) k x == y)
      · have hne : (newtV (l.take k) k x != y) = true := by simp [bne, hV]
        have HF := Lib.hid (show onFrom l k k (n - k) = false by rw [Hst.out, hV]; rfl)
        clear hV
        go_wp2_with fail
        go_quiet ((go_at_call 52; exact qd (Hat.out _ (Rd.drewN (flat_lasts _) hlt' _) (Rd.drewN (flat_lasts _) hrw _))))
        go_wp2
        go_ret2
        exact ⟨by rw [HF.out, HV.out, HF.out]; rfl, below_drewN hbw _⟩
      · have hne : (newtV (l.take k) k x != y) = false := by simp [bne, hV]
        have HF := Lib.hid (show onFrom l k k (n - k) = onFrom l k (j + 1) (n - (j + 1)) by rw [Hst.out, hV]; rfl)
        clear hV
        go_wp2_with fail
        go_quiet ((go_at_call 52; exact qd (Hat.out _ (Rd.drewN (flat_lasts _) hlt' _) (Rd.drewN (flat_lasts _) hrw _))))
        go_wp2
        go_roundg (n - (j + 1))
        case rel => exact ⟨j + 1, by omega, by omega, rfl, by go_num, HF.out, below_drewN hbr _⟩
        case measure => omega
    · have e : j = n := by omega
      subst e
      have HF := Lib.hid (show onFrom l k k (j - k) = true by rw [Hag.out, Nat.sub_self]; rfl)
      go_wp2_with (go_at_call 52; refine (at_new A D k cap capd (l.take k) 0 hXt (by omega) (by omega) _ (hlw.take hk') hrw).mono ?_; rintro e w2 ⟨rfl, q2, rfl⟩)
      go_ret2
      exact ⟨by rw [HF.out, HV.out, HF.out]; rfl, below_drewN hbw _⟩

theorem on_few (A : Option Addr) (n cap : Nat) (l : List (Int × Int)) (k : Nat) (w : World) (hl : RdP w w.heap.size A n cap l) (hk' : n < k) (hk2 : k ≤ 1000) (hX : ∀ s ∈ l, ptOk s) (hnn : n ≤ 1000000) :
  Calls Try.prog 43 #[.slice A n cap, .int .i64 k] w fun e w' => (e = .returned (.tuple #[.int .i64 (newtV l n 0), .bool true])) ∧ Below w.heap.size w w' := by
  obtain ⟨hn1, hn2, hn3⟩ := hl.caps
  have hkn : (n : Int) < (k : Int) := by omega
  go_enter Try.func43, Try.ntmps43
  go_wp2_with fail
  refine (poly_any A n cap l _ hl hX (by omega)).mono ?_
  rintro e w1 ⟨v, rfl, hown, hb1⟩
  obtain ⟨D, capd, rfl, hrd⟩ := hown.rd iSized (by rw [ofF_len]; omega)
  rw [ofF_len] at hrd ⊢
  clear hown
  have hlw := hl.up (flat_lasts _) hb1
  go_wp2
  refine wp_loop_rounds 1 ?_; rw [rounds_succ]
  go_wp2_with (go_at_call 52; refine (at_new A D n cap capd l 0 hX (by omega) (by omega) _ hlw hrd).mono ?_; rintro e w2 ⟨rfl, q2, rfl⟩)
  go_ret2
  exact ⟨rfl, hb1.trans (below_drewN (Below.refl _ _) _ |>.mono hb1.size)⟩

/-- what the reference's Join returns -/
def rjoinF (l : List (Int × Int)) (k : Int) : Int × Int :=
  if validF l k = 0 then (if (l.length : Int) < k then (0, 21) else if onFrom l k.toNat k.toNat (l.length - k.toNat) then (newtV (l.take k.toNat) k.toNat 0, 0) else (0, 23)) else (0, validF l k)

theorem rjoin_any (A : Option Addr) (n cap : Nat) (l : List (Int × Int)) (k : Int) (w : World) (hl : RdP w w.heap.size A n cap l) (hnn : n ≤ 1000000) : 
  Calls Try.prog 16 #[.slice A n cap, .int .i64 k] w fun e w' => e = .returned (.tuple #[.int .i64 (rjoinF l k).1, .int .i64 (rjoinF l k).2]) ∧ Below w.heap.size w w' := by
  obtain ⟨hn1, hn2, hn3⟩ := hl.caps
  by_cases hv : validF l k = 0
  · obtain ⟨k1, k2, hok, _⟩ := valid_zero hv
    have hpt : ∀ s ∈ l, ptOk s := fun s hs => shOk_pt (hok s hs)
    obtain ⟨k, rfl⟩ := Int.eq_ofNat_of_zero_le (show 0 ≤ k by omega)
    have hcv := fun w h => wrong_any A n cap l k w h
    rw [hv] at hcv
    have Hv := Lib.hid hv; clear hv
    have Hcv := Lib.hid hcv; clear hcv
    by_cases hlt : (n : Int) < (k : Int)
    · have HJ := Lib.hid (show rjoinF l k = (0, 21) by unfold rjoinF; rw [if_pos Hv.out, if_pos (by rw [hl.len]; exact hlt)])
      go_enter Try.func16, Try.ntmps16
      go_wp2_with (go_at_call 42; refine (Hcv.out _ hl).mono ?_; rintro e w' ⟨rfl, hb1⟩)
      go_ret2
      exact ⟨by rw [HJ.out]; rfl, hb1⟩
    · have hon := fun w h => on_any A n cap l k w h (by omega) (by omega) hpt hnn
      cases hag : onFrom l k k (n - k)
      · have HJ := Lib.hid (show rjoinF l k = (0, 23) by unfold rjoinF; rw [if_pos Hv.out, if_neg (by rw [hl.len]; exact hlt), Int.toNat_natCast, hl.len, hag]; rfl)
        rw [hag] at hon
        have Hon := Lib.hid hon; clear hon hag
        go_enter Try.func16, Try.ntmps16
        go_wp2_with (first
          | (go_at_call 42; refine (Hcv.out _ hl).mono ?_; rintro e w1 ⟨rfl, hb1⟩)
          | (go_at_call 43; refine (Hon.out _ (hl.up (flat_lasts _) hb1)).mono ?_; rintro e w2 ⟨rfl, hb2⟩))
        go_ret2
        exact ⟨by rw [HJ.out]; rfl, hb1.trans (hb2.mono hb1.size)⟩
      · have HJ := Lib.hid (show rjoinF l k = (newtV (l.take k) k 0, 0) by unfold rjoinF; rw [if_pos Hv.out, if_neg (by rw [hl.len]; exact hlt), Int.toNat_natCast, hl.len, hag]; rfl)
        rw [hag] at hon
        have Hon := Lib.hid hon; clear hon hag
        go_enter Try.func16, Try.ntmps16
        go_wp2_with (first
          | (go_at_call 42; refine (Hcv.out _ hl).mono ?_; rintro e w1 ⟨rfl, hb1⟩)
          | (go_at_call 43; refine (Hon.out _ (hl.up (flat_lasts _) hb1)).mono ?_; rintro e w2 ⟨rfl, hb2⟩))
        go_ret2
        exact ⟨by rw [HJ.out]; rfl, hb1.trans (hb2.mono hb1.size)⟩
  · have HJ := Lib.hid (show rjoinF l k = (0, validF l k) by unfold rjoinF; rw [if_neg hv])
    have hne : (validF l k != 0) = true := by simpa [bne] using hv
    clear hv
    go_enter Try.func16, Try.ntmps16
    go_wp2_with (go_at_call 42; refine (wrong_any A n cap l k _ hl).mono ?_; rintro e w' ⟨rfl, hb1⟩)
    go_ret2
    exact ⟨by rw [HJ.out]; rfl, hb1⟩

/-- what the reference's Fits returns -/
def rfitsF (l : List (Int × Int)) (k secret : Int) : Bool := if validF l k = 0 then inF secret && onFrom ((0, secret) :: l) k.toNat k.toNat (l.length + 1 - k.toNat) else false

theorem rfits_any (A : Option Addr) (n cap : Nat) (l : List (Int × Int)) (k secret : Int) (w : World) (hl : RdP w w.heap.size A n cap l) (hn : n ≤ 900000) :
  Calls Try.prog 19 #[.slice A n cap, .int .i64 k, .int .i64 secret] w fun e w' => e = .returned (.bool (rfitsF l k secret)) ∧ Below w.heap.size w w' := by
  obtain ⟨hn1, hn2, hn3⟩ := hl.caps
  have hlen := hl.len
  by_cases hv : validF l k = 0
  · obtain ⟨k1, k2, hok, _⟩ := valid_zero hv
    have hpt : ∀ s ∈ l, ptOk s := fun s hs => shOk_pt (hok s hs)
    obtain ⟨k, rfl⟩ := Int.eq_ofNat_of_zero_le (show 0 ≤ k by omega)
    have hcv := fun w h => wrong_any A n cap l k w h
    rw [hv] at hcv
    have Hv := Lib.hid hv; clear hv
    have Hcv := Lib.hid hcv; clear hcv
    have Hlen := Lib.hid hlen; clear hlen
    by_cases hs1 : secret < 0
    · have d1 : decide (secret < 0) = true := by simpa using hs1
      have HJ := Lib.hid (show rfitsF l k secret = false by unfold rfitsF; rw [if_pos Hv.out, show inF secret = false by simp [inF]; omega]; rfl)
      go_enter Try.func19, Try.ntmps19
      go_wp2_with (go_at_call 42; refine (Hcv.out _ hl).mono ?_; rintro e w' ⟨rfl, hb1⟩)
      go_ret
      exact ⟨congrArg (fun z => Ending.returned (Value.bool z)) HJ.out.symm, hb1⟩
    have d1 : decide (secret < 0) = false := by simpa using hs1
    by_cases hs2 : 2147483647 ≤ secret
    · have d2 : decide (2147483647 ≤ secret) = true := by simpa using hs2
      have HJ := Lib.hid (show rfitsF l k secret = false by unfold rfitsF; rw [if_pos Hv.out, show inF secret = false by simp [inF]; omega]; rfl)
      go_enter Try.func19, Try.ntmps19
      go_wp2_with (go_at_call 42; refine (Hcv.out _ hl).mono ?_; rintro e w' ⟨rfl, hb1⟩)
      go_ret
      exact ⟨congrArg (fun z => Ending.returned (Value.bool z)) HJ.out.symm, hb1⟩
    have d2 : decide (2147483647 ≤ secret) = false := by simpa using hs2
    have hpt2 : ∀ s ∈ [(0, secret)] ++ l, ptOk s := by
      intro s hs
      rcases List.mem_cons.1 hs with rfl | hs
      · simp only [ptOk]; omega
      · exact hpt s hs
    have HJ := Lib.hid (show rfitsF l k secret = onFrom ([(0, secret)] ++ l) k k (1 + n - k) by unfold rfitsF; rw [if_pos Hv.out, show inF secret = true by simp [inF]; omega, Hlen.out, Int.toNat_natCast, Nat.add_comm n 1]; rfl)
    obtain ⟨i0, hi0, hz0, hz1, hz2⟩ := info_parts share_info
    have hag : ∀ (A1 : Option Addr) (cap1 : Nat) (W : World), RdP W W.heap.size A1 (1 + n) cap1 ([(0, secret)] ++ l) → Calls Try.prog 43 #[.slice A1 (1 + n) cap1, .int .i64 k] W fun e w' => ∃ z, e = .returned (.tuple #[.int .i64 z, .bool (onFrom ([(0, secret)] ++ l) k k (1 + n - k))]) ∧ Below W.heap.size W w' := by
      intro A1 cap1 W hrd
      by_cases hkn : k ≤ 1 + n
      · exact (on_any A1 (1 + n) cap1 _ k W hrd (by omega) hkn hpt2 (by omega)).mono fun _ _ ⟨h1, h2⟩ => ⟨_, h1, h2⟩
      · refine (on_few A1 (1 + n) cap1 _ k W hrd (by omega) (by omega) hpt2 (by omega)).mono fun _ _ ⟨h1, h2⟩ => ⟨newtV ([(0, secret)] ++ l) (1 + n) 0, h1.trans ?_, h2⟩
        rw [show 1 + n - k = 0 by omega]; rfl
    have Hag := Lib.hid hag; clear hag
    go_enter Try.func19, Try.ntmps19
    go_wp2_with (first
      | (go_at_call 42; refine (Hcv.out _ hl).mono ?_; rintro e w1 ⟨rfl, hb1⟩)
      | (at_builtin; have hl3 := Own.lit (w := w1) (n := 1) (e := 39) pSized hb1.size [(0, secret)] #[.int .i64 0, .int .i64 secret] rfl rfl (by omega); refine wpList_app _ pSized rfl _ _ 22 rfl w.heap.size 39 i0 _ 16 Try.underlying22 hi0 hz0 hz1 hz2 rfl _ [(0, secret)] rfl hl3 w.heap.size A n cap l rfl (hl.below (flat_lasts _) (hb1.alloc hb1.size _) (Nat.le_refl _) (Nat.le_refl _)) (by simp only [List.length_singleton, maxLen]; omega) (by simp only [List.length_singleton]; omega) (by have := hb1.size; simp; omega) ?_
         intro v3 w3 hown3 hg3 _
         have hb3 : Below w.heap.size w w3 := hl3.grow (Nat.le_refl _) (hb1.alloc hb1.size _) (by have := hb1.size; simp; omega) hg3
         obtain ⟨A3, cap3, hv3, hrd3⟩ := hown3.rd pSized (by simp [Hlen.out]; omega)
         have e3 : ([(0, secret)] ++ l).length = 1 + n := by simp [Hlen.out]; omega
         rw [e3] at hv3 hrd3
         clear e3
         subst hv3)
      | (go_at_call 43; refine (Hag.out A3 cap3 _ hrd3).mono ?_; rintro e w4 ⟨z, rfl, hb4⟩))
    go_ret
    exact ⟨congrArg (fun z => Ending.returned (Value.bool z)) HJ.out.symm, hb3.trans (hb4.mono hb3.size)⟩
  · have HJ := Lib.hid (show rfitsF l k secret = false by unfold rfitsF; rw [if_neg hv])
    have hne : (validF l k != 0) = true := by simpa [bne] using hv
    clear hv
    go_enter Try.func19, Try.ntmps19
    go_wp2_with (go_at_call 42; refine (wrong_any A n cap l k _ hl).mono ?_; rintro e w' ⟨rfl, hb1⟩)
    go_ret
    exact ⟨congrArg (fun z => Ending.returned (Value.bool z)) HJ.out.symm, hb1⟩
end Go.Proofs.Ytfidjhhpcjmioaa
