/- Walks over small functions of the statements of layer 34: chosen, Same, scene, few, different. Conditions stand in each theorem. -/
import Derived.Test.YtfidjhhpcjmioaaCrd
import Derived.Test.YtfidjhhpcjmioaaL3
namespace Go.Proofs.Ytfidjhhpcjmioaa
open Go.RowKit
set_option linter.unusedVariables false

theorem bchosen_any (A U : Option Addr) (n m cap capu : Nat) (l : List (Int × Int)) (order : List Int) (w : World) (hl : RdP w w.heap.size A n cap l) (ho : RdU w w.heap.size U m capu order) (hu : ∀ x ∈ order, 0 ≤ x ∧ x ≤ 255) (hm : m ≤ 1000000) :
  Calls Try.prog 37 #[.slice A n cap, .slice U m capu] w fun e w' => ∃ v, e = .returned v ∧ Own 2 pEnc w' w.heap.size 39 v (if n = 0 then [] else chosenF l order m) ∧ Below w.heap.size w w' := by
  obtain ⟨hn1, hn2, hn3⟩ := hl.caps
  obtain ⟨hm1, hm2, hm3⟩ := ho.caps
  obtain ⟨i0, hi0, hz0, hz1, hz2⟩ := info_parts share_info
  have Hlen := Lib.hid hl.len
  by_cases hn : n = 0
  · subst hn
    go_enter Try.func37, Try.ntmps37
    go_wp2
    have hd : decide ((0 : Int) < ((0 : Nat) : Int)) = false := rfl
    refine wp_loop_rounds 1 ?_; rw [rounds_succ]
    go_wp2
    all_goals
      go_ret
      exact ⟨_, rfl, Own.nil, Below.refl _ _⟩
  · have hnp : (0 : Int) < (n : Int) := by omega
    rw [if_neg hn]
    go_enter Try.func37, Try.ntmps37
    go_wp2
    go_loopg [5, 6] m (fun gk v i wr => ∃ k : Nat, k ≤ m ∧ gk = m - k ∧ i = .int .i64 k ∧ Own 2 pEnc wr w.heap.size 39 v (chosenF l order k) ∧ Below w.heap.size w wr)
    case atStart => exact ⟨0, Nat.zero_le _, rfl, rfl, Own.nil, Below.refl _ _⟩
    case round =>
      obtain ⟨k, hk, rfl, rfl, hown, hb⟩ := hrel
      by_cases hlt : k < m
      · have hd1 : decide (k < m) = true := by simpa using hlt
        obtain ⟨b, off, x, rfl, hbB, hx, c0⟩ := (ho.below (flat_lasts _) hb (Nat.le_refl _) (Nat.le_refl _)).atU hlt
        obtain ⟨x1, x2⟩ := hu _ (List.mem_of_getElem? hx)
        have Hx := Lib.hid (fi_eq hx); clear hx
        obtain ⟨x, rfl⟩ := Int.eq_ofNat_of_zero_le x1
        have hxn : x % n < n := Nat.mod_lt _ (by omega)
        obtain ⟨b2, off2, sx, sy, rfl, hbB2, hs, d0, d1⟩ := (hl.below (flat_lasts _) hb (Nat.le_refl _) (Nat.le_refl _)).atP hxn
        have Hs : Hid ((fx l (fi order k % l.length).toNat, fy l (fi order k % l.length).toNat) = (sx, sy)) := by
          have e : (fi order k % l.length).toNat = x % n := by rw [Hx.out, Hlen.out]; omega
          show _ = _
          rw [e, fx_eq hs, fy_eq hs]
        have Hst := Lib.hid (show chosenF l order (k + 1) = if (sx, sy) ∈ chosenF l order k then chosenF l order k else chosenF l order k ++ [(sx, sy)] by rw [chosenF, Hs.out])
        clear hs Hx
        have hcl := chosenF_len l order k
        obtain ⟨out, hout⟩ : ∃ out, out = chosenF l order k := ⟨_, rfl⟩
        rw [← hout] at hown hcl Hst
        have Hout := Lib.hid hout; clear hout
        obtain ⟨Av, cv, rfl, rdv⟩ := hown.rd pSized (by omega)
        obtain ⟨N, hN⟩ : ∃ N, N = out.length := ⟨_, rfl⟩
        rw [← hN] at rdv hcl ⊢
        rw [← hN] at hown
        have HN := Lib.hid hN; clear hN
        obtain ⟨wo, rfl⟩ : ∃ wo : World, wo = wr := ⟨_, rfl⟩
        have hd2 : decide (0 < n) = true := by simp; omega
        have hsz := hb.size
        have hbo : b2 < wo.heap.size := by omega
        go_wp2
        clear hd1 hd2
        go_loopg [8, 9] N (fun gk f i wi => ∃ j : Nat, ∃ is : Bool, j ≤ N ∧ gk = N - j ∧ i = .int .i64 j ∧ f = .bool is ∧ (is = decide ((sx, sy) ∈ out.take j)) ∧ Below (wo.heap.size + 1) (wo.alloc (Obj.cells #[Value.int IntKind.i64 sx, Value.int IntKind.i64 sy] 39)) wi)
        case atStart => exact ⟨0, false, Nat.zero_le _, rfl, rfl, rfl, rfl, Below.refl _ _⟩
        case round =>
          obtain ⟨j, is, hj, rfl, rfl, rfl, his, hbi⟩ := hrel
          have His := Lib.hid his; clear his
          have hbw : Below w.heap.size w wr := (hb.alloc hb.size _).trans (hbi.mono (by omega))
          have hbw1 : Below (wo.alloc (Obj.cells #[Value.int IntKind.i64 sx, Value.int IntKind.i64 sy] 39)).heap.size (wo.alloc (Obj.cells #[Value.int IntKind.i64 sx, Value.int IntKind.i64 sy] 39)) wr := by simpa using hbi
          have hownw := (hown.alloc (Obj.cells #[Value.int IntKind.i64 sx, Value.int IntKind.i64 sy] 39)).below hbw1
          have ca : wr.cell? ⟨wo.heap.size, 0, none⟩ = some (.int .i64 sx) := (hbi.cell (by simp)).trans (by simp)
          have cb : wr.cell? ⟨wo.heap.size, 1, none⟩ = some (.int .i64 sy) := (hbi.cell (by simp)).trans (by simp)
          have hszw : wo.heap.size + 1 ≤ wr.heap.size := by have := hbi.size; simpa using this
          clear hbw1
          by_cases hlj : j < N
          · have hji : (j : Int) < (N : Int) := by omega
            have hj0 : (0 : Int) ≤ (j : Int) := by omega
            obtain ⟨bu, ou, ux, uy, rfl, hbu, hux, e0, e1⟩ := (rdv.below (flat_lasts _) ((Below.refl wo.heap.size wo).alloc (Nat.le_refl _) (Obj.cells #[Value.int IntKind.i64 sx, Value.int IntKind.i64 sy] 39) |>.trans (hbi.mono (by omega))) (Nat.le_refl _) (Nat.le_refl _)).atP hlj
            have Hu := Lib.hid hux; clear hux
            have Hstep := Lib.hid (show decide ((sx, sy) ∈ out.take (j + 1)) = (is || (ux == sx && uy == sy)) by
              rw [mem_take_step Hu.out, His.out])
            cases is
            · cases hx : (ux == sx)
              · have HF := Lib.hid (show false = decide ((sx, sy) ∈ out.take (j + 1)) by rw [Hstep.out, hx]; rfl)
                go_wp2_with fail
                go_quiet (fail)
                go_wp2
                go_roundg (N - (j + 1))
                case rel => exact ⟨j + 1, _, by omega, rfl, by go_num, rfl, HF.out, below_drewN hbi _⟩
                case measure => omega
              · cases hy : (uy == sy)
                · have HF := Lib.hid (show false = decide ((sx, sy) ∈ out.take (j + 1)) by rw [Hstep.out, hx, hy]; rfl)
                  go_wp2_with fail
                  go_quiet (fail)
                  go_wp2
                  go_roundg (N - (j + 1))
                  case rel => exact ⟨j + 1, _, by omega, rfl, by go_num, rfl, HF.out, below_drewN hbi _⟩
                  case measure => omega
                · have HF := Lib.hid (show true = decide ((sx, sy) ∈ out.take (j + 1)) by rw [Hstep.out, hx, hy]; rfl)
                  go_wp2_with fail
                  go_quiet (fail)
                  go_wp2
                  go_roundg (N - (j + 1))
                  case rel => exact ⟨j + 1, _, by omega, rfl, by go_num, rfl, HF.out, below_drewN hbi _⟩
                  case measure => omega
            · have HF := Lib.hid (show true = decide ((sx, sy) ∈ out.take (j + 1)) by rw [Hstep.out]; rfl)
              go_wp2_with fail
              go_quiet (fail)
              go_wp2
              go_roundg (N - (j + 1))
              case rel => exact ⟨j + 1, _, by omega, rfl, by go_num, rfl, HF.out, below_drewN hbi _⟩
              case measure => omega
          · have e : j = N := by omega
            subst e
            have His2 := Lib.hid (show is = decide ((sx, sy) ∈ out) by rw [His.out, HN.out, List.take_length])
            cases is
            · have Hnext := Lib.hid (show chosenF l order (k + 1) = out ++ [(sx, sy)] by
                rw [Hst.out, if_neg]; have := His2.out; simpa using this)
              have hl3 := Rd.new1 pSized wr (sx, sy) #[.int .i64 sx, .int .i64 sy] rfl 39
              go_wp2_with (at_builtin; refine wpList_app _ pSized rfl _ _ 22 rfl w.heap.size 39 i0 _ 16 Try.underlying22 hi0 hz0 hz1 hz2 rfl _ out rfl (hownw.alloc _) _ _ 1 1 _ rfl hl3 (by rw [← HN.out]; simp only [maxLen]; omega) (by rw [← HN.out]; omega) (by have := hbw.size; simp; omega) ?_
                           intro v3 w3 hown3 hg3 _
                           have hb3 : Below w.heap.size w w3 := Own.grow (hownw.alloc _) (Nat.le_refl _) (hbw.alloc hbw.size _) (by have := hbw.size; simp; omega) hg3)
              go_roundg (m - (k + 1))
              case rel => exact ⟨k + 1, by omega, rfl, by go_num, by rw [Hnext.out]; exact hown3, hb3⟩
              case measure => omega
            · have Hnext := Lib.hid (show chosenF l order (k + 1) = out by
                rw [Hst.out, if_pos]; have := His2.out; simpa using this.symm)
              go_wp2
              go_roundg (m - (k + 1))
              case rel => exact ⟨k + 1, by omega, rfl, by go_num, by rw [Hnext.out]; exact hownw, hbw⟩
              case measure => omega
      · have e : k = m := by omega
        subst e
        go_wp2
        go_ret
        exact ⟨_, rfl, hown, hb⟩
theorem bsame_any (A B : Option Addr) (n m cap capb : Nat) (a b : List (Int × Int)) (w : World) (ha : RdP w w.heap.size A n cap a) (hb : RdP w w.heap.size B m capb b) :
  Calls Try.prog 31 #[.slice A n cap, .slice B m capb] w fun e w' => e = .returned (.bool (decide (a = b))) ∧ Below w.heap.size w w' := by
  obtain ⟨hn1, hn2, hn3⟩ := ha.caps
  obtain ⟨hm1, hm2, hm3⟩ := hb.caps
  by_cases hnm : n = m
  · subst hnm
    have Ha := Lib.hid ha.len
    have Hb := Lib.hid hb.len
    go_enter Try.func31, Try.ntmps31
    go_wp2
    go_loopg [5] n (fun gk i wr => ∃ k : Nat, k ≤ n ∧ gk = n - k ∧ i = .int .i64 k ∧ (∀ j, j < k → a[j]? = b[j]?) ∧ ∃ q, wr = w.drewN q)
    case atStart => exact ⟨0, Nat.zero_le _, rfl, rfl, fun _ h => absurd h (by omega), 0, rfl⟩
    case round =>
      obtain ⟨k, hk, rfl, rfl, he, q, rfl⟩ := hrel
      have He := Lib.hid he; clear he
      by_cases hlt : k < n
      · obtain ⟨b1, off, x, y, rfl, hbB, hxy, c0, c1⟩ := ha.atP hlt
        obtain ⟨b2, off2, u, v, rfl, hbB2, huv, d0, d1⟩ := hb.atP hlt
        have hki : (k : Int) < (n : Int) := by omega
        have hk0 : (0 : Int) ≤ (k : Int) := by omega
        have Hxy := Lib.hid hxy; have Huv := Lib.hid huv; clear hxy huv
        cases hx : (x == u)
        · have HF := Lib.hid (show decide (a = b) = false by
            rw [decide_eq_false_iff_not]; intro e
            have h1 := Hxy.out; rw [e, Huv.out] at h1; simp at h1 hx; exact hx h1.1.symm)
          go_wp2_with fail
          go_quiet (fail)
          go_wp2
          go_ret
          exact ⟨congrArg (fun z => Ending.returned (Value.bool z)) HF.out.symm, below_drewN (below_drewN (Below.refl _ _) _) _⟩
        · cases hy : (y == v)
          · have HF := Lib.hid (show decide (a = b) = false by
              rw [decide_eq_false_iff_not]; intro e
              have h1 := Hxy.out; rw [e, Huv.out] at h1; simp at h1 hy; exact hy h1.2.symm)
            go_wp2_with fail
            go_quiet (fail)
            go_wp2
            go_ret
            exact ⟨congrArg (fun z => Ending.returned (Value.bool z)) HF.out.symm, below_drewN (below_drewN (Below.refl _ _) _) _⟩
          · have HE := Lib.hid (show ∀ j, j < k + 1 → a[j]? = b[j]? from fun j hj => by
              by_cases e : j = k
              · subst e; rw [Hxy.out, Huv.out]; simp at hx hy; rw [hx, hy]
              · exact He.out j (by omega))
            go_wp2_with fail
            go_quiet (fail)
            go_wp2
            go_roundg (n - (k + 1))
            case rel => exact ⟨k + 1, by omega, rfl, by go_num, HE.out, _, rfl⟩
            case measure => omega
      · have e : k = n := by omega
        subst e
        have HF := Lib.hid (show decide (a = b) = true by
          rw [decide_eq_true_iff]
          apply List.ext_getElem?
          intro j
          by_cases hj : j < k
          · exact He.out j hj
          · rw [List.getElem?_eq_none (by have := Ha.out; omega), List.getElem?_eq_none (by have := Hb.out; omega)])
        go_wp2
        go_ret
        exact ⟨congrArg (fun z => Ending.returned (Value.bool z)) HF.out.symm, below_drewN (Below.refl _ _) _⟩
  · have HF := Lib.hid (show decide (a = b) = false by
      rw [decide_eq_false_iff_not]; intro e; apply hnm; rw [← ha.len, ← hb.len, e])
    have hne : ((n : Int) != (m : Int)) = true := by simp [bne]; omega
    clear hnm
    go_enter Try.func31, Try.ntmps31
    go_wp2
    go_ret
    exact ⟨congrArg (fun z => Ending.returned (Value.bool z)) HF.out.symm, Below.refl _ _⟩


theorem scene_any (t k : Int) (w : World) (ht : 0 ≤ t ∧ t ≤ 255) (hk : 0 ≤ k ∧ k ≤ 255) :
  Calls Try.prog 35 #[.int .u8 t, .int .u8 k] w fun e w' => e = .returned (.tuple #[.int .i64 (1 + t % 20), .int .i64 (1 + k % (1 + t % 20))]) ∧ Below w.heap.size w w' := by
  obtain ⟨k1, k2⟩ := hk
  obtain ⟨t1, t2⟩ := ht
  go_enter Try.func35, Try.ntmps35
  go_wp2_with fail
  have r1 := Int.emod_nonneg k (show 1 + t % 20 ≠ 0 by omega)
  have r2 := Int.emod_lt_of_pos k (show 0 < 1 + t % 20 by omega)
  have w1 : IntKind.i64.wrap k = k := IntWalk.i64_in _ (by omega)
  have w2 : IntKind.i64.wrap (1 + k % (1 + t % 20)) = 1 + k % (1 + t % 20) := IntWalk.i64_in _ (by omega)
  have w3 : k.tmod (1 + t % 20) = k % (1 + t % 20) := Int.tmod_eq_emod_of_nonneg (by omega)
  go_quiet (fail)
  go_wp2
  go_ret2
  exact ⟨rfl, below_drewN (Below.refl _ _) _⟩

/-- some Boolean -/
def SomeB (w : World) (e : Ending) (w' : World) : Prop := ∃ b : Bool, e = .returned (.bool b) ∧ Below w.heap.size w w'
theorem few_any (A : Option Addr) (n cap : Nat) (l : List Crd) (w : World) (hl : RdC w w.heap.size A n cap l) :
  Calls Try.prog 24 #[.slice A n cap] w (SomeB w) := by
  have hcaps := hl.caps
  go_enter Try.func24, Try.ntmps24
  go_wp2
  go_loopg [3] n (fun gk i wr => ∃ k : Nat, k ≤ n ∧ gk = n - k ∧ i = .int .i64 k ∧ Below w.heap.size w wr)
  case atStart => exact ⟨0, Nat.zero_le _, rfl, rfl, Below.refl _ _⟩
  case round =>
    obtain ⟨k, hk, rfl, rfl, hb⟩ := hrel
    by_cases hlt : k < n
    · obtain ⟨b, off, m, sh, A', n', cap', rfl, hbB, hcd, c0, c1, hsh⟩ := (hl.below cdE_lasts hb (Nat.le_refl _) (Nat.le_refl _)).atC hlt
      have hcaps' := hsh.caps
      have hki : (k : Int) < (n : Int) := by omega
      have hk0 : (0 : Int) ≤ (k : Int) := by omega
      clear hcd
      by_cases h30 : (k : Int) < 30
      · by_cases h25 : (25 : Int) < (n' : Int)
        · go_wp2
          go_ret
          exact ⟨_, rfl, hb⟩
        · go_wp2
          go_roundg (n - (k + 1))
          case rel => exact ⟨k + 1, by omega, rfl, by go_num, hb⟩
          case measure => omega
      · go_wp2
        go_ret
        exact ⟨_, rfl, hb⟩
    · have e : k = n := by omega
      subst e
      go_wp2
      go_ret
      exact ⟨_, rfl, hb⟩

/-- the votes -/
def vAt (l : List Vt) (k : Nat) : Vt := l.getD k (0, false, 0)
theorem vAt_eq {l : List Vt} {k : Nat} {c : Vt} (h : l[k]? = some c) : vAt l k = c := by simp [vAt, h]
/-- the first n are members, and different -/
def diffN (l : List Vt) : Nat → Bool
  | 0 => true
  | n + 1 => diffN l n && (memF (vAt l n).1 && decide (∀ k, k < n → (vAt l k).1 ≠ (vAt l n).1))
theorem diffN_bad {l : List Vt} {k : Nat} (h : (memF (vAt l k).1 && decide (∀ j, j < k → (vAt l j).1 ≠ (vAt l k).1)) = false) : ∀ n, k < n → diffN l n = false
  | 0, hk => absurd hk (by omega)
  | n + 1, hk => by
    rw [diffN]
    by_cases e : k = n
    · subst e; rw [h, Bool.and_false]
    · rw [diffN_bad h n (by omega), Bool.false_and]
theorem different_any (A : Option Addr) (n cap : Nat) (l : List Vt) (w : World) (hl : RdV w w.heap.size A n cap l) :
  Calls Try.prog 34 #[.slice A n cap] w fun e w' => e = .returned (.bool (diffN l n)) ∧ Below w.heap.size w w' := by
  have hcaps := hl.caps
  go_enter Try.func34, Try.ntmps34
  go_wp2
  go_loopg [3] n (fun gk i wr => ∃ k : Nat, k ≤ n ∧ gk = n - k ∧ i = .int .i64 k ∧ diffN l k = true ∧ Below w.heap.size w wr)
  case atStart => exact ⟨0, Nat.zero_le _, rfl, rfl, rfl, Below.refl _ _⟩
  case round =>
    obtain ⟨k, hk, rfl, rfl, hd, hb⟩ := hrel
    by_cases hlt : k < n
    · have hrd := hl.below (flat_lasts _) hb (Nat.le_refl _) (Nat.le_refl _)
      obtain ⟨b, off, m, y, s, rfl, hbB, hv, c0, c1, c2⟩ := hrd.atV hlt
      have hbad : (memF m && decide (∀ j, j < k → (vAt l j).1 ≠ m)) = false → diffN l n = false := fun h => diffN_bad (k := k) (by rw [vAt_eq hv]; exact h) n hlt
      have hgood : memF m = true → (∀ j, j < k → (vAt l j).1 ≠ m) → diffN l (k + 1) = true := fun h1 h2 => by
        rw [diffN, hd, vAt_eq hv, h1]; simpa using h2
      have Hbad := Lib.hid hbad; have Hgood := Lib.hid hgood
      have Hd := Lib.hid hd
      have hki : (k : Int) < (n : Int) := by omega
      have hk0 : (0 : Int) ≤ (k : Int) := by omega
      clear hbad hgood hv hd
      by_cases h1 : m < 0
      · go_wp2
        go_ret
        exact ⟨congrArg (fun z => Ending.returned (Value.bool z)) (Hbad.out (by simp [memF]; omega)).symm, hb⟩
      by_cases h2 : 4000 ≤ m
      · go_wp2
        go_ret
        exact ⟨congrArg (fun z => Ending.returned (Value.bool z)) (Hbad.out (by simp [memF]; omega)).symm, hb⟩
      have d2 : decide (4000 ≤ m) = false := by simp; omega
      have d1 : decide (m < 0) = false := by simp; omega
      go_wp2
      clear d1 d2
      obtain ⟨wo, rfl⟩ : ∃ wo : World, wo = wr := ⟨_, rfl⟩
      go_loopg [4] k (fun gk i wi => ∃ j : Nat, j ≤ k ∧ gk = k - j ∧ i = .int .i64 j ∧ (∀ t, t < j → (vAt l t).1 ≠ m) ∧ Below wo.heap.size wo wi)
      case atStart => exact ⟨0, Nat.zero_le _, rfl, rfl, (fun t h => absurd h (by omega)), Below.refl _ _⟩
      case round =>
        obtain ⟨j, hj, rfl, rfl, hall, hbi⟩ := hrel
        have Hall := Lib.hid hall; clear hall
        have hbw : Below w.heap.size w wr := hb.trans (hbi.mono hb.size)
        by_cases hlj : j < k
        · obtain ⟨b', off', m', y', s', he, hbB', hv', e0, e1, e2⟩ := (hl.below (flat_lasts _) hbw (Nat.le_refl _) (Nat.le_refl _)).atV (show j < n by omega)
          simp at he; obtain ⟨rfl, rfl⟩ := he
          have c0' : wr.cell? ⟨b, off + k * 3, none⟩ = some (.int .i64 m) := (hbi.cell (by show b < _; have := hb.size; omega)).trans c0
          have Hv := Lib.hid (vAt_eq hv')
          have hji : (j : Int) < (n : Int) := by omega
          have hj0 : (0 : Int) ≤ (j : Int) := by omega
          clear hv' c0 c1 c2 e1 e2
          by_cases heq : m' = m
          · subst heq
            go_wp2_with fail
            go_quiet (fail)
            go_wp2
            go_ret
            exact ⟨congrArg (fun z => Ending.returned (Value.bool z)) (Hbad.out (by
              rw [Bool.and_eq_false_iff]; right
              rw [decide_eq_false_iff_not]
              intro h
              exact h j hlj (by rw [Hv.out]))).symm, below_drewN hbw _⟩
          · have hne : (m' == m) = false := by simpa using heq
            go_wp2_with fail
            go_quiet (fail)
            go_wp2
            go_roundg (k - (j + 1))
            case rel => exact ⟨j + 1, by omega, rfl, by go_num, (fun t ht => by
              by_cases e : t = j
              · subst e; rw [Hv.out]; exact heq
              · exact Hall.out t (by omega)), below_drewN hbi _⟩
            case measure => omega
        · have e : j = k := by omega
          subst e
          go_wp2
          go_roundg (n - (j + 1))
          case rel => exact ⟨j + 1, by omega, rfl, by go_num, Hgood.out (by simp [memF]; omega) Hall.out, hbw⟩
          case measure => omega
    · have e : k = n := by omega
      subst e
      go_wp2
      go_ret
      exact ⟨by rw [hd]; rfl, hb⟩
end Go.Proofs.Ytfidjhhpcjmioaa
