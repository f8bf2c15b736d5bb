/- Walks over before and sums of the statements of layer 24. Conditions stand in each theorem. -/
import Derived.Test.YtmcamadcoglodaaS3
namespace Go.Proofs.Ytmcamadcoglodaa
open Go.RowKit
set_option linter.unusedVariables false

/-- a list comes before another one -/
def BefL (a b : List Int) : Prop := ∃ r, r < a.length ∧ r < b.length ∧ (∀ q, q < r → gi a q = gi b q) ∧ gi a r < gi b r
def BefPost (w : World) (a b : List Int) (e : Ending) (w' : World) : Prop := ∃ v : Bool, e = .returned (.bool v) ∧ (v = true → BefL a b) ∧ ∃ q, w' = w.drewN q
set_option maxRecDepth 100000 in
set_option maxHeartbeats 1000000 in
theorem before_any (A B : Option Addr) (n m cap capb : Nat) (a b : List Int) (w : World) (ha : RdI w w.heap.size A n cap a) (hb : RdI w w.heap.size B m capb b) :
    Calls Try.prog 21 #[.slice A n cap, .slice B m capb] w (BefPost w a b) := by
  have h1 := ha.caps
  have h2 := hb.caps
  have La := Lib.hid ha.len
  have Lb := Lib.hid hb.len
  have Hno := Lib.hid (fun w' (h : ∃ q, w' = w.drewN q) => (show BefPost w a b (.returned (.bool false)) w' from ⟨false, rfl, (fun h => by cases h), h⟩))
  have Hyes := Lib.hid (fun w' (h : ∃ q, w' = w.drewN q) (hB : BefL a b) => (show BefPost w a b (.returned (.bool true)) w' from ⟨true, rfl, (fun _ => hB), h⟩))
  generalize BefPost w a b = Q at *
  go_enter Try.func21, Try.ntmps21
  go_wp2
  go_loopg [5] n (fun gk i wr => ∃ k : Nat, k ≤ n ∧ gk = n - k ∧ i = .int .i64 k ∧ (∀ j, j < k → gi a j = gi b j) ∧ ∃ q, wr = w.drewN q)
  case atStart => exact ⟨0, Nat.zero_le _, rfl, rfl, (fun j h => absurd h (by omega)), dr_zero w⟩
  case round =>
    obtain ⟨k, hk, rfl, rfl, hall, hq⟩ := hrel
    have Hall := Lib.hid hall; have Hq := Lib.hid hq; clear hall hq
    by_cases hlt : k < n ∧ k < m
    · obtain ⟨hlt, hlt2⟩ := hlt
      obtain ⟨ba, oa, x, rfl, hba, hx, c0⟩ := ha.atI hlt
      obtain ⟨bb, ob, y, rfl, hbb, hy, d0⟩ := hb.atI hlt2
      have hki : (k : Int) < (n : Int) := by omega
      have hki2 : (k : Int) < (m : Int) := by omega
      have hk0 : (0 : Int) ≤ (k : Int) := by omega
      have g1 : decide (k < n) = true := by simp; omega
      have g2 : decide (k < m) = true := by simp; omega
      have c0' := (dr_cell Hq.out ⟨ba, oa + k, none⟩).trans c0
      have d0' := (dr_cell Hq.out ⟨bb, ob + k, none⟩).trans d0
      have Hx := Lib.hid (gi_eq hx); have Hy := Lib.hid (gi_eq hy)
      clear hx hy
      by_cases hxy : x = y
      · subst hxy
        have hne : (x != x) = false := by simp
        go_wp2_with fail
        go_quiet (fail)
        go_wp2
        go_roundg (n - (k + 1))
        case rel => exact ⟨k + 1, by omega, rfl, by go_num, (fun j hj => by
          by_cases e : j = k
          · subst e; rw [Hx.out, Hy.out]
          · exact Hall.out j (by omega)), dr_more Hq.out _⟩
        case measure => omega
      · have hne : (x != y) = true := by simpa using hxy
        by_cases hl : x < y
        · have hd : decide (x < y) = true := by simpa using hl
          have HB := Lib.hid (show BefL a b from ⟨k, by rw [La.out]; exact hlt, by rw [Lb.out]; exact hlt2, Hall.out, by rw [Hx.out, Hy.out]; exact hl⟩)
          go_wp2_with fail
          go_quiet (fail)
          rename_i nq
          have hq2 := dr_more Hq.out nq
          have c1' := (dr_cell hq2 ⟨ba, oa + k, none⟩).trans c0
          have d1' := (dr_cell hq2 ⟨bb, ob + k, none⟩).trans d0
          have Hq2 := Lib.hid hq2
          clear hq2
          go_wp2_with fail
          go_quiet (fail)
          go_wp2
          exact Hyes.out _ (dr_more Hq2.out _) HB.out
        · have hd : decide (x < y) = false := by simpa using hl
          go_wp2_with fail
          go_quiet (fail)
          rename_i nq
          have hq2 := dr_more Hq.out nq
          have c1' := (dr_cell hq2 ⟨ba, oa + k, none⟩).trans c0
          have d1' := (dr_cell hq2 ⟨bb, ob + k, none⟩).trans d0
          have Hq2 := Lib.hid hq2
          clear hq2
          go_wp2_with fail
          go_quiet (fail)
          go_wp2
          exact Hno.out _ (dr_more Hq2.out _)
    · have hd : decide (k < n) = false ∨ (decide (k < n) = true ∧ decide (k < m) = false) := by simp only [decide_eq_true_eq, decide_eq_false_iff_not]; omega
      rcases hd with hd | ⟨hd, hd2⟩
      all_goals
        go_wp2
        exact Hno.out _ Hq.out

set_option maxRecDepth 100000 in
set_option maxHeartbeats 2000000 in
theorem sums_any (A A1 A2 A3 : Option Addr) (n cap n1 cap1 n2 cap2 n3 cap3 : Nat) (cl : List (List Int)) (ta R K : List Int) (w : World) (hl : RdII w w.heap.size A n cap cl) (ht : RdI w w.heap.size A1 n1 cap1 ta) (hR : RdI w w.heap.size A2 n2 cap2 R) (hK : RdI w w.heap.size A3 n3 cap3 K) (hc : ChkP cl ta R K) :
    Calls Try.prog 20 #[.slice A n cap, .agg #[.slice A1 n1 cap1, .slice A2 n2 cap2, .slice A3 n3 cap3], .int .i64 (costV cl ta)] w fun e w' => e = .returned (.bool true) ∧ Below w.heap.size w w' := by
  have hcapR := hR.caps
  have hcapK := hK.caps
  have hlR := hR.len
  have hlK := hK.len
  have hE : costE cl ta = 0 := by rw [costE, if_pos (okC_iff.2 ⟨hc.right, hc.ass⟩)]
  have hV : costV cl ta = sumN (gi R) n2 + sumN (gi K) n3 := by
    rw [costV, if_pos (okC_iff.2 ⟨hc.right, hc.ass⟩), (assC_iff.1 hc.ass).1]
    have := (chk_ce hc).sum
    rw [← hlR, ← hlK, hc.lr, hc.lk]
    exact this
  obtain ⟨⟨m1, m20⟩, ⟨v1, v40⟩, -⟩ := rightC_iff.1 hc.right
  have hn2 : n2 ≤ 20 := by rw [← hlR, hc.lr]; exact m20
  have hn3 : n3 ≤ 40 := by rw [← hlK, hc.lk]; exact v40
  have HbR := Lib.hid (show ∀ k, k ≤ n2 → -(1099511627776 * (k : Int)) ≤ sumN (gi R) k ∧ sumN (gi R) k ≤ 1099511627776 * (k : Int) from fun k => by
    induction k with
    | zero => intro _; simp [sumN]
    | succ k ih =>
      intro hk
      have h1 := ih (by omega)
      have h2 := hc.rb k (by rw [← hc.lr, hlR]; omega)
      rw [sumN]; omega)
  have HbK := Lib.hid (show ∀ k, k ≤ n3 → -(1099511627776 * (k : Int)) ≤ sumN (gi K) k ∧ sumN (gi K) k ≤ 0 from fun k => by
    induction k with
    | zero => intro _; simp [sumN]
    | succ k ih =>
      intro hk
      have h1 := ih (by omega)
      have h2 := hc.kb k (by rw [← hc.lk, hlK]; omega)
      rw [sumN]; omega)
  have HV := Lib.hid hV
  have Hcost := Lib.hid (fun w hl ht => pcost_any A A1 n cap n1 cap1 cl ta w hl ht)
  rw [hE] at Hcost
  obtain ⟨V, hVV⟩ : ∃ V, V = costV cl ta := ⟨_, rfl⟩
  rw [← hVV] at HV Hcost ⊢
  clear hV hE hc m1 m20 v1 v40 hVV hlR hlK
  go_enter Try.func20, Try.ntmps20
  have hb0 := (Below.refl w.heap.size w).alloc (Nat.le_refl _) (.cells #[.slice A1 n1 cap1, .slice A2 n2 cap2, .slice A3 n3 cap3] 25)
  have pm := Hb.new w #[.slice A1 n1 cap1, .slice A2 n2 cap2, .slice A3 n3 cap3] 25
  obtain ⟨gm, hgm⟩ : ∃ g, g = w.heap.size := ⟨_, rfl⟩
  rw [← hgm] at pm
  go_wp2_with fail
  rw [← hgm]
  generalize w.alloc (.cells #[.slice A1 n1 cap1, .slice A2 n2 cap2, .slice A3 n3 cap3] 25) = w1 at *
  have e0 := pm.cell (j := 0) (u := .slice A1 n1 cap1) rfl
  go_wp2_with fail

  refine (Hcost.out _ (hl.up ii_lasts hb0) (ht.up (flat_lasts _) hb0)).mono ?_
  rintro e w2 ⟨rfl, hb2⟩
  have hb := hb0.trans (hb2.mono hb0.size)
  have e1 := (pm.below hb2).cell (j := 1) (u := .slice A2 n2 cap2) rfl
  have e2 := (pm.below hb2).cell (j := 2) (u := .slice A3 n3 cap3) rfl
  have rR := hR.up (flat_lasts _) hb
  have rK := hK.up (flat_lasts _) hb
  have Hbel := Lib.hid hb
  clear hb hb0 hb2 e0 pm hgm
  go_wp2
  go_loopg [9, 10] n2 (fun gk s i wr => ∃ i' : Nat, i' ≤ n2 ∧ gk = n2 - i' ∧ i = .int .i64 i' ∧ s = .int .i64 (sumN (gi R) i') ∧ w2 = wr)
  case atStart => exact ⟨0, Nat.zero_le _, rfl, rfl, rfl, rfl⟩
  case round =>
    obtain ⟨i, hi, rfl, rfl, rfl, rfl⟩ := hrel
    by_cases hlt : i < n2
    · obtain ⟨ba, oa, x, rfl, hba, hx, c0⟩ := rR.atI hlt
      have hs := HbR.out (i + 1) (by omega)
      rw [sumN, gi_eq hx] at hs
      have Hnext := Lib.hid (show sumN (gi R) (i + 1) = sumN (gi R) i + x by rw [sumN, gi_eq hx])
      have hii : (i : Int) < (n2 : Int) := by omega
      have hi0 : (0 : Int) ≤ (i : Int) := by omega
      obtain ⟨S, hS⟩ : ∃ S, sumN (gi R) i = S := ⟨_, rfl⟩
      rw [hS] at hs ⊢
      have HS := Lib.hid hS
      have hw : IntKind.i64.wrap (S + x) = S + x := IntWalk.i64_in _ (by omega)
      clear hx hS hs
      go_wp2
      go_roundg (n2 - (i + 1))
      case rel => exact ⟨i + 1, by omega, rfl, by go_num, by rw [Hnext.out, HS.out], rfl⟩
      case measure => omega
    · have ee : i = n2 := by omega
      subst ee
      go_wp2
      go_loopg [9, 11] n3 (fun gk s j wr => ∃ j' : Nat, j' ≤ n3 ∧ gk = n3 - j' ∧ j = .int .i64 j' ∧ s = .int .i64 (sumN (gi R) i + sumN (gi K) j') ∧ w2 = wr)
      case atStart => exact ⟨0, Nat.zero_le _, rfl, rfl, by simp [sumN], rfl⟩
      case round =>
        obtain ⟨j, hj, rfl, rfl, rfl, rfl⟩ := hrel
        by_cases hlt : j < n3
        · obtain ⟨ba, oa, x, rfl, hba, hx, c0⟩ := rK.atI hlt
          have hs := HbK.out (j + 1) (by omega)
          have hs2 := HbR.out i (Nat.le_refl _)
          rw [sumN, gi_eq hx] at hs
          have Hnext := Lib.hid (show sumN (gi K) (j + 1) = sumN (gi K) j + x by rw [sumN, gi_eq hx])
          have hii : (j : Int) < (n3 : Int) := by omega
          have hi0 : (0 : Int) ≤ (j : Int) := by omega
          obtain ⟨S, hS⟩ : ∃ S, sumN (gi R) i + sumN (gi K) j = S := ⟨_, rfl⟩
          rw [hS]
          have HS := Lib.hid hS
          have hw : IntKind.i64.wrap (S + x) = S + x := IntWalk.i64_in _ (by omega)
          clear hx hS hs hs2
          go_wp2
          go_roundg (n3 - (j + 1))
          case rel => exact ⟨j + 1, by omega, rfl, by go_num, by rw [Hnext.out, ← HS.out, Int.add_assoc], rfl⟩
          case measure => omega
        · have ee : j = n3 := by omega
          subst ee
          have hv := HV.out
          obtain ⟨S, hS⟩ : ∃ S, sumN (gi R) i + sumN (gi K) j = S := ⟨_, rfl⟩
          rw [hS] at hv ⊢
          subst hv
          have hvv : (V == V) = true := by simp
          clear hS
          go_wp2
          go_ret
          exact ⟨rfl, Hbel.out⟩
end Go.Proofs.Ytmcamadcoglodaa
