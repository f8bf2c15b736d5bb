/- Walks over cost and Cost of package idle. Conditions stand in each theorem. -/
import Derived.Test.YtmcamadcoglodaaQ4
namespace Go.Proofs.Ytmcamadcoglodaa
open Go.RowKit
set_option linter.unusedVariables false

/-- an assignment whose costs can be read, and summed -/
def Sums (cl : List (List Int)) (to : List Int) : Prop := (∀ i, i < to.length → i < cl.length ∧ 0 ≤ gi to i ∧ gi to i < ((clAt cl i).length : Int)) ∧ ∀ k, k ≤ to.length → -4000000000000000000 ≤ costT cl to k ∧ costT cl to k ≤ 4000000000000000000
theorem okC_sums {cl : List (List Int)} {to : List Int} (h : okC cl to = true) : Sums cl to := by
  refine ⟨fun i hi => ?_, fun k hk => ?_⟩
  · obtain ⟨h1, h2, h3, h4, _⟩ := okC_at h hi
    exact ⟨h1, h2, by rw [h4]; exact h3⟩
  · have h1 := costT_bd h k hk
    have h2 := (assC_iff.1 (okC_iff.1 h).2).1
    have h3 := (rightC_iff.1 (okC_iff.1 h).1).1.2
    omega
set_option maxRecDepth 100000 in
set_option maxHeartbeats 1000000 in
theorem cost_any (A A2 : Option Addr) (n cap n2 cap2 : Nat) (cl : List (List Int)) (to : List Int) (w : World) (hl : RdII w w.heap.size A n cap cl) (ht : RdI w w.heap.size A2 n2 cap2 to) (hs : Sums cl to) :
    Calls Try.prog 28 #[.slice A n cap, .slice A2 n2 cap2] w fun e w' => e = .returned (.int .i64 (costT cl to n2)) ∧ w = w' := by
  have hcaps := hl.caps
  have hlen := hl.len
  have hcaps2 := ht.caps
  have hlent := ht.len
  obtain ⟨h1, h2⟩ := hs
  rw [hlent, hlen] at h1
  rw [hlent] at h2
  have Hat := Lib.hid h1; have Hbd := Lib.hid h2
  clear h1 h2 hlen hlent
  go_enter Try.func28, Try.ntmps28
  go_wp2
  go_loopg [5, 10] n2 (fun gk s i wr => ∃ i' : Nat, i' ≤ n2 ∧ gk = n2 - i' ∧ i = .int .i64 i' ∧ s = .int .i64 (costT cl to i') ∧ w = wr)
  case atStart => exact ⟨0, Nat.zero_le _, rfl, rfl, rfl, rfl⟩
  case round =>
    obtain ⟨i, hi, rfl, rfl, rfl, rfl⟩ := hrel
    by_cases hlt : i < n2
    · obtain ⟨a1, a2, a3⟩ := Hat.out i hlt
      obtain ⟨b, off, Ai, ni, capi, xi, rfl, hbB, hxi, c0, ri⟩ := hl.atII a1
      have hci := clAt_eq hxi
      have hli := ri.len
      have hcapi := ri.caps
      obtain ⟨bt, ot, x, rfl, hbt, hx, e0⟩ := ht.atI hlt
      have hgx := gi_eq hx
      have hnext : costT cl to (i + 1) = costT cl to i + tb cl i (gi to i).toNat := rfl
      rw [hgx] at a2 a3 hnext
      rw [hci, hli] at a3
      obtain ⟨X, rfl⟩ := Int.eq_ofNat_of_zero_le a2
      rw [Int.toNat_natCast] at hnext
      obtain ⟨bi, oi, y, rfl, hbi, hy, f0⟩ := ri.atI (k := X) (by omega)
      have hty : tb cl i X = y := by rw [tb, hci]; exact gi_eq hy
      rw [hty] at hnext
      have hb1 := Hbd.out (i + 1) (by omega)
      rw [hnext] at hb1
      have Hnext := Lib.hid hnext
      have hii : (i : Int) < (n2 : Int) := by omega
      have hin : (i : Int) < (n : Int) := by omega
      have hi0 : (0 : Int) ≤ (i : Int) := by omega
      have hXn : (X : Int) < (ni : Int) := by omega
      have hX0 : (0 : Int) ≤ (X : Int) := by omega
      obtain ⟨S, hS⟩ : ∃ S, costT cl to i = S := ⟨_, rfl⟩
      rw [hS] at hb1 ⊢
      have HS := Lib.hid hS
      have hwS : IntKind.i64.wrap (S + y) = S + y := IntWalk.i64_in _ (by omega)
      clear hxi hci hli hx hgx a2 a3 hy hty hnext hS hb1
      go_wp2
      go_roundg (n2 - (i + 1))
      case rel => exact ⟨i + 1, by omega, rfl, by go_num, by rw [Hnext.out, HS.out], rfl⟩
      case measure => omega
    · have ee : i = n2 := by omega
      subst ee
      go_wp2
      go_ret
      exact ⟨rfl, rfl⟩
set_option maxRecDepth 100000 in
set_option maxHeartbeats 1000000 in
theorem pcost_any (A A2 : Option Addr) (n cap n2 cap2 : Nat) (cl : List (List Int)) (to : List Int) (w : World) (hl : RdII w w.heap.size A n cap cl) (ht : RdI w w.heap.size A2 n2 cap2 to) :
    Calls Try.prog 14 #[.slice A n cap, .slice A2 n2 cap2] w fun e w' => e = .returned (.tuple #[.int .i64 (costV cl to), .int .i64 (costE cl to)]) ∧ Below w.heap.size w w' := by
  have hlent := ht.len
  have Hr := Lib.hid (right_any A n cap cl w hl)
  have Ha := Lib.hid (fun w hl ht => assigns_any A A2 n cap n2 cap2 cl to w hl ht)
  cases hok : okC cl to
  · have hV : costV cl to = 0 := by rw [costV, hok]; rfl
    have hE : costE cl to = 1 := by rw [costE, hok]; rfl
    rw [hV, hE]
    cases h1 : rightC cl
    · rw [h1] at Hr
      clear hV hE hok h1
      go_enter Try.func14, Try.ntmps14
      go_wp2_with fail
      refine Hr.out.mono ?_
      rintro e w1 ⟨rfl, hb1⟩
      go_wp2
      go_ret2
      exact ⟨rfl, hb1⟩
    · have h2 : assC cl to = false := by rw [okC, h1, Bool.true_and] at hok; exact hok
      rw [h1] at Hr
      rw [h2] at Ha
      clear hV hE hok h1 h2
      go_enter Try.func14, Try.ntmps14
      go_wp2_with fail
      refine Hr.out.mono ?_
      rintro e w1 ⟨rfl, hb1⟩
      go_wp2_with fail
      refine (Ha.out w1 (hl.up ii_lasts hb1) (ht.up (flat_lasts _) hb1)).mono ?_
      rintro e _ ⟨rfl, rfl⟩
      go_wp2
      go_ret2
      exact ⟨rfl, hb1⟩
  have hV : costV cl to = costT cl to n2 := by rw [costV, hok, hlent]; rfl
  have hE : costE cl to = 0 := by rw [costE, hok]; rfl
  rw [hV, hE]
  obtain ⟨h1, h2⟩ := okC_iff.1 hok
  have Hs := Lib.hid (okC_sums hok)
  rw [h1] at Hr
  rw [h2] at Ha
  clear hV hE hok h1 h2 hlent
  go_enter Try.func14, Try.ntmps14
  go_wp2_with fail
  refine Hr.out.mono ?_
  rintro e w1 ⟨rfl, hb1⟩
  go_wp2_with fail
  refine (Ha.out w1 (hl.up ii_lasts hb1) (ht.up (flat_lasts _) hb1)).mono ?_
  rintro e _ ⟨rfl, rfl⟩
  go_wp2_with fail
  refine (cost_any A A2 n cap n2 cap2 cl to w1 (hl.up ii_lasts hb1) (ht.up (flat_lasts _) hb1) Hs.out).mono ?_
  rintro e _ ⟨rfl, rfl⟩
  go_wp2
  go_ret2
  exact ⟨rfl, hb1⟩
end Go.Proofs.Ytmcamadcoglodaa
