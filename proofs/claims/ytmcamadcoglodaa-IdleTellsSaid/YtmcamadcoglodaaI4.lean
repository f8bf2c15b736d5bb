/- Walk over Cost of the reference of layer 24. Conditions stand in the theorem. -/
import Derived.Test.YtmcamadcoglodaaI3
namespace Go.Proofs.Ytmcamadcoglodaa
open Go.RowKit
set_option linter.unusedVariables false

def costT (cl : List (List Int)) (to : List Int) : Nat → Int := sumN fun i => tb cl i (gi to i).toNat
def okC (cl : List (List Int)) (to : List Int) : Bool := rightC cl && assC cl to
def costV (cl : List (List Int)) (to : List Int) : Int := if okC cl to = true then costT cl to to.length else 0
def costE (cl : List (List Int)) (to : List Int) : Int := if okC cl to = true then 0 else 1
theorem okC_iff {cl : List (List Int)} {to : List Int} : okC cl to = true ↔ rightC cl = true ∧ assC cl to = true := by rw [okC, Bool.and_eq_true]
/-- what a right table and an assignment of it give -/
theorem okC_at {cl : List (List Int)} {to : List Int} (h : okC cl to = true) {i : Nat} (hi : i < to.length) : i < cl.length ∧ 0 ≤ gi to i ∧ gi to i < (wid cl : Int) ∧ (clAt cl i).length = wid cl ∧ 0 ≤ tb cl i (gi to i).toNat ∧ tb cl i (gi to i).toNat ≤ 1000000000 := by
  obtain ⟨h1, h2⟩ := okC_iff.1 h
  obtain ⟨h3, h4⟩ := assC_iff.1 h2
  obtain ⟨h5, h6, h7⟩ := rightC_iff.1 h1
  have h8 := inB_iff.1 (okA_iff.1 (h4 i hi)).1
  have h9 := rowC_iff.1 (h7 i (by omega))
  have h10 := inB_iff.1 (h9.2 (gi to i).toNat (by omega))
  exact ⟨by omega, by omega, by omega, h9.1, h10⟩
theorem costT_bd {cl : List (List Int)} {to : List Int} (h : okC cl to = true) : ∀ k, k ≤ to.length → 0 ≤ costT cl to k ∧ costT cl to k ≤ (k : Int) * 1000000000
  | 0, _ => by simp [costT, sumN]
  | k + 1, hk => by
    have h1 := costT_bd h k (by omega)
    have h2 := okC_at h (i := k) (by omega)
    have e : costT cl to (k + 1) = costT cl to k + tb cl k (gi to k).toNat := rfl
    rw [e]
    omega
set_option maxRecDepth 100000 in
set_option maxHeartbeats 2000000 in
theorem rcost_any (A A2 : Option Addr) (n cap n2 cap2 : Nat) (cl : List (List Int)) (to : List Int) (w : World) (hl : RdII w w.heap.size A n cap cl) (ht : RdI w w.heap.size A2 n2 cap2 to) :
    Calls Try.prog 15 #[.slice A n cap, .slice A2 n2 cap2] w fun e w' => e = .returned (.tuple #[.int .i64 (costV cl to), .int .i64 (costE cl to)]) ∧ ∃ q, w' = w.drewN q := by
  have hcaps := hl.caps
  have hlen := hl.len
  have hcaps2 := ht.caps
  have hlent := ht.len
  have Hr := Lib.hid (rright_any A n cap cl w hl)
  have Ha := Lib.hid (rassigns_any A A2 n cap n2 cap2 cl to w hl ht)
  cases hok : okC cl to
  · have hV : costV cl to = 0 := by rw [costV, hok]; rfl
    have hE : costE cl to = 1 := by rw [costE, hok]; rfl
    rw [hV, hE]
    cases h1 : rightC cl
    · rw [h1] at Hr
      clear hV hE hok h1
      go_enter Try.func15, Try.ntmps15
      go_wp2_with fail
      refine Hr.out.mono ?_
      rintro e _ ⟨rfl, rfl⟩
      go_wp2
      go_ret2
      exact ⟨rfl, dr_zero w⟩
    · have h2 : assC cl to = false := by rw [okC, h1, Bool.true_and] at hok; exact hok
      rw [h1] at Hr
      rw [h2] at Ha
      clear hV hE hok h1 h2
      go_enter Try.func15, Try.ntmps15
      go_wp2_with fail
      refine Hr.out.mono ?_
      rintro e _ ⟨rfl, rfl⟩
      go_wp2_with fail
      refine Ha.out.mono ?_
      rintro e w2 ⟨rfl, hq⟩
      go_wp2
      go_ret2
      exact ⟨rfl, hq⟩
  have hV : costV cl to = costT cl to n2 := by rw [costV, hok, hlent]; rfl
  have hE : costE cl to = 0 := by rw [costE, hok]; rfl
  rw [hV, hE]
  obtain ⟨h1, h2⟩ := okC_iff.1 hok
  have h3 := (assC_iff.1 h2).1
  have hn : n2 = n := by omega
  subst hn
  have hn20 := (rightC_iff.1 h1).1.2
  rw [hlen] at hn20
  have Hat := Lib.hid (fun i (hi : i < n2) => okC_at hok (i := i) (by omega))
  have Hbd := Lib.hid (fun k (hk : k ≤ n2) => costT_bd hok k (by omega))
  rw [h1] at Hr
  rw [h2] at Ha
  clear hV hE hok h1 h2 h3 hlen hlent
  go_enter Try.func15, Try.ntmps15
  go_wp2_with fail
  refine Hr.out.mono ?_
  rintro e _ ⟨rfl, rfl⟩
  go_wp2_with fail
  refine Ha.out.mono ?_
  rintro e w2 ⟨rfl, hq⟩
  have Hq0 := Lib.hid hq
  clear hq
  go_wp2
  go_loopg [6, 7] n2 (fun gk s i wr => ∃ i' : Nat, i' ≤ n2 ∧ gk = n2 - i' ∧ i = .int .i64 i' ∧ s = .int .i64 (costT cl to i') ∧ ∃ q, wr = w.drewN q)
  case atStart => exact ⟨0, Nat.zero_le _, rfl, rfl, rfl, Hq0.out⟩
  case round =>
    obtain ⟨i, hi, rfl, rfl, rfl, hq⟩ := hrel
    have Hq := Lib.hid hq
    clear hq
    by_cases hlt : i < n2
    · obtain ⟨b, off, Ai, ni, capi, xi, rfl, hbB, hxi, c0, ri⟩ := hl.atII hlt
      have hci := clAt_eq hxi
      have hli := ri.len
      have hcapi := ri.caps
      obtain ⟨bt, ot, x, rfl, hbt, hx, e0⟩ := ht.atI hlt
      have hgx := gi_eq hx
      obtain ⟨a1, a2, a3, a4, a5, a6⟩ := Hat.out i hlt
      have hnext : costT cl to (i + 1) = costT cl to i + tb cl i (gi to i).toNat := rfl
      rw [hgx] at a2 a3 a5 a6 hnext
      rw [hci, hli] at a4
      obtain ⟨X, rfl⟩ := Int.eq_ofNat_of_zero_le a2
      rw [Int.toNat_natCast] at a5 a6 hnext
      obtain ⟨bi, oi, y, rfl, hbi, hy, f0⟩ := ri.atI (k := X) (by omega)
      have hty : tb cl i X = y := by rw [tb, hci]; exact gi_eq hy
      rw [hty] at a5 a6 hnext
      have hb := Hbd.out i (by omega)
      have Hnext := Lib.hid hnext
      have c0' := (dr_cell Hq.out ⟨b, off + i, none⟩).trans c0
      have e0' := (dr_cell Hq.out ⟨bt, ot + i, none⟩).trans e0
      have f0' := (dr_cell Hq.out ⟨bi, oi + X, none⟩).trans f0
      have hii : (i : Int) < (n2 : Int) := by omega
      have hi0 : (0 : Int) ≤ (i : Int) := by omega
      have hXn : (X : Int) < (ni : Int) := by omega
      have hX0 : (0 : Int) ≤ (X : Int) := by omega
      obtain ⟨S, hS⟩ : ∃ S, costT cl to i = S := ⟨_, rfl⟩
      rw [hS] at hb ⊢
      have HS := Lib.hid hS
      have hwS : IntKind.i64.wrap (S + y) = S + y := IntWalk.i64_in _ (by omega)
      clear hxi hci hli hx hgx a1 a2 a3 a4 hy hty hnext hS hb c0 e0 f0
      go_wp2_with fail
      go_quiet (fail)
      go_wp2
      go_roundg (n2 - (i + 1))
      case rel => exact ⟨i + 1, by omega, rfl, by go_num, by rw [Hnext.out, HS.out], dr_more Hq.out _⟩
      case measure => omega
    · have ee : i = n2 := by omega
      subst ee
      go_wp2
      go_ret2
      exact ⟨rfl, Hq.out⟩
end Go.Proofs.Ytmcamadcoglodaa
