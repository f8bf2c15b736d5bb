/- Words for memory: a slice of slices of ints that the call itself owns; plain facts on greedy claims. No condition. -/
import Derived.Test.YthhmdljfklbbeaaP9
import Derived.Test.YthhmdljfklbbeaaP8
import Derived.Test.YthhmdljfklbbeaaP7
namespace Go.Proofs.Ythhmdljfklbbeaa
open Go.RowKit
set_option linter.unusedVariables false

abbrev Iw := Option Addr × Nat × Nat
def qEnc : Iw → List Value := fun x => [.slice x.1 x.2.1 x.2.2]
theorem qSized : Sized 1 qEnc := ⟨by omega, fun x => ⟨rfl, by intro u hu; simp [qEnc] at hu; subst hu; rfl⟩⟩
def FitI (w : World) (raw : Nat → Iw) (L : Nat → List Int) (n : Nat) : Prop := ∀ k, k < n → RdI w w.heap.size (raw k).1 (raw k).2.1 (raw k).2.2 (L k)
def Away (raw : Nat → Iw) (n : Nat) (S : Nat → Prop) : Prop := ∀ k, k < n → 0 < (raw k).2.1 → ∀ b off, (raw k).1 = some ⟨b, off, none⟩ → ¬ S b
theorem FitI.keptS {S : Nat → Prop} {w w' : World} {raw : Nat → Iw} {L : Nat → List Int} {n : Nat} (h : FitI w raw L n) (hk : Kept S w w') (ha : Away raw n S) : FitI w' raw L n := fun k hk' => (h k hk').keptS hk (Nat.le_refl _) hk.size (fun hp b off he => ha k hk' hp b off he)
theorem FitI.below {w w' : World} {raw : Nat → Iw} {L : Nat → List Int} {n : Nat} (h : FitI w raw L n) (hb : Below w.heap.size w w') : FitI w' raw L n := fun k hk => (h k hk).up (flat_lasts _) hb
theorem Away.mono {S T : Nat → Prop} {raw : Nat → Iw} {n : Nat} (h : Away raw n S) (hT : ∀ b, T b → S b) : Away raw n T := fun k hk hp b off he ht => h k hk hp b off he (hT b ht)
theorem FitI.rd {w : World} {raw : Nat → Iw} {L : Nat → List Int} {n : Nat} {A : Option Addr} {cap : Nat} (h : FitI w raw L n) (hr : Rd 1 (flat qEnc) w w.heap.size A n cap (ofF n raw)) : RdII w w.heap.size A n cap (ofF n L) := by
  refine ⟨ofF_len, hr.2.1, hr.2.2.1, fun hn => ?_⟩
  obtain ⟨b, off, rfl, hb, hc⟩ := hr.2.2.2 hn
  refine ⟨b, off, rfl, hb, fun k hk => ?_⟩
  rw [ofF_len] at hk
  obtain ⟨cs, hr', hl, hj⟩ := hc k (by rw [ofF_len]; exact hk)
  have e1 : (ofF n raw)[k]'(by rw [ofF_len]; exact hk) = raw k := by
    have := ofF_get (f := raw) hk
    rw [List.getElem?_eq_getElem (by rw [ofF_len]; exact hk)] at this
    exact Option.some.inj this
  have e2 : (ofF n L)[k]'(by rw [ofF_len]; exact hk) = L k := by
    have := ofF_get (f := L) hk
    rw [List.getElem?_eq_getElem (by rw [ofF_len]; exact hk)] at this
    exact Option.some.inj this
  refine ⟨cs, ?_, hl, hj⟩
  rw [e2]
  rw [e1] at hr'
  exact ⟨_, _, _, hr', h k hk⟩
theorem FitI.more {w : World} {raw : Nat → Iw} {L : Nat → List Int} {n : Nat} (h : FitI w raw L n) {x : Iw} (hx : RdI w w.heap.size x.1 x.2.1 x.2.2 (L n)) : FitI w (fun j => if j < n then raw j else x) L (n + 1) := fun k hk => by
  by_cases hkn : k < n
  · simp only [if_pos hkn]; exact h k hkn
  · have : k = n := by omega
    subst this
    simp only [if_neg hkn]; exact hx
theorem Away.more {S : Nat → Prop} {raw : Nat → Iw} {n : Nat} (h : Away raw n S) {x : Iw} (hx : 0 < x.2.1 → ∀ b off, x.1 = some ⟨b, off, none⟩ → ¬ S b) : Away (fun j => if j < n then raw j else x) (n + 1) S := fun k hk hp b off he => by
  by_cases hkn : k < n
  · simp only [if_pos hkn] at hp he; exact h k hkn hp b off he
  · simp only [if_neg hkn] at hp he; exact hx hp b off he

/-- the claims of a period that are n together -/
def partsL (ms n : Int) : List Int := List.replicate (n / ms).toNat ms ++ (if 0 < n % ms then [n % ms] else [])
/-- the greedy claims of a period -/
def grP (p : Pl) (i : Nat) : Int := gr (p.ms * p.co) p.to p.wi.toNat i
theorem grP_facts {p : Pl} (hp : rightF p = true) : (0 ≤ p.ms * p.co ∧ p.ms * p.co ≤ 1000000000000000000) ∧ ∀ i, (0 ≤ grP p i ∧ grP p i ≤ p.to ∧ grP p i ≤ p.ms * p.co) ∧ min (p.to - (sumN (grP p) i - sumN (grP p) (wb p.wi.toNat i))) (p.ms * p.co) = grP p i ∧
    (0 ≤ p.to - (sumN (grP p) i - sumN (grP p) (wb p.wi.toNat i))) ∧ (0 ≤ sumN (grP p) i - sumN (grP p) (i - p.wi.toNat) ∧ sumN (grP p) i - sumN (grP p) (i - p.wi.toNat) ≤ p.to) := by
  obtain ⟨_, _, h3, h4, h5, h6⟩ := rightF_iff hp
  have hm : 0 ≤ p.ms * p.co ∧ p.ms * p.co ≤ 1000000000000000 * 1000 := mul_bd2 (by omega) h4.2 (by omega) h5.2
  have hle : ∀ i, grP p i ≤ p.to := fun i => by
    have h1 : 0 ≤ Gw (p.ms * p.co) p.to (i % p.wi.toNat) := by
      have := Int.mul_nonneg (show (0 : Int) ≤ ((i % p.wi.toNat : Nat) : Int) by omega) hm.1
      unfold Gw; omega
    have h2 : Gw (p.ms * p.co) p.to (i % p.wi.toNat + 1) ≤ p.to := by unfold Gw; omega
    unfold grP gr; omega
  have hleft := fun i => gr_left (m := p.ms * p.co) h3.1 hm.1 (show 0 < p.wi.toNat by omega) i
  have hnn : ∀ i, 0 ≤ grP p i := fun i => (gr_bd (T := p.to) hm.1 i).1
  refine ⟨⟨hm.1, by omega⟩, fun i => ⟨⟨hnn i, hle i, (gr_bd (T := p.to) hm.1 i).2⟩, (hleft i).1, (hleft i).2, ?_, ?_⟩⟩
  · have := sumN_mono (f := grP p) (n := i) (fun j _ => hnn j) (i - p.wi.toNat) (by omega)
    omega
  · cases i with
    | zero => simp [sumN]; omega
    | succ i =>
      have h1 := (hleft i).1
      have h2 := (hleft i).2
      have e : i + 1 - p.wi.toNat = wb p.wi.toNat i := rfl
      have e2 : sumN (grP p) (i + 1) = sumN (grP p) i + grP p i := rfl
      have e3 : grP p = gr (p.ms * p.co) p.to p.wi.toNat := rfl
      rw [e, e2]
      rw [← e3] at h1 h2
      have h4 : grP p i = min (p.to - (sumN (grP p) i - sumN (grP p) (wb p.wi.toNat i))) (p.ms * p.co) := h1.symm
      omega
/-- the closures at greedy claims -/
theorem left_gr (H : Nat) (p : Pl) (i : Nat) (v : Value) (w : World) (hp : rightF p = true) (hi : i ≤ 1000) (hw : Win w H p v i (grP p) (sumN (grP p) i - sumN (grP p) (i - p.wi.toNat))) :
  Calls Try.prog 36 #[.pointer (some ⟨H + 1, 0, none⟩), .pointer (some ⟨H, 0, none⟩), .pointer (some ⟨H + 2, 0, none⟩)] w fun e w' => e = .returned (.int .i64 (p.to - (sumN (grP p) i - sumN (grP p) (wb p.wi.toNat i)))) ∧ Win w' H p v i (grP p) (sumN (grP p) i - sumN (grP p) (wb p.wi.toNat i)) ∧ Kept (fun b => b = H + 2) w w' := by
  obtain ⟨_, _, hto, _, _, hwi⟩ := rightF_iff hp
  have hf := grP_facts hp
  have hfi := hf.2 i
  have h := left_any H p v i (grP p) _ w hw hwi hto hi (fun j _ => ⟨(hf.2 j).1.1, by have := (hf.2 j).1.2.1; omega⟩) ⟨hfi.2.2.2.1, by have := hfi.2.2.2.2; omega⟩
  have e : winN p i (grP p) (sumN (grP p) i - sumN (grP p) (i - p.wi.toNat)) = sumN (grP p) i - sumN (grP p) (wb p.wi.toNat i) := by
    unfold winN wb
    by_cases h : p.wi ≤ (i : Int)
    · rw [if_pos h, show i + 1 - p.wi.toNat = (i - p.wi.toNat) + 1 by omega, sumN]
      omega
    · rw [if_neg h, show i + 1 - p.wi.toNat = i - p.wi.toNat by omega]
  unfold LeftPost at h
  rw [e] at h
  exact h
theorem claim_gr (H : Nat) (p : Pl) (i : Nat) (v : Value) (w : World) (hp : rightF p = true) (hi : i ≤ 1000) (hw : Win w H p v i (grP p) (sumN (grP p) i - sumN (grP p) (wb p.wi.toNat i))) :
  Calls Try.prog 37 #[.int .i64 (grP p i), .pointer (some ⟨H + 1, 0, none⟩), .pointer (some ⟨H + 2, 0, none⟩)] w fun e w' => e = .returned (.tuple #[]) ∧ ∃ v', Win w' H p v' (i + 1) (grP p) (sumN (grP p) (i + 1) - sumN (grP p) (i + 1 - p.wi.toNat)) ∧ Kept (fun b => b = H + 1 ∨ b = H + 2 ∨ v.ownBlock = some b) w w' ∧ ∀ g, v'.ownBlock = some g → v.ownBlock = some g ∨ w.heap.size ≤ g := by
  obtain ⟨_, _, hto, _, _, hwi⟩ := rightF_iff hp
  have hf := grP_facts hp
  have hfi := hf.2 i
  have hnn : ∀ j, 0 ≤ grP p j := fun j => (hf.2 j).1.1
  have hmono := sumN_mono (f := grP p) (n := i) (fun j _ => hnn j) (wb p.wi.toNat i) (by unfold wb; omega)
  refine (claim_any H p v i (grP p) _ (grP p i) w hw hi ⟨by omega, by have := hfi.2.2.1; omega⟩ ⟨hfi.1.1, by have := hfi.1.2.1; omega⟩).mono fun e w' ⟨he, v', hw', hk, hv⟩ => ⟨he, v', hw'.congr (fun j hj => ?_) ?_, hk, hv⟩
  · by_cases hji : j < i
    · rw [if_pos hji]
    · rw [if_neg hji, show j = i by omega]
  · rw [sumN]; unfold wb; omega
end Go.Proofs.Ythhmdljfklbbeaa
