/- Plain law: a sum in whole cents, with memories: what each gets, and what it remembers. No condition. -/
import Derived.Test.YtinfcngkbdiddaaC1
namespace Go.Proofs.Ytinfcngkbdiddaa
open Go.RowKit
set_option linter.unusedVariables false
set_option linter.unusedSimpArgs false

/-- sums of ints -/
def smI (f : Nat → Int) : Nat → Int
  | 0 => 0
  | n + 1 => smI f n + f n
theorem smI_cast (f : Nat → Int) : ∀ n : Nat, smQ (fun i => ((f i : Int) : Rat)) n = ((smI f n : Int) : Rat)
  | 0 => rfl
  | n + 1 => by rw [smQ, smI, smI_cast f n, Rat.intCast_add]
theorem smI_congr {f g : Nat → Int} : ∀ {n : Nat}, (∀ i, i < n → f i = g i) → smI f n = smI g n
  | 0, _ => rfl
  | n + 1, h => by rw [smI, smI, smI_congr (fun i hi => h i (by omega)), h n (by omega)]
/-- the whole part of what an index wants, and the rest -/
def flC (sh me : Nat → Rat) (i : Nat) : Int := (sh i + me i).floor
def rsC (sh me : Nat → Rat) (i : Nat) : Rat := sh i + me i - ((flC sh me i : Int) : Rat)
theorem rsC_rng (sh me : Nat → Rat) (i : Nat) : 0 ≤ rsC sh me i ∧ rsC sh me i < 1 := by
  have h1 := Rat.floor_le (sh i + me i)
  have h2 := Rat.lt_floor_add_one (sh i + me i)
  unfold rsC flC
  grind
/-- what an index gets, and what it remembers -/
def gotC (sh me : Nat → Rat) (S : Nat → Bool) (i : Nat) : Int := flC sh me i + if S i = true then 1 else 0
def aftC (sh me : Nat → Rat) (S : Nat → Bool) (i : Nat) : Rat := rsC sh me i - ind S i
theorem gotC_cast (sh me : Nat → Rat) (S : Nat → Bool) (i : Nat) : ((gotC sh me S i : Int) : Rat) = ((flC sh me i : Int) : Rat) + ind S i := by
  unfold gotC ind
  cases S i <;> simp [Rat.intCast_add] <;> grind
/-- together they are the share and the memory -/
theorem gotC_aft (sh me : Nat → Rat) (S : Nat → Bool) (i : Nat) : ((gotC sh me S i : Int) : Rat) + aftC sh me S i = sh i + me i := by
  rw [gotC_cast]
  unfold aftC rsC
  grind
/-- how many cents are missing -/
theorem miss {sh me : Nat → Rat} {n : Nat} {total : Int} (hs : smQ sh n = (total : Rat)) (hm : smQ me n = 0) : smQ (rsC sh me) n = ((total - smI (flC sh me) n : Int) : Rat) := by
  have h1 : smQ (rsC sh me) n = smQ (fun i => sh i + me i) n - smQ (fun i => ((flC sh me i : Int) : Rat)) n := smQ_sub (fun i => sh i + me i) (fun i => ((flC sh me i : Int) : Rat)) n
  rw [h1, smQ_add, hs, hm, smI_cast, Rat.intCast_sub]
  grind
theorem smQ_const (c : Rat) : ∀ n : Nat, smQ (fun _ => c) n = (n : Rat) * c
  | 0 => by rw [smQ]; grind
  | n + 1 => by rw [smQ, smQ_const c n]; push_cast; grind
theorem miss_rng {sh me : Nat → Rat} {n : Nat} {total : Int} (hs : smQ sh n = (total : Rat)) (hm : smQ me n = 0) (hn : 0 < n) : 0 ≤ total - smI (flC sh me) n ∧ total - smI (flC sh me) n < n := by
  have h := miss hs hm
  have h1 : smQ (fun _ => 0) n ≤ smQ (rsC sh me) n := smQ_le fun i _ => (rsC_rng sh me i).1
  have h2 : smQ (rsC sh me) n < smQ (fun _ => 1) n := smQ_lt (fun i _ => by have := (rsC_rng sh me i).2; grind) ⟨0, hn, (rsC_rng sh me 0).2⟩
  rw [smQ_const, h] at h1 h2
  generalize total - smI (flC sh me) n = m at *
  constructor
  · have : ((0 : Int) : Rat) ≤ ((m : Int) : Rat) := by grind
    exact Rat.intCast_le_intCast.1 this
  · have : ((m : Int) : Rat) < (((n : Nat) : Int) : Rat) := by
      rw [Rat.intCast_natCast]
      grind
    exact Rat.intCast_lt_intCast.1 this
/-- all together get the sum -/
theorem got_sum {sh me : Nat → Rat} {n m : Nat} {total : Int} {S : Nat → Bool} (hS : Sel n (rsC sh me) m S) (hmt : (m : Int) = total - smI (flC sh me) n) : smI (gotC sh me S) n = total := by
  have h1 : smQ (fun i => ((gotC sh me S i : Int) : Rat)) n = smQ (fun i => ((flC sh me i : Int) : Rat) + ind S i) n := smQ_congr fun i _ => gotC_cast sh me S i
  rw [smI_cast, smQ_add, smI_cast, hS.count] at h1
  have h2 : ((smI (gotC sh me S) n : Int) : Rat) = ((smI (flC sh me) n + (m : Int) : Int) : Rat) := by
    rw [h1, Rat.intCast_add, Rat.intCast_natCast]
  have h3 := Rat.intCast_inj.1 h2
  omega
section
variable {sh me : Nat → Rat} {n m : Nat} {total : Int} {S : Nat → Bool} (hS : Sel n (rsC sh me) m S) (hmt : (m : Int) = total - smI (flC sh me) n) (hs : smQ sh n = (total : Rat)) (hm : smQ me n = 0)
include hS hmt hs hm
/-- the memories add up to 0 -/
theorem aft_sum : smQ (aftC sh me S) n = 0 := by
  have h1 : smQ (aftC sh me S) n = smQ (rsC sh me) n - smQ (ind S) n := smQ_sub (rsC sh me) (ind S) n
  rw [h1, hS.count, miss hs hm, ← hmt, Rat.intCast_natCast]
  grind
/-- no memory is a whole cent -/
theorem aft_rng {i : Nat} (hi : i < n) : -1 < aftC sh me S i ∧ aftC sh me S i < 1 := by
  have h1 := rsC_rng sh me i
  unfold aftC ind
  cases e : S i
  · simp
    grind
  · have h2 := hS.pos (fun i _ => rsC_rng sh me i) (by rw [miss hs hm, ← hmt, Rat.intCast_natCast]) e
    simp
    grind
end
/-- nobody gets less than -1 -/
theorem got_low {sh me : Nat → Rat} {S : Nat → Bool} {i : Nat} (h0 : 0 ≤ sh i) (h1 : -1 < me i) : -1 ≤ gotC sh me S i := by
  have h2 : -1 ≤ flC sh me i := by
    unfold flC
    exact Rat.le_floor_iff.2 (by
      have : ((-1 : Int) : Rat) = -1 := rfl
      rw [this]
      grind)
  unfold gotC
  split <;> omega
end Go.Proofs.Ytinfcngkbdiddaa
