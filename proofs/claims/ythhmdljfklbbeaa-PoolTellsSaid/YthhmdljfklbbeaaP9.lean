/- Walk over Run of package pool. Conditions stand in the theorem. -/
import Derived.Test.YthhmdljfklbbeaaP6
namespace Go.Proofs.Ythhmdljfklbbeaa
open Go.RowKit
set_option linter.unusedVariables false

theorem Own.drewN {α : Type} {sz : Nat} {enc : α → List Value} {w : World} {base : Nat} {e : TypeId} {v : Value} {l : List α} (h : Own sz enc w base e v l) (n : Nat) : Own sz enc (w.drewN n) base e v l := h
theorem Rd.drewN {α : Type} {sz : Nat} {R : Enc α} {w : World} {B : Nat} {A : Option Addr} {n cap : Nat} {l : List α} (hR : Lasts R) (h : Rd sz R w B A n cap l) (k : Nat) : Rd sz R (w.drewN k) B A n cap l :=
  h.keep hR (Nat.le_refl _) fun _ _ => rfl
/-- the money after so many periods -/
def mny (p : Pl) (cl : List (List Int)) : Nat → Int
  | 0 => p.mo
  | i + 1 => mny p cl i + (p.pr - sI cl i)
theorem mny_bd {p : Pl} {cl : List (List Int)} {n : Nat} (hp : rightF p = true) (h : admN p cl n = true) : ∀ i, i ≤ n → -(i * 1000000000000000) ≤ mny p cl i ∧ mny p cl i ≤ (i + 1) * 1000000000000000
  | 0, _ => by obtain ⟨h1, _⟩ := rightF_iff hp; simp only [mny]; omega
  | i + 1, hi => by
    have h1 := mny_bd hp h i (by omega)
    have h2 := (win_bd h hp).2.2 i (by omega)
    obtain ⟨_, h3, _⟩ := rightF_iff hp
    rw [mny]
    omega
def runE (p : Pl) (cl : List (List Int)) : Int := if rightF p && decide (cl.length ≤ 1000) then (if admN p cl cl.length then 0 else 30) else 1
def runL (p : Pl) (cl : List (List Int)) : List Int := if admF p cl then ofF cl.length (fun j => mny p cl (j + 1)) else []
def RunPost (w : World) (L : List Int) (er : Int) (e : Ending) (w' : World) : Prop := ∃ v, e = .returned (.tuple #[v, .int .i64 er]) ∧ Own 1 iEnc w' w.heap.size 3 v L ∧ Below w.heap.size w w'

set_option maxRecDepth 100000 in
set_option maxHeartbeats 1000000 in
theorem run_any (p : Pl) (A : Option Addr) (n cap : Nat) (cl : List (List Int)) (w : World) (hl : RdII w w.heap.size A n cap cl) :
  Calls Try.prog 14 #[plV p, .slice A n cap] w (RunPost w (runL p cl) (runE p cl)) := by
  obtain ⟨i0, hi0, hz0, hz1, hz2⟩ := info_parts int_info
  have hcaps := hl.caps
  have hlen := hl.len
  have Hright := Lib.hid (fun w => right_any p w)
  have Hadmits := Lib.hid (fun w hl => admits_any p A n cap cl w hl)
  have hbx : Below w.heap.size w (w.alloc (.cells (plC p) 23)) := (Below.refl w.heap.size w).alloc (Nat.le_refl _) _
  have hcx : ∀ w1, Below (w.alloc (.cells (plC p) 23)).heap.size (w.alloc (.cells (plC p) 23)) w1 → (∀ (j : Nat) u, (plC p)[j]? = some u → w1.cell? ⟨w.heap.size, j, none⟩ = some u) ∧ Below w.heap.size w w1 ∧ w.heap.size < w1.heap.size := fun w1 hb => ⟨fun j u hu => (hb.cell (p := ⟨w.heap.size, j, none⟩) (by simp)).trans (new_cell rfl hu), hbx.trans (hb.mono (by simp)), by have := hb.size; simp at this; omega⟩
  have Hcx := Lib.hid hcx
  clear hcx hbx
  cases hr : rightF p
  · have hE : runE p cl = 1 := by simp [runE, hr]
    have hL : runL p cl = [] := by simp [runL, admF, hr]
    rw [hE, hL]
    have Hr := Lib.hid hr
    clear hE hL hr
    obtain ⟨mo, pr, ms, co, wi, to⟩ := p
    simp only [plV, plC] at *
    go_enter Try.func14, Try.ntmps14
    go_wp2_with (go_at_call 18; refine (Hright.out _).mono ?_; rw [Hr.out]; rintro e w1 ⟨rfl, hb1⟩)
    go_ret2
    exact ⟨_, rfl, Own.nil, (Hcx.out _ hb1).2.1⟩
  by_cases h1000 : 1000 < n
  · have hE : runE p cl = 1 := by simp [runE, hr, hlen]; omega
    have hL : runL p cl = [] := by simp [runL, admF, hr, hlen]; omega
    rw [hE, hL]
    have Hr := Lib.hid hr
    have hd : decide ((1000 : Int) < (n : Int)) = true := by simp; omega
    clear hE hL hr
    obtain ⟨mo, pr, ms, co, wi, to⟩ := p
    simp only [plV, plC] at *
    go_enter Try.func14, Try.ntmps14
    go_wp2_with (go_at_call 18; refine (Hright.out _).mono ?_; rw [Hr.out]; rintro e w1 ⟨rfl, hb1⟩)
    go_ret2
    exact ⟨_, rfl, Own.nil, (Hcx.out _ hb1).2.1⟩
  have hd : decide ((1000 : Int) < (n : Int)) = false := by simp; omega
  cases ha : admN p cl n
  · have hE : runE p cl = 30 := by simp [runE, hr, hlen, ha]; omega
    have hF : admF p cl = false := by simp [admF, hlen, ha]
    have hL : runL p cl = [] := by simp [runL, hF]
    rw [hE, hL]
    have Hr := Lib.hid hr
    have HF := Lib.hid hF
    clear hE hL hr ha hF
    obtain ⟨mo, pr, ms, co, wi, to⟩ := p
    simp only [plV, plC] at *
    go_enter Try.func14, Try.ntmps14
    go_wp2_with (first
      | (go_at_call 18; refine (Hright.out _).mono ?_; rw [Hr.out]; rintro e w1 ⟨rfl, hb1⟩
         obtain ⟨hc1, hb01, hl1⟩ := Hcx.out _ hb1
         have c0 := hc1 0 _ rfl; have c1 := hc1 1 _ rfl; have c2 := hc1 2 _ rfl; have c3 := hc1 3 _ rfl; have c4 := hc1 4 _ rfl; have c5 := hc1 5 _ rfl
         clear hc1 hb1)
      | (go_at_call 20; refine (Hadmits.out _ (hl.up ii_lasts hb01)).mono ?_; rw [HF.out]; rintro e w2 ⟨rfl, hb2⟩))
    go_ret2
    exact ⟨_, rfl, Own.nil, hb01.trans (hb2.mono hb01.size)⟩
  · have hE : runE p cl = 0 := by simp [runE, hr, hlen, ha]; omega
    have hF : admF p cl = true := by simp [admF, hlen, ha, hr]; omega
    have hall : ∃ M : Nat → Int, (∀ j, M (j + 1) = M j + (p.pr - sI cl j)) ∧ M 0 = p.mo ∧ (∀ i, i ≤ n → -(i * 1000000000000000) ≤ M i ∧ M i ≤ (i + 1) * 1000000000000000) ∧ runL p cl = ofF n (fun j => M (j + 1)) := ⟨mny p cl, fun _ => rfl, rfl, mny_bd hr ha, by simp [runL, hF, hlen]⟩
    obtain ⟨M, hMs, hM0, hMb, hL⟩ := hall
    rw [hE, hL]
    have hb6 := rightF_iff hr
    have Hmny := Lib.hid hMb
    have HsI := Lib.hid ((win_bd ha hr).2.2)
    have Hps := Lib.hid (fun j (hj : j < n) => okP_sum (admN_at ha hj).1 hr)
    have Hstep := Lib.hid hMs
    have Hm0 := Lib.hid hM0
    have Hr := Lib.hid hr
    have HF := Lib.hid hF
    clear hE hL hr ha hF hMs hM0 hMb hlen
    obtain ⟨mo, pr, ms, co, wi, to⟩ := p
    simp only [plV, plC] at *
    obtain ⟨⟨p11, p12⟩, ⟨p21, p22⟩, ⟨p31, p32⟩, ⟨p41, p42⟩, ⟨p51, p52⟩, ⟨p61, p62⟩⟩ := hb6
    go_enter Try.func14, Try.ntmps14
    go_wp2_with (first
      | (go_at_call 18; refine (Hright.out _).mono ?_; rw [Hr.out]; rintro e w1 ⟨rfl, hb1⟩
         obtain ⟨hc1, hb01, hl1⟩ := Hcx.out _ hb1
         have c0 := hc1 0 _ rfl; have c1 := hc1 1 _ rfl; have c2 := hc1 2 _ rfl; have c3 := hc1 3 _ rfl; have c4 := hc1 4 _ rfl; have c5 := hc1 5 _ rfl
         clear hc1 hb1)
      | (go_at_call 20; refine (Hadmits.out _ (hl.up ii_lasts hb01)).mono ?_; rw [HF.out]; rintro e w2 ⟨rfl, hb2⟩
         have d0 := (hb2.cell (p := ⟨w.heap.size, 0, none⟩) hl1).trans c0
         have d1 := (hb2.cell (p := ⟨w.heap.size, 1, none⟩) hl1).trans c1
         have hb02 := hb01.trans (hb2.mono hb01.size)
         have hl2 := Nat.lt_of_lt_of_le hl1 hb2.size
         clear c0 c1 c2 c3 c4 c5 hb2))
    have d1' := Lib.hid d1
    clear d1 d0
    go_loopg [6, 7, 28] n (fun gk v m i wr => ∃ j : Nat, j ≤ n ∧ gk = n - j ∧ i = .int .i64 j ∧ m = .int .i64 (M j) ∧ Own 1 iEnc wr w2.heap.size 3 v (ofF j (fun j => M (j + 1))) ∧ Below w2.heap.size w2 wr)
    case atStart => exact ⟨0, Nat.zero_le _, rfl, rfl, by rw [Hm0.out], Own.nil, Below.refl _ _⟩
    case round =>
      obtain ⟨j, hj, rfl, rfl, rfl, hown, hb⟩ := hrel
      have hb0 := hb02.trans (hb.mono hb02.size)
      by_cases hlt : j < n
      · obtain ⟨b, off, A', n', cap', l, rfl, hbB, hcl, k0, hl'⟩ := (hl.below ii_lasts hb0 (Nat.le_refl _) (Nat.le_refl _)).atII hlt
        have hps := Hps.out j hlt
        rw [clAt_eq hcl, hl'.len] at hps
        have Hps' := Lib.hid hps
        have hes : sI cl j = lsum l := by unfold sI; rw [clAt_eq hcl]
        obtain ⟨s1, s2⟩ := HsI.out j hlt
        obtain ⟨m1, m2⟩ := Hmny.out j (by omega)
        obtain ⟨m3, m4⟩ := Hmny.out (j + 1) (by omega)
        have hst := Hstep.out j
        rw [hst] at m3 m4
        have Hst := Lib.hid hst
        have Hes := Lib.hid hes
        have hji : (j : Int) < (n : Int) := by omega
        have hj0 : (0 : Int) ≤ (j : Int) := by omega
        have d1 := (hb.cell (p := ⟨w.heap.size, 1, none⟩) hl2).trans d1'.out
        have hsz := hb0.size
        have hl2' := hl'.below (flat_lasts _) (Below.refl w.heap.size wr) (Nat.le_refl _) hsz
        have hsum := fun w' (hw' : RdI w' w'.heap.size A' n' cap' l) => psum_any A' n' cap' l w' hw' hps
        rw [← hes] at hsum
        have hsumD : ∀ q, Calls Try.prog 31 #[.slice A' n' cap'] (wr.drewN q) fun e w'' => e = .returned (.int .i64 (sI cl j)) ∧ ∃ m, w'' = wr.drewN m := fun q => (hsum (wr.drewN q) (Rd.keep (flat_lasts _) hl2' (Nat.le_refl _) (fun _ _ => rfl))).mono fun _ _ ⟨he, hm⟩ => ⟨he, q, hm.symm⟩
        have Hsum := Lib.hid hsumD
        clear hps hes hst hcl hsum hsumD
        generalize sI cl j = S at *
        generalize M j = Mj at *
        have hw1 : IntKind.i64.wrap (pr - S) = pr - S := IntWalk.i64_in _ (by omega)
        have hw2 : IntKind.i64.wrap (Mj + (pr - S)) = Mj + (pr - S) := IntWalk.i64_in _ (by omega)
        go_wp2_with fail
        go_quiet ((go_at_call 31; exact Hsum.out _))
        go_wp2_with (at_builtin
                     refine wpList_app _ iSized rfl _ _ 32 rfl w2.heap.size 3 i0 _ 8 Try.underlying32 hi0 hz0 hz1 hz2 rfl _ (ofF j (fun j => M (j + 1))) rfl ((hown.alloc _).drewN _) _ _ 1 1 [Mj + (pr - S)] rfl (Rd.drewN (flat_lasts _) (Rd.new1 iSized wr (Mj + (pr - S)) #[.int .i64 (Mj + (pr - S))] rfl 3) _) (by rw [ofF_len]; simp only [maxLen]; omega) (by rw [ofF_len]; omega) (by have := hb.size; simp; omega) ?_
                     intro v3 w3 hown3 hg3 hx3
                     have hb3 : Below w2.heap.size w2 w3 := Own.grow ((hown.alloc _).drewN _) (Nat.le_refl _) (below_drewN (hb.alloc hb.size _) _) (by have := hb.size; simp; omega) hg3)
        go_roundg (n - (j + 1))
        case rel => exact ⟨j + 1, by omega, rfl, by go_num, by rw [Hst.out], by rw [ofF_succ, Hst.out]; exact hown3, hb3⟩
        case measure => omega
      · have e : j = n := by omega
        subst e
        go_wp2
        go_ret2
        exact ⟨_, rfl, hown.mono hb02.size, hb0⟩
end Go.Proofs.Ythhmdljfklbbeaa
