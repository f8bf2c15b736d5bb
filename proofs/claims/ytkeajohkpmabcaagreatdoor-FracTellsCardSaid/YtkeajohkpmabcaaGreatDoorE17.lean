
/- Walk over Text of the reference of layer 4. Conditions stand in the theorem. -/
import Derived.Test.YtkeajohkpmabcaaGreatDoorE16
import Derived.Test.YtkeajohkpmabcaaGreatDoorO
namespace Go.Proofs.YtkeajohkpmabcaaGreatDoor
open Go.RowKit
set_option linter.unusedVariables false
set_option linter.unusedSimpArgs false

/-- the digits that stand behind those of what is left -/
def TenI (V u : Nat) (S : List UInt8) : Prop := (u = 0 → Lib.decDigits V = S) ∧ (u ≠ 0 → Lib.decDigits V = Lib.decDigits u ++ S) ∧ u ≤ V
theorem TenI.start {V : Nat} (h : V ≠ 0) : TenI V V [] := ⟨fun e => absurd e h, fun _ => by simp, Nat.le_refl _⟩
theorem TenI.step {V u : Nat} {S : List UInt8} (h : TenI V u S) (hu : u ≠ 0) : TenI V (u / 10) (UInt8.ofNat (48 + u % 10) :: S) := by
  obtain ⟨-, h2, h3⟩ := h
  have h2 := h2 hu
  by_cases h10 : u < 10
  · refine ⟨fun _ => ?_, fun e => absurd (by omega) e, by omega⟩
    rw [h2, dec_small h10, Nat.mod_eq_of_lt h10]; rfl
  · refine ⟨fun e => absurd e (by omega), fun _ => ?_, by omega⟩
    rw [h2, dec_big h10]; simp
theorem TenI.len {V u : Nat} {S : List UInt8} (h : TenI V u S) : S.length ≤ (Lib.decDigits V).length := by
  by_cases hu : u = 0
  · rw [h.1 hu]; exact Nat.le_refl _
  · rw [h.2.1 hu, List.length_append]; omega
theorem ten_cut (d : Nat) (h : d < 10) : (⟨#[48, 49, 50, 51, 52, 53, 54, 55, 56, 57]⟩ : ByteArray).extract d (d + 1) = ⟨#[UInt8.ofNat (48 + d)]⟩ := by
  have : d = 0 ∨ d = 1 ∨ d = 2 ∨ d = 3 ∨ d = 4 ∨ d = 5 ∨ d = 6 ∨ d = 7 ∨ d = 8 ∨ d = 9 := by omega
  rcases this with rfl | rfl | rfl | rfl | rfl | rfl | rfl | rfl | rfl | rfl <;> rfl
theorem ten_run (d : Nat) (h : d < 10) (W : World) : (Instr.slice 9 (.string ⟨#[48, 49, 50, 51, 52, 53, 54, 55, 56, 57]⟩) (some (.int .i64 (d : Int))) (some (.int .i64 ((d : Int) + 1))) none).run Tryz.prog W = .ok (.string ⟨#[UInt8.ofNat (48 + d)]⟩) W := by
  have e1 : ((d : Int)).toNat = d := by omega
  have e2 : ((d : Int) + 1).toNat = d + 1 := by omega
  rw [run_slice_string (P := Tryz.prog) W 9 _ .i64 .i64 (d : Int) ((d : Int) + 1) Tryz.underlying9 (by omega) (by omega) (by show ((d : Int) + 1) ≤ 10; omega), e1, e2, ten_cut d h]
set_option maxRecDepth 100000 in
set_option maxHeartbeats 2000000 in
theorem etext_any (s : Int) (A : Option Addr) (n cap : Nat) (l : List Int) (w : World) (hl : RdI w w.heap.size A n cap l) :
    Calls Tryz.prog 32 #[.agg #[.int .i64 s, .slice A n cap]] w fun e w' => e = .returned (.string (textB s l)) ∧ Below w.heap.size w w' := by
  have K := (St.start w).oldRd hl
  have r := K.raw
  have HR := Lib.hid (fun W hl => eright_any s A n cap l W hl)
  cases h1 : rightB s l
  · rw [h1] at HR
    have e0 : textB s l = ⟨#[]⟩ := by unfold textB; rw [if_neg (by rw [h1]; simp)]
    rw [e0]
    clear e0 h1
    go_enter Tryz.func32, Tryz.ntmps32
    go_wp2_with (first | ((first | (apply K.alloc; rfl; rfl; (first | with_reducible exact big_zero | with_reducible exact frac_zero)) | (apply K.box; rfl; rfl; rfl)); clear K r; (first | ((fail_if_success revert b0); intro W b0 K) | ((fail_if_success revert b1); intro W b1 K) | ((fail_if_success revert b2); intro W b2 K) | ((fail_if_success revert b3); intro W b3 K) | ((fail_if_success revert b4); intro W b4 K) | ((fail_if_success revert b5); intro W b5 K) | ((fail_if_success revert b6); intro W b6 K) | ((fail_if_success revert b7); intro W b7 K)); have r := K.rawS) | (apply K.storeA; rfl; rfl; rfl; rfl; rfl; (repeat (first | with_reducible exact Upd.head _ | with_reducible apply Upd.tail)); (first | with_reducible exact big_size | with_reducible exact frac_size); rfl; rfl; rfl; clear K r; intro W K; have r := K.rawS))
    refine (HR.out _ (by first | exact Rd.nil | exact K.rda)).mono ?_
    rintro e W' ⟨rfl, hb⟩
    replace K := K.keep hb
    clear r
    have r := K.rawS
    clear hb
    go_wp2
    go_ret
    exact ⟨rfl, K.1⟩
  rw [h1] at HR
  have hst := Std.of_right h1
  have hsg := hst.signs
  have hfit := fits_of_right h1
  have e0 : textB s l = ⟨(Lib.itoa (bval s l)).toArray⟩ := by unfold textB; rw [if_pos h1]
  rw [e0]
  have hls : l = digs (bval s l).natAbs := hst.2
  generalize bval s l = z at *
  by_cases hz : z = 0
  · subst hz
    have hs0 : s = 0 := hst.1
    subst hs0
    clear e0 h1 hst hfit hsg hls
    go_enter Tryz.func32, Tryz.ntmps32
    go_wp2_with (first | ((first | (apply K.alloc; rfl; rfl; (first | with_reducible exact big_zero | with_reducible exact frac_zero)) | (apply K.box; rfl; rfl; rfl)); clear K r; (first | ((fail_if_success revert b0); intro W b0 K) | ((fail_if_success revert b1); intro W b1 K) | ((fail_if_success revert b2); intro W b2 K) | ((fail_if_success revert b3); intro W b3 K) | ((fail_if_success revert b4); intro W b4 K) | ((fail_if_success revert b5); intro W b5 K) | ((fail_if_success revert b6); intro W b6 K) | ((fail_if_success revert b7); intro W b7 K)); have r := K.rawS) | (apply K.storeA; rfl; rfl; rfl; rfl; rfl; (repeat (first | with_reducible exact Upd.head _ | with_reducible apply Upd.tail)); (first | with_reducible exact big_size | with_reducible exact frac_size); rfl; rfl; rfl; clear K r; intro W K; have r := K.rawS))
    refine (HR.out _ (by first | exact Rd.nil | exact K.rda)).mono ?_
    rintro e W' ⟨rfl, hb⟩
    replace K := K.keep hb
    clear r
    have r := K.rawS
    clear hb
    go_wp2
    go_ret
    exact ⟨by rw [itoa_zero]; rfl, K.1⟩
  have hV : ∃ V, V = z.natAbs := ⟨_, rfl⟩
  obtain ⟨V, hV⟩ := hV
  rw [← hV] at hls
  have hV0 : V ≠ 0 := by omega
  have hl60 : (digs V).length ≤ 60 := digs_len.2 (by have := fits_iff.1 hfit; rw [hV]; exact this)
  have hdl : (Lib.decDigits V).length ≤ 362 := by rw [hV]; exact dec_fits hfit
  have Hdl := Lib.hid hdl
  have H60 := Lib.hid hl60
  have hsn : (s == 0) = false := by
    rcases hsg with ⟨-, -, e⟩ | ⟨-, rfl, -⟩ | ⟨-, rfl, -⟩
    · exact absurd e hz
    · rfl
    · rfl
  have Hsg := Lib.hid hsg
  have HI0 := Lib.hid (TenI.start hV0)
  have HEnd := Lib.hid (show ∀ S, TenI V 0 S → (s = 1 → Lib.itoa z = S) ∧ (s = -1 → Lib.itoa z = 45 :: S) from fun S h => by
    have hS := h.1 rfl
    rcases hsg with ⟨-, -, e⟩ | ⟨-, e, h2⟩ | ⟨-, e, h2⟩
    · exact absurd e hz
    · exact ⟨fun _ => by rw [← hS, hV, show z = ((z.natAbs : Nat) : Int) by omega, Lib.itoa_nonneg]; rfl, fun e' => by omega⟩
    · exact ⟨fun e' => by omega, fun _ => by rw [← hS, hV, show z = -((z.natAbs : Nat) : Int) by omega, Lib.itoa_neg _ (by omega), Int.natAbs_neg]; rfl⟩)
  have hs2 : s = 1 ∨ s = -1 := by
    rcases hsg with ⟨-, -, e⟩ | ⟨-, e, h2⟩ | ⟨-, e, h2⟩
    · exact absurd e hz
    · exact Or.inl e
    · exact Or.inr e
  have Hs2 := Lib.hid hs2
  clear e0 h1 hst hfit hsg hV hdl hl60 hV0 hz hs2
  subst hls
  go_enter Tryz.func32, Tryz.ntmps32
  go_wp2_with (first | ((first | (apply K.alloc; rfl; rfl; (first | with_reducible exact big_zero | with_reducible exact frac_zero)) | (apply K.box; rfl; rfl; rfl)); clear K r; (first | ((fail_if_success revert b0); intro W b0 K) | ((fail_if_success revert b1); intro W b1 K) | ((fail_if_success revert b2); intro W b2 K) | ((fail_if_success revert b3); intro W b3 K) | ((fail_if_success revert b4); intro W b4 K) | ((fail_if_success revert b5); intro W b5 K) | ((fail_if_success revert b6); intro W b6 K) | ((fail_if_success revert b7); intro W b7 K)); have r := K.rawS) | (apply K.storeA; rfl; rfl; rfl; rfl; rfl; (repeat (first | with_reducible exact Upd.head _ | with_reducible apply Upd.tail)); (first | with_reducible exact big_size | with_reducible exact frac_size); rfl; rfl; rfl; clear K r; intro W K; have r := K.rawS))
  refine (HR.out _ (by first | exact Rd.nil | exact K.rda)).mono ?_
  rintro e w1 ⟨rfl, hb⟩
  replace K := K.keep hb
  clear r
  have r := K.rawS
  clear hb
  have hr1 : RdI w1 w1.heap.size A n cap (digs V) := (by first | exact Rd.nil | exact K.rda)
  have Hb0 := Lib.hid (K.blk (b := b0) (cs := #[.int .i64 s, .slice A n cap]) (t := 24) (by repeat (first | with_reducible exact List.mem_cons_self | with_reducible apply List.mem_cons_of_mem)))
  have hbw := K.1
  clear HR
  go_wp2_with fail
  go_loopg [3, 4] V (fun gk s3 s4 wr => ∃ (u : Nat) (S : List UInt8) (A' : Option Addr) (n' c' : Nat), u = gk ∧ s3 = .string ⟨S.toArray⟩ ∧ s4 = .slice A' n' c' ∧ Hid (TenI V u S) ∧ RdI wr wr.heap.size A' n' c' (digs u) ∧ Below w1.heap.size w1 wr)
  case atStart => exact ⟨V, [], A, n, cap, rfl, rfl, rfl, HI0, hr1, Below.refl _ _⟩
  case round =>
    clear r K hr1
    obtain ⟨u, S, A', n', c', rfl, rfl, rfl, HI, hr, hbel⟩ := hrel
    have hlen := hr.len
    have hcap := hr.caps
    have hSl : S.length ≤ 362 := Nat.le_trans HI.out.len Hdl.out
    have hm60 : (digs u).length ≤ 60 := Nat.le_trans (digs_len_mono HI.out.2.2) H60.out
    by_cases hu : u = 0
    · subst hu
      rw [digs_zero, List.length_nil] at hlen
      subst hlen
      have hd : decide (0 < 0) = false := by decide
      have HE := Lib.hid (HEnd.out S HI.out)
      have c0 : wr.cell? ⟨b0, 0, none⟩ = some (.int .i64 s) := (Hb0.out.of (hbel.block _ Hb0.out.lt)).cell rfl
      have hbF : Below w.heap.size w wr := hbw.trans (hbel.mono hbw.size)
      have hs2 := Hs2.out
      have hno : ¬ (9223372036854775807 < 1 + S.length) := by omega
      clear hm60 hr hbel hcap HI HI0 hsn
      rcases hs2 with rfl | rfl
      · have HH := Lib.hid (HE.out.1 rfl)
        go_wp2
        go_ret
        exact ⟨by rw [HH.out]; rfl, hbF⟩
      · have HH := Lib.hid (HE.out.2 rfl)
        go_wp2
        go_ret
        exact ⟨by rw [HH.out]; exact congrArg Ending.returned (congrArg Value.string (ba_append [45] S)), hbF⟩
    · have hn0 : 0 < n' := by
        have h1 : digs u ≠ [] := fun e => hu (digs_nil.1 e)
        have := List.length_pos_iff.2 h1
        omega
      have hd : decide (0 < n') = true := decide_eq_true hn0
      have Hst := Lib.hid (HI.out.step hu)
      have Hlt := Lib.hid (show u / 10 < u from by omega)
      obtain ⟨d, hdd⟩ : ∃ d, d = u % 10 := ⟨_, rfl⟩
      have hd10 : d < 10 := by omega
      have hdi : (u : Int) % 10 = (d : Int) := by omega
      have HT := Lib.hid (fun W hr => etenth_any A' n' c' u W hr (by omega))
      unfold TenP at HT
      rw [hdi] at HT
      rw [← hdd] at Hst
      have hw1 : IntKind.i64.wrap ((d : Int) + 1) = (d : Int) + 1 := IntWalk.i64_in _ (by omega)
      have HC := Lib.hid (ten_run d hd10)
      have Hcat := Lib.hid (ba_append [UInt8.ofNat (48 + d)] S)
      generalize UInt8.ofNat (48 + d) = c at *
      have hno : ¬ (9223372036854775807 < 1 + S.length) := by omega
      clear hdi hdd hu HI
      go_wp2_with fail
      refine (HT.out wr hr).mono ?_
      rintro e w2 ⟨A2, n2, c2, rfl, hr2, hf2, hb2⟩
      have hb12 := hbel.trans (hb2.mono hbel.size)
      clear hr hb2 hbel hf2 HT
      have hrun := HC.out w2
      go_wp2_with fail
      go_roundg (u / 10)
      case rel => exact ⟨u / 10, c :: S, A2, n2, c2, rfl, congrArg Value.string Hcat.out, rfl, Hst, hr2, hb12⟩
      case measure => exact Hlt.out
end Go.Proofs.YtkeajohkpmabcaaGreatDoor
