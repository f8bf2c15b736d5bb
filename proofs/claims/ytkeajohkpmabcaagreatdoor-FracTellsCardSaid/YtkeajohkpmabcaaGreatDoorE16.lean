/- Walk over tenth of the reference of layer 4. Conditions stand in the theorem. -/
import Derived.Test.YtkeajohkpmabcaaGreatDoorE15
namespace Go.Proofs.YtkeajohkpmabcaaGreatDoor
open Go.RowKit
set_option linter.unusedVariables false
set_option linter.unusedSimpArgs false

/-- a tenth of a number's digits, and what is left -/
def TenP (w : World) (u : Nat) (e : Ending) (w' : World) : Prop := ∃ A n cap, e = .returned (.tuple #[.slice A n cap, .int .i64 ((u : Int) % 10)]) ∧ RdI w' w'.heap.size A n cap (digs (u / 10)) ∧ FrA w.heap.size A ∧ Below w.heap.size w w'
set_option maxRecDepth 100000 in
set_option maxHeartbeats 2000000 in
theorem etenth_any (A : Option Addr) (n cap : Nat) (u : Nat) (w : World) (ha : RdI w w.heap.size A n cap (digs u)) (hn : n ≤ 10000) :
    Calls Tryz.prog 93 #[.slice A n cap] w (TenP w u) := by
  obtain ⟨i0, hi0, hz0, hz1, hz2⟩ := info_parts int_info
  have hla := ha.len
  have Hval := Lib.hid ((val_vF hla).symm.trans (digs_val u))
  have Hda := Lib.hid ((digs_cn u).1.at hla)
  generalize digs u = a at *
  have hwn : IntKind.i64.wrap ((n : Int) - 1) = (n : Int) - 1 := IntWalk.i64_in _ (by omega)
  clear hla
  go_enter Tryz.func93, Tryz.ntmps93
  go_wp2_with (at_make; refine wpList_mk _ iSized 0 rfl _ _ 22 rfl w.heap.size 3 i0 (.int .i64 0) Tryz.underlying22 hi0 hz0 hz1 rfl _ _ _ _ n rfl rfl rfl rfl (by rw [hz2]; omega) (by unfold maxLen; omega) (Nat.le_refl _) ?_
               intro w2 ho2 hg2
               have hb2 : Below w.heap.size w w2 := (Below.refl _ _).grown hg2 (Nat.le_refl _) (by intro k hk; cases hk))
  clear hg2
  go_loopg [5, 6] n (fun gk r i wr => ∃ (k : Nat) (rv : Int) (o : Nat → Int), k ≤ n ∧ k = gk ∧ i = .int .i64 ((k : Int) - 1) ∧ r = .int .i64 rv ∧ ShI (gi a) o n k 10 rv ∧ Own 1 iEnc wr w.heap.size 3 (.slice (some ⟨w.heap.size, 0, none⟩) n n) (ofF n o) ∧ Below w.heap.size w wr)
  case atStart => exact ⟨n, 0, fun _ => 0, Nat.le_refl _, rfl, rfl, rfl, ShI.zero (by omega), by rw [← ofF_rep]; exact ho2, hb2⟩
  case round =>
    clear ho2 hb2
    obtain ⟨k, rv, o, hk, rfl, rfl, rfl, hI, ho, hbel⟩ := hrel
    have HI := Lib.hid hI
    obtain ⟨hr0, hr1⟩ := hI.2.1
    clear hI
    rcases Nat.eq_zero_or_pos k with hk0 | hk0
    · subst hk0
      obtain ⟨f1, f2, f3⟩ := HI.out.fin
      rw [Hval.out] at f1 f2
      obtain ⟨A3, c3, hv3, hr⟩ := ho.rd iSized (by rw [ofF_len]; omega)
      rw [ofF_len] at hv3 hr
      injection hv3 with h1 h2 h3
      subst h1
      have HT := Lib.hid (etrimF_any _ n _ o wr hr (by omega) f3)
      have e1 : ((u : Int) / 10).toNat = u / 10 := by omega
      rw [f1, e1] at HT
      have Hr := Lib.hid f2
      have hsz := hbel.size
      subst h3
      clear f1 f2 f3 e1 hr ho HI
      go_wp2_with fail
      refine HT.out.mono ?_
      rintro e w' ⟨A5, n5, c5, rfl, hr5, hf5, hb5⟩
      have HE := Lib.hid (⟨A5, n5, c5, by rw [Hr.out], hr5, hf5.mono hsz, hbel.trans (hb5.mono hsz)⟩ : TenP w u (.returned (.tuple #[.slice A5 n5 c5, .int .i64 rv])) w')
      clear hr5 hf5 hb5
      go_wp2
      go_ret2
      exact HE.out
    · obtain ⟨m, rfl⟩ : ∃ m, k = m + 1 := ⟨k - 1, by omega⟩
      obtain ⟨b1, o1, x, rfl, hb1, hx, c0⟩ := ha.atI (k := m) (by omega)
      have Hx := Lib.hid (gi_eq hx)
      have hxd := Hda.out m (by omega)
      rw [Hx.out] at hxd
      have c0' := (hbel.cell (p := ⟨b1, o1 + m, none⟩) hb1).trans c0
      obtain ⟨z0, z1⟩ := ho.cellI (i := m) (by omega)
      have h1 : (m : Int) < (n : Int) := by omega
      have h2 : (0 : Int) ≤ (m : Int) := by omega
      have hws : IntKind.i64.wrap (rv * 1048576) = rv * 1048576 := IntWalk.i64_in _ (by omega)
      have hwa : IntKind.i64.wrap (rv * 1048576 + x) = rv * 1048576 + x := IntWalk.i64_in _ (by omega)
      have hN := (HI.out.congr (o' := fun j => if j = m then (rv * 1048576 + x) / 10 else o j) (fun j h1 h2 => if_neg (by omega))).step (by omega) (by omega) (by rw [Hx.out]; exact hxd) (by rw [if_pos rfl, Hx.out])
      rw [Hx.out] at hN
      have hN2 := hN.2.2 m (Nat.le_refl _) (by omega)
      have eN : (fun j => if j = m then (rv * 1048576 + x) / 10 else o j) m = (rv * 1048576 + x) / 10 := if_pos rfl
      rw [eN] at hN2
      have htd : (rv * 1048576 + x).tdiv 10 = (rv * 1048576 + x) / 10 := Int.tdiv_eq_ediv_of_nonneg (by omega)
      have htm : (rv * 1048576 + x).tmod 10 = (rv * 1048576 + x) % 10 := Int.tmod_eq_emod_of_nonneg (by omega)
      have hwq : IntKind.i64.wrap ((rv * 1048576 + x) / 10) = (rv * 1048576 + x) / 10 := IntWalk.i64_in _ (by omega)
      have hmd := hN.2.1
      have hwm : IntKind.i64.wrap ((rv * 1048576 + x) % 10) = (rv * 1048576 + x) % 10 := IntWalk.i64_in _ (by omega)
      have HN := Lib.hid hN
      have ho3 := ho.setI (i := m) (by omega) ((rv * 1048576 + x) / 10)
      have hb3 := hbel.setCell (p := ⟨w.heap.size, m, none⟩) (Nat.le_refl _) (.int .i64 ((rv * 1048576 + x) / 10))
      clear hN hN2 eN hmd hx c0 ho hbel
      go_wp2
      go_roundg m
      case rel => exact ⟨m, _, _, by omega, rfl, by go_num, rfl, HN.out, ho3, hb3⟩
      case measure => omega
end Go.Proofs.YtkeajohkpmabcaaGreatDoor
