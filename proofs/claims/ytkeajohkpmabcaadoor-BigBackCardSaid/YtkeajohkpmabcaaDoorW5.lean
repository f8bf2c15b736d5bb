/- Walks over mul and short of package big. Conditions stand in each theorem. -/
import Derived.Test.YtkeajohkpmabcaaDoorW4
namespace Go.Proofs.YtkeajohkpmabcaaDoor
open Go.RowKit
set_option linter.unusedVariables false

theorem vF_zero : ∀ n, vF (fun _ => 0) n = 0
  | 0 => rfl
  | n + 1 => by rw [vF, vF_zero n]; omega
theorem row_next {p x B S : Int} : S * B + p * (x * B) = (S + p * x) * B := by rw [Int.add_mul, Int.mul_assoc]
set_option maxRecDepth 100000 in
set_option maxHeartbeats 2000000 in
theorem bmul_any (A A2 : Option Addr) (n cap n2 cap2 : Nat) (a b : List Int) (w : World) (ha : RdI w w.heap.size A n cap a) (hb : RdI w w.heap.size A2 n2 cap2 b) (da : DgOk a) (db : DgOk b) (hn : n ≤ 10000) (hn2 : n2 ≤ 10000) :
    Calls Tryd.prog 33 #[.slice A n cap, .slice A2 n2 cap2] w fun e w' => (∃ v, e = .returned v ∧ Own 1 iEnc w' w.heap.size 3 v (digs (val a * val b).toNat)) ∧ Below w.heap.size w w' := by
  obtain ⟨i0, hi0, hz0, hz1, hz2⟩ := info_parts int_info
  have hla := ha.len
  have hlb := hb.len
  have Hval := Lib.hid (show vF (gi a) n * vF (gi b) n2 = val a * val b from by rw [val_vF hla, val_vF hlb])
  have Hda := Lib.hid (da.at hla)
  have Hdb := Lib.hid (db.at hlb)
  have hw1 : IntKind.i64.wrap ((n : Int) + (n2 : Int)) = ((n + n2 : Nat) : Int) := by rw [IntWalk.i64_in _ (by omega)]; omega
  clear hla hlb da db
  go_enter Tryd.func33, Tryd.ntmps33
  go_wp2_with (at_make; refine wpList_mk _ iSized 0 rfl _ _ 22 rfl w.heap.size 3 i0 (.int .i64 0) Tryd.underlying22 hi0 hz0 hz1 rfl _ _ _ _ (n + n2) rfl rfl (by first | rfl | omega) (by first | rfl | omega) (by rw [hz2]; omega) (by unfold maxLen; omega) (Nat.le_refl _) ?_
               intro w2 ho2 hg2
               have hb2 : Below w.heap.size w w2 := (Below.refl _ _).grown hg2 (Nat.le_refl _) (by intro k hk; cases hk))
  clear hg2
  go_loopg [20] n (fun gk i wr => ∃ (j : Nat) (o : Nat → Int), j ≤ n ∧ gk = n - j ∧ i = .int .i64 j ∧ vF o (n + n2) = vF (gi a) j * vF (gi b) n2 ∧ Dg o (n + n2) ∧ (∀ q, j + n2 ≤ q → o q = 0) ∧ Own 1 iEnc wr w.heap.size 3 (.slice (some ⟨w.heap.size, 0, none⟩) (n + n2) (n + n2)) (ofF (n + n2) o) ∧ Below w.heap.size w wr)
  case atStart => exact ⟨0, fun _ => 0, Nat.zero_le _, rfl, rfl, by rw [vF_zero, vF, Int.zero_mul], (fun i _ => ⟨Int.le_refl 0, (by decide : (0 : Int) < 1048576)⟩), (fun q _ => rfl), by rw [← ofF_rep]; exact ho2, hb2⟩
  case round =>
    clear ho2 hb2
    obtain ⟨j, o, hj, rfl, rfl, hvo, hdo, hzo, ho, hbel⟩ := hrel
    have Hvo := Lib.hid hvo; have Hdo := Lib.hid hdo; have Hzo := Lib.hid hzo
    clear hvo hdo hzo
    by_cases hlt : j < n
    · obtain ⟨b1, o1, x, rfl, hb1, hx, c0⟩ := ha.atI hlt
      have Hx := Lib.hid (gi_eq hx)
      have hxd := Hda.out j hlt
      rw [Hx.out] at hxd
      have c0' := (hbel.cell (p := ⟨b1, o1 + j, none⟩) hb1).trans c0
      have hji : (j : Int) < (n : Int) := by omega
      have hj0 : (0 : Int) ≤ (j : Int) := by omega
      clear hx c0
      go_wp2
      go_loopg [8, 27] n2 (fun gk c i wr => ∃ (k : Nat) (cv : Int) (p : Nat → Int), k ≤ n2 ∧ gk = n2 - k ∧ i = .int .i64 k ∧ c = .int .i64 cv ∧ MulI x (gi b) o p (n + n2) j n2 k cv ∧ Own 1 iEnc wr w.heap.size 3 (.slice (some ⟨w.heap.size, 0, none⟩) (n + n2) (n + n2)) (ofF (n + n2) p) ∧ Below w.heap.size w wr)
      case atStart => exact ⟨0, 0, o, Nat.zero_le _, rfl, rfl, rfl, MulI.zero Hdo.out, ho, hbel⟩
      case round =>
        clear ho hbel c0'
        obtain ⟨k, cv, p, hk, rfl, rfl, rfl, hI, ho, hbel⟩ := hrel
        have HI := Lib.hid hI
        obtain ⟨hc0, hc1⟩ := hI.2.2.1
        clear hI
        by_cases hltk : k < n2
        · obtain ⟨b2, o2, y, rfl, hb2, hy, d0⟩ := hb.atI hltk
          have Hy := Lib.hid (gi_eq hy)
          have hyd := Hdb.out k hltk
          rw [Hy.out] at hyd
          have d0' := (hbel.cell (p := ⟨b2, o2 + k, none⟩) hb2).trans d0
          obtain ⟨z0, z1⟩ := ho.cellI (i := j + k) (by omega)
          have hpd := HI.out.2.1 (j + k) (by omega)
          obtain ⟨u, hu⟩ : ∃ u, p (j + k) = u := ⟨_, rfl⟩
          rw [hu] at z0 hpd
          have Hu := Lib.hid hu
          have hxy := mul_bd hxd hyd
          have hki : (k : Int) < (n2 : Int) := by omega
          have hk0 : (0 : Int) ≤ (k : Int) := by omega
          have hjk : (j : Int) + (k : Int) < (n : Int) + (n2 : Int) := by omega
          have hwjk : IntKind.i64.wrap ((j : Int) + (k : Int)) = ((j + k : Nat) : Int) := by rw [IntWalk.i64_in _ (by omega)]; omega
          have hw2 : IntKind.i64.wrap (x * y) = x * y := IntWalk.i64_in _ (by omega)
          have hw3 : IntKind.i64.wrap (u + x * y) = u + x * y := IntWalk.i64_in _ (by omega)
          have hw4 : IntKind.i64.wrap (u + x * y + cv) = u + x * y + cv := IntWalk.i64_in _ (by omega)
          have hmask := and_mask (u + x * y + cv)
          have hN := HI.out.step hxd (by rw [Hy.out]; exact hyd) (by omega)
          rw [Hu.out, Hy.out] at hN
          have HN := Lib.hid hN
          have ho3 := ho.setI (i := j + k) (by omega) ((u + x * y + cv) % 1048576)
          have hb3 := hbel.setCell (p := ⟨w.heap.size, j + k, none⟩) (Nat.le_refl _) (.int .i64 ((u + x * y + cv) % 1048576))
          clear hN hy d0 ho hbel hu
          go_wp2
          go_roundg (n2 - (k + 1))
          case rel => exact ⟨k + 1, _, _, by omega, rfl, by go_num, rfl, HN.out, ho3, hb3⟩
          case measure => omega
        · have ee : k = n2 := by omega
          subst ee
          obtain ⟨z0, z1⟩ := ho.cellI (i := j + k) (by omega)
          have hp0 := HI.out.2.2.2 (j + k) (Nat.le_refl _)
          rw [Hzo.out (j + k) (Nat.le_refl _)] at hp0
          obtain ⟨f1, f2, f3⟩ := HI.out.fin (by omega) (Hzo.out (j + k) (Nat.le_refl _))
          rw [hp0] at z0
          rw [hp0, Int.zero_add] at f1 f2 f3
          have Hf1 := Lib.hid (show vF (updF p (j + k) cv) (n + k) = vF (gi a) (j + 1) * vF (gi b) k from by rw [f1, Hvo.out, row_next, vF, Hx.out])
          have Hf2 := Lib.hid f2
          have Hf3 := Lib.hid (show ∀ q, j + 1 + k ≤ q → updF p (j + k) cv q = 0 from fun q hq => by rw [f3 q (by omega)]; exact Hzo.out q (by omega))
          have hjk : (j : Int) + (k : Int) < (n : Int) + (k : Int) := by omega
          have hk0 : (0 : Int) ≤ (k : Int) := by omega
          have hwjk : IntKind.i64.wrap ((j : Int) + (k : Int)) = ((j + k : Nat) : Int) := by rw [IntWalk.i64_in _ (by omega)]; omega
          have hwc : IntKind.i64.wrap (0 + cv) = cv := by rw [Int.zero_add]; exact IntWalk.i64_in _ (by omega)
          have hwc2 : IntKind.i64.wrap cv = cv := IntWalk.i64_in _ (by omega)
          have ho3 := ho.setI (i := j + k) (by omega) cv
          have hb3 := hbel.setCell (p := ⟨w.heap.size, j + k, none⟩) (Nat.le_refl _) (.int .i64 cv)
          clear f1 f2 f3 hp0 ho hbel
          go_wp2
          go_roundg (n - (j + 1))
          case rel => exact ⟨j + 1, updF p (j + k) cv, by omega, rfl, by go_num, Hf1.out, Hf2.out, Hf3.out, ho3, hb3⟩
          case measure => omega
    · have ee : j = n := by omega
      subst ee
      have Hv := Lib.hid (Hvo.out.trans Hval.out)
      go_wp2_with fail
      refine (trim_own w.heap.size _ _ _ _ _ ho (by omega) Hdo.out).mono ?_
      rintro e _ ⟨⟨v, rfl, hv⟩, rfl⟩
      rw [Hv.out] at hv
      go_wp2
      go_ret
      exact ⟨⟨_, rfl, hv⟩, hbel⟩
set_option maxRecDepth 100000 in
set_option maxHeartbeats 2000000 in
theorem bshort_any (A : Option Addr) (n cap : Nat) (a : List Int) (d : Int) (w : World) (ha : RdI w w.heap.size A n cap a) (da : DgOk a) (hn : n ≤ 10000) (hd : 1 ≤ d ∧ d ≤ 1048576) :
    Calls Tryd.prog 37 #[.slice A n cap, .int .i64 d] w fun e w' => (∃ v, e = .returned (.tuple #[v, .int .i64 (val a % d)]) ∧ Own 1 iEnc w' w.heap.size 3 v (digs (val a / d).toNat)) ∧ Below w.heap.size w w' := by
  obtain ⟨i0, hi0, hz0, hz1, hz2⟩ := info_parts int_info
  have hla := ha.len
  have Hval := Lib.hid (val_vF hla)
  have Hda := Lib.hid (da.at hla)
  have hwn : IntKind.i64.wrap ((n : Int) - 1) = (n : Int) - 1 := IntWalk.i64_in _ (by omega)
  have hd0 : (d == 0) = false := by simp; omega
  have hd0' : ¬ d = 0 := by omega
  clear hla da
  go_enter Tryd.func37, Tryd.ntmps37
  go_wp2_with (at_make; refine wpList_mk _ iSized 0 rfl _ _ 22 rfl w.heap.size 3 i0 (.int .i64 0) Tryd.underlying22 hi0 hz0 hz1 rfl _ _ _ _ n rfl rfl rfl rfl (by rw [hz2]; omega) (by unfold maxLen; omega) (Nat.le_refl _) ?_
               intro w2 ho2 hg2
               have hb2 : Below w.heap.size w w2 := (Below.refl _ _).grown hg2 (Nat.le_refl _) (by intro k hk; cases hk))
  clear hg2
  go_loopg [7, 8] n (fun gk r i wr => ∃ (k : Nat) (rv : Int) (o : Nat → Int), k ≤ n ∧ k = gk ∧ i = .int .i64 ((k : Int) - 1) ∧ r = .int .i64 rv ∧ ShI (gi a) o n k d rv ∧ Own 1 iEnc wr w.heap.size 3 (.slice (some ⟨w.heap.size, 0, none⟩) n n) (ofF n o) ∧ Below w.heap.size w wr)
  case atStart => exact ⟨n, 0, fun _ => 0, Nat.le_refl _, rfl, rfl, rfl, ShI.zero (by omega), by rw [← ofF_rep]; exact ho2, hb2⟩
  case round =>
    clear ho2 hb2
    obtain ⟨k, rv, o, hk, rfl, rfl, rfl, hI, ho, hbel⟩ := hrel
    have HI := Lib.hid hI
    obtain ⟨hr0, hr1⟩ := hI.2.1
    clear hI
    rcases Nat.eq_zero_or_pos k with hk0 | hk0
    · subst hk0
      obtain ⟨f1, f2, f3⟩ := HI.out.fin
      have Hf1 := Lib.hid f1; have Hf2 := Lib.hid f2; have Hf3 := Lib.hid f3
      clear f1 f2 f3
      go_wp2_with fail
      refine (trim_own w.heap.size _ _ _ _ _ ho (by omega) Hf3.out).mono ?_
      rintro e _ ⟨⟨v, rfl, hv⟩, rfl⟩
      rw [Hf1.out, ← Hval.out] at hv
      have Hr := Lib.hid (show rv = val a % d from by rw [Hf2.out, Hval.out])
      go_wp2
      go_ret2
      exact ⟨⟨_, by rw [← Hr.out]; rfl, hv⟩, hbel⟩
    · obtain ⟨m, rfl⟩ : ∃ m, k = m + 1 := ⟨k - 1, by omega⟩
      obtain ⟨b1, o1, x, rfl, hb1, hx, c0⟩ := ha.atI (k := m) (by omega)
      have Hx := Lib.hid (gi_eq hx)
      have hxd := Hda.out m (by omega)
      rw [Hx.out] at hxd
      have c0' := (hbel.cell (p := ⟨b1, o1 + m, none⟩) hb1).trans c0
      obtain ⟨z0, z1⟩ := ho.cellI (i := m) (by omega)
      have h1 : (m : Int) < (n : Int) := by omega
      have h2 : (0 : Int) ≤ (m : Int) := by omega
      have hor := or_join rv x hr0 (by omega) hxd.1 hxd.2
      have hws : IntKind.i64.wrap (rv * 1048576) = rv * 1048576 := IntWalk.i64_in _ (by omega)
      have hN := (HI.out.congr (o' := fun j => if j = m then (rv * 1048576 + x) / d else o j) (fun j h1 h2 => if_neg (by omega))).step (by omega) (by omega) (by rw [Hx.out]; exact hxd) (by rw [if_pos rfl, Hx.out])
      rw [Hx.out] at hN
      have hN2 := hN.2.2 m (Nat.le_refl _) (by omega)
      have eN : (fun j => if j = m then (rv * 1048576 + x) / d else o j) m = (rv * 1048576 + x) / d := if_pos rfl
      rw [eN] at hN2
      have htd : (rv * 1048576 + x).tdiv d = (rv * 1048576 + x) / d := Int.tdiv_eq_ediv_of_nonneg (by omega)
      have htm : (rv * 1048576 + x).tmod d = (rv * 1048576 + x) % d := Int.tmod_eq_emod_of_nonneg (by omega)
      have hwq : IntKind.i64.wrap ((rv * 1048576 + x) / d) = (rv * 1048576 + x) / d := IntWalk.i64_in _ (by omega)
      have hmd := hN.2.1
      have hwm : IntKind.i64.wrap ((rv * 1048576 + x) % d) = (rv * 1048576 + x) % d := IntWalk.i64_in _ (by omega)
      have HN := Lib.hid hN
      have ho3 := ho.setI (i := m) (by omega) ((rv * 1048576 + x) / d)
      have hb3 := hbel.setCell (p := ⟨w.heap.size, m, none⟩) (Nat.le_refl _) (.int .i64 ((rv * 1048576 + x) / d))
      clear hN hN2 eN hmd hx c0 ho hbel
      go_wp2
      go_roundg m
      case rel => exact ⟨m, _, _, by omega, rfl, by go_num, rfl, HN.out, ho3, hb3⟩
      case measure => omega
end Go.Proofs.YtkeajohkpmabcaaDoor
