/- Walk over the insertion sort of package slices, by a comparison of rests. Conditions stand in the theorem. -/
import Derived.Test.YtinfcngkbdiddaaCt
namespace Go.Proofs.Ytinfcngkbdiddaa
open Go.RowKit
set_option linter.unusedVariables false
set_option linter.unusedSimpArgs false

/-- a block that holds an order of indices -/
def ordA (n : Nat) (d : Nat → Nat) : Array Value := ((List.range n).map fun i => Value.int .i64 (d i : Int)).toArray
theorem ordA_get {n i : Nat} {d : Nat → Nat} (h : i < n) : (ordA n d)[i]? = some (.int .i64 (d i : Int)) := by
  unfold ordA
  simp [h]
theorem ordA_set {n j v : Nat} {d : Nat → Nat} : (ordA n d).setIfInBounds j (.int .i64 (v : Int)) = ordA n (fun i => if i = j then v else d i) := by
  apply Array.ext_getElem?
  intro i
  unfold ordA
  rw [Array.getElem?_setIfInBounds]
  by_cases h : i < n
  · by_cases e : j = i
    · subst e
      simp [h]
    · have e' : ¬ i = j := fun x => e x.symm
      simp [h, e, e']
  · have h' : ¬ j < n ∨ j ≠ i := by omega
    by_cases e : j = i
    · subst e
      simp [h]
    · simp [h, e]
theorem St.setJ {w W : World} {L : List Blk} {D : List Hl} {g j : Nat} {cs : Array Value} {t : TypeId} {v : Value} (h : St w ((g, cs, t) :: L) D W) : St w ((g, cs.setIfInBounds j v, t) :: L) D (W.setCell ⟨g, j, none⟩ v) :=
  h.upd (Upd.head _) (OnlyB.set W g j v) ((h.blk List.mem_cons_self).set v)
set_option maxRecDepth 100000 in
set_option maxHeartbeats 4000000 in
theorem ins_any (g n cap : Nat) (p : Addr) (r : Nat → Rat) (w0 : World) (L : List Blk) (D : List Hl) (hn : 1 ≤ n) (hn2 : n ≤ cap ∧ cap ≤ 1000)
    (HC : ∀ (d : Nat → Nat) W, St w0 ((g, ordA n d, 3) :: L) D W → ∀ a b : Nat, a < n → b < n → Calls Try.prog 30 #[.int .i64 a, .int .i64 b, .pointer (some p)] W fun e W' => e = .returned (.int .i64 (cmpQ (r b) (r a))) ∧ Below W.heap.size W W')
    (w : World) (K : St w0 ((g, ordA n (fun k => k), 3) :: L) D w) :
    Calls Try.prog 86 #[.slice (some ⟨g, 0, none⟩) n cap, .int .i64 0, .int .i64 n, .func (.func 30) #[] #[.pointer (some p)]] w fun e w' => e = .returned (.tuple #[]) ∧ ∃ d, Ord n r d ∧ St w0 ((g, ordA n d, 3) :: L) D w' := by
  have HCm := Lib.hid HC
  clear HC
  go_enter Try.func86, Try.ntmps86
  go_wp2
  go_loopg [8] n (fun gk s8 wr => ∃ (i : Nat) (d : Nat → Nat), i ≤ n ∧ gk = n + 1 - i ∧ s8 = .int .i64 i ∧ Hid (InsO n r d i) ∧ St w0 ((g, ordA n d, 3) :: L) D wr)
  case atStart => exact ⟨1, fun k => k, hn, rfl, rfl, Lib.hid (InsO.start n r hn), K⟩
  case round =>
    clear K
    obtain ⟨i, d, hi, rfl, rfl, HI, K⟩ := hrel
    by_cases hlt : i < n
    · have hki : (i : Int) < (n : Int) := by omega
      have HJ := Lib.hid (HI.out.into hlt)
      clear HI
      go_wp2
      go_loopg [9] i (fun gk s9 wr => ∃ (j : Nat) (d : Nat → Nat), j ≤ i ∧ j = gk ∧ s9 = .int .i64 j ∧ Hid (InsI n r d i j) ∧ St w0 ((g, ordA n d, 3) :: L) D wr)
      case atStart => exact ⟨i, d, Nat.le_refl _, rfl, rfl, HJ, K⟩
      case round =>
        clear K HJ
        obtain ⟨j, d, hj, rfl, rfl, HJ, K⟩ := hrel
        rcases Nat.eq_zero_or_pos j with hj0 | hj0
        · subst hj0
          have HO := Lib.hid (HJ.out.done (Or.inl rfl))
          clear HJ
          go_upto_region 4 with fail
          go_quiet (fail)
          go_wp2
          go_roundg (n + 1 - (i + 1))
          case rel => exact ⟨i + 1, d, hlt, rfl, by go_num, HO, K.drewN _⟩
          case measure => omega
        · obtain ⟨m, rfl⟩ : ∃ m, j = m + 1 := ⟨j - 1, by omega⟩
          have hmi : m + 1 ≤ i := hj
          obtain ⟨ι, f, hne, hfw, hfk, hfc⟩ := cls_st2 (fun W => St w0 ((g, ordA n d, 3) :: L) D W) wr K (fun W h => h.drew)
          have hd0 : d (m + 1) < n := by rw [HJ.out.2.2.1]; omega
          have hd1 : d m < n := by have := HJ.out.2.2.2.2.1 m (by omega) (by omega); omega
          obtain ⟨M, hM⟩ : ∃ M, cmpQ (r (d m)) (r (d (m + 1))) = M := ⟨_, rfl⟩
          have QC := Lib.hid (fun q => (HCm.out d (f q) (hfk q) (d (m + 1)) (d m) hd0 hd1).mono fun e w'' ⟨he, hb⟩ => (⟨by rw [← hM]; exact he, hfc _ ((hfk q).keep hb)⟩ : e = Ending.returned (.int .i64 M) ∧ ∃ s, w'' = f s))
          have u0 : ∀ q, (f q).cell? ⟨g, m + 1, none⟩ = some (.int .i64 (d (m + 1) : Int)) := fun q => ((hfk q).blk List.mem_cons_self).cell (ordA_get (by omega))
          have u1 : ∀ q, (f q).cell? ⟨g, m, none⟩ = some (.int .i64 (d m : Int)) := fun q => ((hfk q).blk List.mem_cons_self).cell (ordA_get (by omega))
          have hiff : M < 0 ↔ r (d m) < r (d (m + 1)) := by
            rw [← hM]
            unfold cmpQ
            split
            · simp [*]
            · split <;> simp [*]
          have h0 : ((m + 1 : Nat) : Int) - 1 = (m : Int) := by omega
          have hw : IntKind.i64.wrap (((m : Nat) : Int) + 1 - 1) = (m : Int) := by
            rw [show ((m : Nat) : Int) + 1 - 1 = (m : Int) by omega]
            exact IntWalk.i64_in _ (by omega)
          have hm0 : (0 : Int) ≤ (m : Int) := by omega
          have hmn : (m : Int) < (n : Int) := by omega
          have hmn1 : (m : Int) + 1 < (n : Int) := by omega
          have Hfw := Lib.hid hfw
          have Hfk := Lib.hid hfk
          clear hM hd0 hd1 hfw hfk hfc
          by_cases hc : M < 0
          · have hcd : decide (M < 0) = true := decide_eq_true hc
            have HS := Lib.hid (HJ.out.step (by omega) (hiff.1 hc))
            clear HJ hiff
            go_upto_region 4 with fail
            refine wp_region_cls2 (C := fun w' => ∃ n, w' = f n) (by kernel_rfl) (by kernel_rfl) Hfw.out ?_
            repeat (first
              | go_big_quiet_skip
              | (go_big_quiet_want; go_big_quiet_op; first | go_big_quiet_on | go_big_quiet_call ((go_at_call 30; with_reducible exact QC.out _))))
            refine wpQuiet_nil ?_
            rintro _ ⟨nq, rfl⟩
            have K := Hfk.out nq
            have t0 := u0 nq
            have t1 := u1 nq
            have z0 : (f nq).frozen? ⟨g, m + 1, none⟩ = false := (K.blk List.mem_cons_self).thaw
            have z1 : (f nq).frozen? ⟨g, m, none⟩ = false := (K.blk List.mem_cons_self).thaw
            have hne : (⟨g, m + 1, none⟩ : Addr) ≠ ⟨g, m, none⟩ := by simp
            clear QC u0 u1
            generalize f nq = W at *
            have K2 := (K.setJ (j := m + 1) (v := .int .i64 (d m : Int))).setJ (j := m) (v := .int .i64 (d (m + 1) : Int))
            rw [ordA_set, ordA_set] at K2
            have ed : (fun i => if i = m then d (m + 1) else if i = m + 1 then d m else d i) = swp d (m + 1) := by
              funext k
              unfold swp
              rw [Nat.add_sub_cancel]
              by_cases e1 : k = m
              · subst e1; simp
              · by_cases e2 : k = m + 1
                · subst e2; simp
                · rw [if_neg e1, if_neg e2, if_neg e2, if_neg e1]
            rw [ed] at K2
            have HK := Lib.hid K2
            clear ed K2 K
            go_upto_region 6 with fail
            go_region
            all_goals
              clear t0 t1 z0 z1
              go_wp2
              go_roundg m
              case rel => exact ⟨m, swp d (m + 1), by omega, rfl, by go_num, HS, by first | exact HK.out | exact HK.out.drew | exact HK.out.keep (Below.refl _ _).drew⟩
              case measure => omega
          · have hcd : decide (M < 0) = false := decide_eq_false hc
            have HO := Lib.hid (HJ.out.done (Or.inr (fun h => hc (hiff.2 h))))
            clear HJ hiff
            go_upto_region 4 with fail
            refine wp_region_cls2 (C := fun w' => ∃ n, w' = f n) (by kernel_rfl) (by kernel_rfl) Hfw.out ?_
            repeat (first
              | go_big_quiet_skip
              | (go_big_quiet_want; go_big_quiet_op; first | go_big_quiet_on | go_big_quiet_call ((go_at_call 30; with_reducible exact QC.out _))))
            refine wpQuiet_nil ?_
            rintro _ ⟨nq, rfl⟩
            have K := Hfk.out nq
            clear QC u0 u1
            go_wp2
            go_roundg (n + 1 - (i + 1))
            case rel => exact ⟨i + 1, d, hlt, rfl, by go_num, HO, K⟩
            case measure => omega
    · have e : i = n := by omega
      subst e
      have HO := Lib.hid HI.out.fin
      clear HI
      go_wp2
      go_returns
      exact ⟨rfl, d, HO.out, K⟩
end Go.Proofs.Ytinfcngkbdiddaa
