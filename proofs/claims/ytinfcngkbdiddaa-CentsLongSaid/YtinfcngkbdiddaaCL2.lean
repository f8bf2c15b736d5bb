
/- Walk over Shares of the reference of layer 27. Conditions stand in each theorem. -/
import Derived.Test.YtinfcngkbdiddaaCL1
import Derived.Test.YtinfcngkbdiddaaC2
import Derived.BigGuard
namespace Go.Proofs.Ytinfcngkbdiddaa
open Go.RowKit
set_option linter.unusedVariables false
set_option linter.unusedSimpArgs false

def byE : Int → List Value := fun x => [.int .u8 x]
theorem Rd.atB {w : World} {B : Nat} {A : Option Addr} {n cap : Nat} {l : List Int} (h : Rd 1 (flat byE) w B A n cap l) {k : Nat} (hk : k < n) :
    ∃ b off x, A = some ⟨b, off, none⟩ ∧ b < B ∧ l[k]? = some x ∧ w.cell? ⟨b, off + k, none⟩ = some (.int .u8 x) := by
  obtain ⟨b, off, rfl, hb, hc⟩ := h.2.2.2 (by omega)
  have hl := h.1
  obtain ⟨cs, rfl, hl, hj⟩ := hc k (by omega)
  exact ⟨b, off, l[k], rfl, hb, List.getElem?_eq_getElem (by omega), by simpa [byE] using hj 0 _ rfl⟩
/-- a round's parts -/
def prt (P : List Int) (i : Nat) : Int := P.getD i 0
theorem prt_at {P : List Int} {i : Nat} {x : Int} (h : P[i]? = some x) : prt P i = x := by
  unfold prt
  rw [List.getD_eq_getElem?_getD, h]
  rfl
theorem prt_out {P : List Int} {i : Nat} (h : P.length ≤ i) : prt P i = 0 := by
  unfold prt
  rw [List.getD_eq_getElem?_getD, List.getElem?_eq_none h]
  rfl
theorem smI_out {P : List Int} : ∀ {n k : Nat}, P.length ≤ k → k ≤ n → smI (prt P) n = smI (prt P) k
  | 0, k, _, h => by
    obtain rfl : k = 0 := by omega
    rfl
  | n + 1, k, h1, h2 => by
    by_cases e : k = n + 1
    · rw [e]
    · rw [smI, smI_out h1 (show k ≤ n by omega), prt_out (by omega), Int.add_zero]
/-- a share -/
def shR (T : Int) (P : List Int) (n i : Nat) : Rat := if smI (prt P) n = 0 then Rat.divInt T n else Rat.divInt (T * prt P i) (smI (prt P) n)
def shL (T : Int) (P : List Int) (n : Nat) : List Fv := ofF n fun i => fvQ (shR T P n i)
theorem prt_rng {P : List Int} (h : ∀ y ∈ P, 0 ≤ y ∧ y ≤ 255) (i : Nat) : 0 ≤ prt P i ∧ prt P i ≤ 255 := by
  cases hx : P[i]? with
  | none => rw [prt_out (List.getElem?_eq_none_iff.1 hx)]; omega
  | some x => rw [prt_at hx]; exact h x (List.mem_of_getElem? hx)
theorem smP_rng {P : List Int} (h : ∀ y ∈ P, 0 ≤ y ∧ y ≤ 255) : ∀ k : Nat, 0 ≤ smI (prt P) k ∧ smI (prt P) k ≤ 255 * k
  | 0 => by simp [smI]
  | k + 1 => by
    have h1 := smP_rng h k
    have h2 := prt_rng h k
    rw [smI]
    push_cast
    omega
theorem St.swapL {w W : World} {X L : List Blk} {D : List Hl} (K : St w (X ++ L) D W) : St w (L ++ X) D W := K.perm List.perm_append_comm
set_option maxRecDepth 100000 in
set_option maxHeartbeats 4000000 in
theorem rshares_any (T : Int) (A : Option Addr) (np cap : Nat) (P : List Int) (n : Nat) (w : World) (hT : 0 ≤ T ∧ T ≤ 1000000) (hl : Rd 1 (flat byE) w w.heap.size A np cap P) (hP : ∀ y ∈ P, 0 ≤ y ∧ y ≤ 255) (hn1 : 1 ≤ n) (hn : n ≤ 6) :
    Calls Try.prog 22 #[.agg #[.int .i64 T, .slice A np cap], .int .i64 n] w fun e w' => ∃ A cap, e = .returned (.slice A n cap) ∧ FrK w w' A n cap (shL T P n) ∧ Below w.heap.size w w' := by
  have K := St.start w
  have r := K.raw
  have hcap := hl.caps
  have HP := Lib.hid hl
  have hlen := hl.len
  have Hr := Lib.hid (fun i => prt_rng hP i)
  have Hs := Lib.hid (fun k => smP_rng hP k)
  have HS := Lib.hid (show ∀ k, k ≤ n → (k = n ∨ k = np) → smI (prt P) k = smI (prt P) n from fun k hk h => by
    rcases h with h | h
    · rw [h]
    · exact (smI_out (by omega) hk).symm)
  have hs0 : smI (prt P) 0 = 0 := rfl
  clear hl hP hlen
  go_enter Try.func22, Try.ntmps22
  go_wp2_with (first | ((first | (apply K.alloc; rfl; rfl; (first | with_reducible exact big_zero | with_reducible exact frac_zero)) | (apply K.box; rfl; rfl; rfl)); clear K r; (first | ((fail_if_success revert b0); intro W b0 K) | ((fail_if_success revert b1); intro W b1 K) | ((fail_if_success revert b2); intro W b2 K) | ((fail_if_success revert b3); intro W b3 K) | ((fail_if_success revert b4); intro W b4 K) | ((fail_if_success revert b5); intro W b5 K) | ((fail_if_success revert b6); intro W b6 K) | ((fail_if_success revert b7); intro W b7 K)); have r := K.rawS) | (apply K.storeA; rfl; rfl; rfl; rfl; rfl; (repeat (first | with_reducible exact Upd.head _ | with_reducible apply Upd.tail)); (first | with_reducible exact big_size | with_reducible exact frac_size); rfl; rfl; rfl; clear K r; intro W K; have r := K.rawS))
  go_loopg [5, 6] n (fun gk s5 s6 wr => ∃ k : Nat, k ≤ n ∧ k ≤ np ∧ gk = n - k ∧ s6 = .int .i64 k ∧ s5 = .int .i64 (smI (prt P) k) ∧ St w [(b0, #[.int .i64 T, .slice A np cap], 48)] [] wr)
  case atStart => exact ⟨0, Nat.zero_le _, Nat.zero_le _, rfl, rfl, rfl, K⟩
  case round =>
    clear K r
    obtain ⟨k, hk, hkp, rfl, rfl, rfl, K⟩ := hrel
    have r := K.rawS
    by_cases hgo : k < n ∧ k < np
    · obtain ⟨hlt, hltp⟩ := hgo
      have hd1 : decide (k < n) = true := decide_eq_true hlt
      have hd2 : decide (k < np) = true := decide_eq_true hltp
      obtain ⟨gb, goff, x, hA, hgb, hx, d0⟩ := HP.out.atB hltp
      subst hA
      have e0 := (K.1.cell (p := ⟨gb, goff + k, none⟩) hgb).trans d0
      have hki : (k : Int) < (np : Int) := by omega
      have hk0 : (0 : Int) ≤ (k : Int) := by omega
      have hpx := prt_at hx
      have hxr := Hr.out k
      rw [hpx] at hxr
      have hst : smI (prt P) (k + 1) = smI (prt P) k + x := by rw [smI, hpx]
      have h3 : IntKind.i64.wrap x = x := IntWalk.i64_in _ (by omega)
      have h4 : IntKind.i64.wrap (smI (prt P) k + x) = smI (prt P) k + x := IntWalk.i64_in _ (by have := Hs.out k; omega)
      have Hst := Lib.hid hst
      clear d0 hgb hx hpx hst hxr
      go_wp2_with fail
      go_roundg (n - (k + 1))
      case rel => exact ⟨k + 1, hlt, hltp, rfl, by go_num, by rw [Hst.out], K⟩
      case measure => omega
    · have hend : smI (prt P) k = smI (prt P) n := HS.out k hk (by omega)
      have hcond : decide (k < n) = false ∨ (decide (k < n) = true ∧ decide (k < np) = false) := by
        by_cases h1 : k < n
        · exact Or.inr ⟨decide_eq_true h1, decide_eq_false (by omega)⟩
        · exact Or.inl (decide_eq_false h1)
      rw [hend]
      obtain ⟨s, hs⟩ : ∃ s, s = smI (prt P) n := ⟨_, rfl⟩
      have hsr := Hs.out n
      rw [← hs] at hsr ⊢
      obtain ⟨R, hR⟩ : ∃ R, R = shR T P n := ⟨_, rfl⟩
      have HR := Lib.hid (show ∀ i, R i = if s = 0 then Rat.divInt T n else Rat.divInt (T * prt P i) s from fun i => by rw [hR, hs]; rfl)
      have HRl := Lib.hid (show ofF n (fun i => fvQ (R i)) = shL T P n from by rw [hR]; rfl)
      clear hend hs hR hgo hs0
      rcases hcond with hd1 | ⟨hd1, hd2⟩
      all_goals
        go_wp2_with fail
        go_loopg [7, 8] n (fun gk v i wr => ∃ (k : Nat) (u : Nat → Rw) (X : List Blk), k ≤ n ∧ gk = n - k ∧ i = .int .i64 k ∧ Hid (∀ j, j < k → (u j).fv = fvQ (R j) ∧ FrA w.heap.size (u j).A ∧ FrA w.heap.size (u j).B) ∧ Hid (OwL 4 Rw.cs 35 v (ofF k u) X) ∧ St w ((b0, #[.int .i64 T, .slice A np cap], 48) :: X) [⟨rwP k u, rwS k u⟩] wr)
        case atStart => exact ⟨0, fun _ => Rw.zero, [], Nat.zero_le _, rfl, rfl, Lib.hid (fun j h => absurd h (by omega)), Lib.hid OwL.nil, K.rwNew 0⟩
        case round =>
          clear K r
          obtain ⟨k, u, X, hk, rfl, rfl, HV, HW, K⟩ := hrel
          have r0 := (K.blk (b := b0) List.mem_cons_self).cell (j := 0) rfl
          have r1 := (K.blk (b := b0) List.mem_cons_self).cell (j := 1) rfl
          by_cases hlt : k < n
          · obtain ⟨p, hp⟩ : ∃ p, p = prt P k := ⟨_, rfl⟩
            have hpr := Hr.out k
            rw [← hp] at hpr
            have hTp : 0 ≤ T * p ∧ T * p ≤ 1000000 * 255 := ⟨Int.mul_nonneg hT.1 hpr.1, Int.mul_le_mul hT.2 hpr.2 hpr.1 (by omega)⟩
            have hwm : IntKind.i64.wrap (T * p) = T * p := IntWalk.i64_in _ (by omega)
            by_cases hs0 : s = 0
            · have hsd : (s == 0) = true := by simp [hs0]
              have HX := Lib.hid (show Rat.divInt T n = R k from by rw [HR.out]; exact (if_pos hs0).symm)
              have HOf := Lib.hid (fun W => rOf_any T n W (by omega) (by omega) (by omega))
              clear hs0
              by_cases hltp : k < np
              · have hd3 : decide (k < np) = true := decide_eq_true hltp
                obtain ⟨gb, goff, x, hA, hgb, hx, d0⟩ := HP.out.atB hltp
                subst hA
                have e0 := (K.1.cell (p := ⟨gb, goff + k, none⟩) hgb).trans d0
                have hki : (k : Int) < (np : Int) := by omega
                have hk0 : (0 : Int) ≤ (k : Int) := by omega
                have hpx : x = p := by rw [hp]; exact (prt_at hx).symm
                rw [hpx] at e0
                have h3 : IntKind.i64.wrap p = p := IntWalk.i64_in _ (by omega)
                clear d0 hgb hx hpx hp hpr hTp
                go_wp2_with fail
                refine (HOf.out _).mono ?_
                rintro e W' ⟨s8, A8, n8, c8, l8, t8, B8, m8, d8, k8, rfl, ⟨hra, hrb⟩, hs8, ⟨hfa, hfb⟩, hb⟩
                have ha8 := hfa.mono (C := w.heap.size) K.bel.size
                have hb8 := hfb.mono (C := w.heap.size) K.bel.size
                replace K := K.retF hb hra hrb hfa hfb
                clear hra hrb hfa hfb hb
                have HV2 := Lib.hid (show ∀ j, j < k + 1 → (putF u k ⟨s8, A8, n8, c8, l8, t8, B8, m8, d8, k8⟩ j).fv = fvQ (R j) ∧ FrA w.heap.size (putF u k ⟨s8, A8, n8, c8, l8, t8, B8, m8, d8, k8⟩ j).A ∧ FrA w.heap.size (putF u k ⟨s8, A8, n8, c8, l8, t8, B8, m8, d8, k8⟩ j).B from fun j hj => by
                  by_cases e : j = k
                  · subst e; rw [putF_same, ← HX.out]; exact ⟨hs8.fv, ha8, hb8⟩
                  · rw [putF_other e]; exact HV.out j (by omega))
                clear hs8 HV ha8 hb8
                replace K := (show St w ([_] ++ X) _ _ from K).swapL
                go_wp2_with (at_builtin; refine K.app1 HW.out rw_sized rfl _ _ 22 rfl _ 64 Try.underlying22 frac_made rfl (by exact rfl) (⟨s8, A8, n8, c8, l8, t8, B8, m8, d8, k8⟩ : Rw) _ rfl _ rfl (by exact rfl) (by rw [ofF_len]; omega) (by omega) ?_; intro v5 Y2 W5 ho5 K5)
                have HW4 := Lib.hid (show OwL 4 Rw.cs 35 v5 (ofF (k + 1) (putF u k ⟨s8, A8, n8, c8, l8, t8, B8, m8, d8, k8⟩)) Y2 from by rw [← ofF_put]; exact ho5)
                clear ho5
                go_roundg (n - (k + 1))
                case rel => exact ⟨k + 1, _, Y2, hlt, rfl, by go_num, HV2, HW4, (show St w (_ :: Y2) _ _ from (K5.swapL.rwAdd ⟨s8, A8, n8, c8, l8, t8, B8, m8, d8, k8⟩ (by repeat (first | with_reducible exact List.mem_cons_self | with_reducible apply List.mem_cons_of_mem)) (by repeat (first | with_reducible exact List.mem_cons_self | with_reducible apply List.mem_cons_of_mem)) (by repeat (first | with_reducible exact List.mem_cons_self | with_reducible apply List.mem_cons_of_mem))).less (by simp only [List.mem_cons, List.not_mem_nil, or_false, forall_eq_or_imp, forall_eq, true_or, or_true, and_self]))⟩
                case measure => omega
              · have hd3 : decide (k < np) = false := decide_eq_false hltp
                clear hp hpr hTp
                go_wp2_with fail
                refine (HOf.out _).mono ?_
                rintro e W' ⟨s8, A8, n8, c8, l8, t8, B8, m8, d8, k8, rfl, ⟨hra, hrb⟩, hs8, ⟨hfa, hfb⟩, hb⟩
                have ha8 := hfa.mono (C := w.heap.size) K.bel.size
                have hb8 := hfb.mono (C := w.heap.size) K.bel.size
                replace K := K.retF hb hra hrb hfa hfb
                clear hra hrb hfa hfb hb
                have HV2 := Lib.hid (show ∀ j, j < k + 1 → (putF u k ⟨s8, A8, n8, c8, l8, t8, B8, m8, d8, k8⟩ j).fv = fvQ (R j) ∧ FrA w.heap.size (putF u k ⟨s8, A8, n8, c8, l8, t8, B8, m8, d8, k8⟩ j).A ∧ FrA w.heap.size (putF u k ⟨s8, A8, n8, c8, l8, t8, B8, m8, d8, k8⟩ j).B from fun j hj => by
                  by_cases e : j = k
                  · subst e; rw [putF_same, ← HX.out]; exact ⟨hs8.fv, ha8, hb8⟩
                  · rw [putF_other e]; exact HV.out j (by omega))
                clear hs8 HV ha8 hb8
                replace K := (show St w ([_] ++ X) _ _ from K).swapL
                go_wp2_with (at_builtin; refine K.app1 HW.out rw_sized rfl _ _ 22 rfl _ 64 Try.underlying22 frac_made rfl (by exact rfl) (⟨s8, A8, n8, c8, l8, t8, B8, m8, d8, k8⟩ : Rw) _ rfl _ rfl (by exact rfl) (by rw [ofF_len]; omega) (by omega) ?_; intro v5 Y2 W5 ho5 K5)
                have HW4 := Lib.hid (show OwL 4 Rw.cs 35 v5 (ofF (k + 1) (putF u k ⟨s8, A8, n8, c8, l8, t8, B8, m8, d8, k8⟩)) Y2 from by rw [← ofF_put]; exact ho5)
                clear ho5
                go_roundg (n - (k + 1))
                case rel => exact ⟨k + 1, _, Y2, hlt, rfl, by go_num, HV2, HW4, (show St w (_ :: Y2) _ _ from (K5.swapL.rwAdd ⟨s8, A8, n8, c8, l8, t8, B8, m8, d8, k8⟩ (by repeat (first | with_reducible exact List.mem_cons_self | with_reducible apply List.mem_cons_of_mem)) (by repeat (first | with_reducible exact List.mem_cons_self | with_reducible apply List.mem_cons_of_mem)) (by repeat (first | with_reducible exact List.mem_cons_self | with_reducible apply List.mem_cons_of_mem))).less (by simp only [List.mem_cons, List.not_mem_nil, or_false, forall_eq_or_imp, forall_eq, true_or, or_true, and_self]))⟩
                case measure => omega
            · have hsd : (s == 0) = false := by simp [hs0]
              have HX := Lib.hid (show Rat.divInt (T * p) s = R k from by rw [HR.out, ← hp]; exact (if_neg hs0).symm)
              have HOf := Lib.hid (fun W => rOf_any (T * p) s W (by omega) (by omega) hs0)
              clear hs0
              by_cases hltp : k < np
              · have hd3 : decide (k < np) = true := decide_eq_true hltp
                obtain ⟨gb, goff, x, hA, hgb, hx, d0⟩ := HP.out.atB hltp
                subst hA
                have e0 := (K.1.cell (p := ⟨gb, goff + k, none⟩) hgb).trans d0
                have hki : (k : Int) < (np : Int) := by omega
                have hk0 : (0 : Int) ≤ (k : Int) := by omega
                have hpx : x = p := by rw [hp]; exact (prt_at hx).symm
                rw [hpx] at e0
                have h3 : IntKind.i64.wrap p = p := IntWalk.i64_in _ (by omega)
                clear d0 hgb hx hpx hp hpr hTp
                go_wp2_with fail
                refine (HOf.out _).mono ?_
                rintro e W' ⟨s8, A8, n8, c8, l8, t8, B8, m8, d8, k8, rfl, ⟨hra, hrb⟩, hs8, ⟨hfa, hfb⟩, hb⟩
                have ha8 := hfa.mono (C := w.heap.size) K.bel.size
                have hb8 := hfb.mono (C := w.heap.size) K.bel.size
                replace K := K.retF hb hra hrb hfa hfb
                clear hra hrb hfa hfb hb
                have HV2 := Lib.hid (show ∀ j, j < k + 1 → (putF u k ⟨s8, A8, n8, c8, l8, t8, B8, m8, d8, k8⟩ j).fv = fvQ (R j) ∧ FrA w.heap.size (putF u k ⟨s8, A8, n8, c8, l8, t8, B8, m8, d8, k8⟩ j).A ∧ FrA w.heap.size (putF u k ⟨s8, A8, n8, c8, l8, t8, B8, m8, d8, k8⟩ j).B from fun j hj => by
                  by_cases e : j = k
                  · subst e; rw [putF_same, ← HX.out]; exact ⟨hs8.fv, ha8, hb8⟩
                  · rw [putF_other e]; exact HV.out j (by omega))
                clear hs8 HV ha8 hb8
                replace K := (show St w ([_] ++ X) _ _ from K).swapL
                go_wp2_with (at_builtin; refine K.app1 HW.out rw_sized rfl _ _ 22 rfl _ 64 Try.underlying22 frac_made rfl (by exact rfl) (⟨s8, A8, n8, c8, l8, t8, B8, m8, d8, k8⟩ : Rw) _ rfl _ rfl (by exact rfl) (by rw [ofF_len]; omega) (by omega) ?_; intro v5 Y2 W5 ho5 K5)
                have HW4 := Lib.hid (show OwL 4 Rw.cs 35 v5 (ofF (k + 1) (putF u k ⟨s8, A8, n8, c8, l8, t8, B8, m8, d8, k8⟩)) Y2 from by rw [← ofF_put]; exact ho5)
                clear ho5
                go_roundg (n - (k + 1))
                case rel => exact ⟨k + 1, _, Y2, hlt, rfl, by go_num, HV2, HW4, (show St w (_ :: Y2) _ _ from (K5.swapL.rwAdd ⟨s8, A8, n8, c8, l8, t8, B8, m8, d8, k8⟩ (by repeat (first | with_reducible exact List.mem_cons_self | with_reducible apply List.mem_cons_of_mem)) (by repeat (first | with_reducible exact List.mem_cons_self | with_reducible apply List.mem_cons_of_mem)) (by repeat (first | with_reducible exact List.mem_cons_self | with_reducible apply List.mem_cons_of_mem))).less (by simp only [List.mem_cons, List.not_mem_nil, or_false, forall_eq_or_imp, forall_eq, true_or, or_true, and_self]))⟩
                case measure => omega
              · have hd3 : decide (k < np) = false := decide_eq_false hltp
                have hp0 : p = 0 := by rw [hp]; exact prt_out (by have := HP.out.len; omega)
                subst hp0
                clear hp hpr hTp hwm
                rw [Int.mul_zero] at HOf HX
                have hwm : IntKind.i64.wrap (T * 0) = 0 := by rw [Int.mul_zero]; exact IntWalk.i64_in _ (by omega)
                have hz : T * 0 = 0 := Int.mul_zero T
                go_wp2_with fail
                refine (HOf.out _).mono ?_
                rintro e W' ⟨s8, A8, n8, c8, l8, t8, B8, m8, d8, k8, rfl, ⟨hra, hrb⟩, hs8, ⟨hfa, hfb⟩, hb⟩
                have ha8 := hfa.mono (C := w.heap.size) K.bel.size
                have hb8 := hfb.mono (C := w.heap.size) K.bel.size
                replace K := K.retF hb hra hrb hfa hfb
                clear hra hrb hfa hfb hb
                have HV2 := Lib.hid (show ∀ j, j < k + 1 → (putF u k ⟨s8, A8, n8, c8, l8, t8, B8, m8, d8, k8⟩ j).fv = fvQ (R j) ∧ FrA w.heap.size (putF u k ⟨s8, A8, n8, c8, l8, t8, B8, m8, d8, k8⟩ j).A ∧ FrA w.heap.size (putF u k ⟨s8, A8, n8, c8, l8, t8, B8, m8, d8, k8⟩ j).B from fun j hj => by
                  by_cases e : j = k
                  · subst e; rw [putF_same, ← HX.out]; exact ⟨hs8.fv, ha8, hb8⟩
                  · rw [putF_other e]; exact HV.out j (by omega))
                clear hs8 HV ha8 hb8
                replace K := (show St w ([_] ++ X) _ _ from K).swapL
                go_wp2_with (at_builtin; refine K.app1 HW.out rw_sized rfl _ _ 22 rfl _ 64 Try.underlying22 frac_made rfl (by exact rfl) (⟨s8, A8, n8, c8, l8, t8, B8, m8, d8, k8⟩ : Rw) _ rfl _ rfl (by exact rfl) (by rw [ofF_len]; omega) (by omega) ?_; intro v5 Y2 W5 ho5 K5)
                have HW4 := Lib.hid (show OwL 4 Rw.cs 35 v5 (ofF (k + 1) (putF u k ⟨s8, A8, n8, c8, l8, t8, B8, m8, d8, k8⟩)) Y2 from by rw [← ofF_put]; exact ho5)
                clear ho5
                go_roundg (n - (k + 1))
                case rel => exact ⟨k + 1, _, Y2, hlt, rfl, by go_num, HV2, HW4, (show St w (_ :: Y2) _ _ from (K5.swapL.rwAdd ⟨s8, A8, n8, c8, l8, t8, B8, m8, d8, k8⟩ (by repeat (first | with_reducible exact List.mem_cons_self | with_reducible apply List.mem_cons_of_mem)) (by repeat (first | with_reducible exact List.mem_cons_self | with_reducible apply List.mem_cons_of_mem)) (by repeat (first | with_reducible exact List.mem_cons_self | with_reducible apply List.mem_cons_of_mem))).less (by simp only [List.mem_cons, List.not_mem_nil, or_false, forall_eq_or_imp, forall_eq, true_or, or_true, and_self]))⟩
                case measure => omega
          · have e : n = k := by omega
            subst e
            obtain ⟨A3, cap3, rfl, hr⟩ := HW.out.frK (L := [(b0, #[.int .i64 T, .slice A np cap], 48)]) (show St w ([(b0, #[.int .i64 T, .slice A np cap], 48)] ++ X) _ _ from K).swapL (by repeat (first | with_reducible exact List.mem_cons_self | with_reducible apply List.mem_cons_of_mem)) (by omega) (rwS_fr fun j hj => (HV.out j hj).2)
            rw [ofF_congr (fun j hj => (HV.out j hj).1), HRl.out] at hr
            have HE := Lib.hid (show ∃ A' cap', Ending.returned (.slice A3 n cap3) = .returned (.slice A' n cap') ∧ FrK w wr A' n cap' (shL T P n) ∧ Below w.heap.size w wr from ⟨A3, cap3, rfl, hr, K.1⟩)
            clear hr HV HW K hlt r0 r1
            go_wp2
            go_ret
            exact HE.out
end Go.Proofs.Ytinfcngkbdiddaa
