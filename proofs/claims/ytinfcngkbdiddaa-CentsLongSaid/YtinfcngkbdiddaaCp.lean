
/- Walk over Split of package cents. Conditions stand in the theorem. -/
import Derived.Test.YtinfcngkbdiddaaCq
namespace Go.Proofs.Ytinfcngkbdiddaa
open Go.RowKit
set_option linter.unusedVariables false
set_option linter.unusedSimpArgs false

theorem slf_zero : (Try.prog.info? 22).map (fun i => i.zero.map (·.cells)) = some (some #[.slice none 0 0]) := by kernel_rfl
theorem slf_size : (Try.prog.info? 22).map (·.size) = some 1 := by kernel_rfl
theorem int_size1 : (Try.prog.info? 3).map (·.size) = some 1 := by kernel_rfl
section
variable {w W : World} {L L' : List Blk} {D : List Hl} {n i g : Nat} {v : Nat → Rw} {t : TypeId} {J : List Value}
/-- a fraction stored into a block of fractions -/
theorem St.setR (h : St w L D W) (x : Rw) (hi : i < n) (hU : Upd g (rwA n v J) t (rwA n (putF v i x) J) L L') :
    St w L' D ((((W.setCell ⟨g, i * 4, none⟩ (.int .i64 x.s)).setCell ⟨g, i * 4 + 1, none⟩ (.slice x.A x.n x.c)).setCell ⟨g, i * 4 + 2, none⟩ (.int .i64 x.t)).setCell ⟨g, i * 4 + 3, none⟩ (.slice x.B x.m x.d)) := by
  refine h.upd hU ((((OnlyB.set W g _ _).trans (OnlyB.set _ g _ _)).trans (OnlyB.set _ g _ _)).trans (OnlyB.set _ g _ _)) ?_
  rw [← rwA_spl hi x]
  exact ((((h.blk hU.mem).set (j := i * 4) (.int .i64 x.s)).set (j := i * 4 + 1) (.slice x.A x.n x.c)).set (j := i * 4 + 2) (.int .i64 x.t)).set (j := i * 4 + 3) (.slice x.B x.m x.d)
/-- what stands there -/
theorem St.cellR (h : St w L D W) (hi : i < n) (hb : ((g, rwA n v J, t) : Blk) ∈ L) : (W.cell? ⟨g, i * 4, none⟩ = some (.int .i64 (v i).s) ∧ W.cell? ⟨g, i * 4 + 1, none⟩ = some (.slice (v i).A (v i).n (v i).c) ∧ W.cell? ⟨g, i * 4 + 2, none⟩ = some (.int .i64 (v i).t) ∧ W.cell? ⟨g, i * 4 + 3, none⟩ = some (.slice (v i).B (v i).m (v i).d)) ∧ ∀ j, W.frozen? ⟨g, j, none⟩ = false := by
  have hB := h.blk hb
  exact ⟨⟨hB.cell (rwA_get (j := 0) hi (by omega)), hB.cell (rwA_get (j := 1) hi (by omega)), hB.cell (rwA_get (j := 2) hi (by omega)), hB.cell (rwA_get (j := 3) hi (by omega))⟩, fun j => hB.thaw⟩
theorem St.cellN (h : St w L D W) {f : Nat → Int} (hi : i < n) (hb : ((g, intA n f J, t) : Blk) ∈ L) : W.cell? ⟨g, i, none⟩ = some (.int .i64 (f i)) := (h.blk hb).cell (intA_get hi)
end
theorem SplitC.drewN {w W : World} {total : Int} {sh me : List Fv} {e : Ending} (h : SplitC w total sh me e W) (q : Nat) : SplitC w total sh me e (W.drewN q) := by
  obtain ⟨A, n, cap, got, A', n', cap', aft, h1, ⟨h2, h3⟩, h4, h5, h6⟩ := h
  have hb := below_drewN (Below.refl W.heap.size W) q
  exact ⟨A, n, cap, got, A', n', cap', aft, h1, ⟨h2.up (flat_lasts _) hb, h3.up fE_lasts hb⟩, h4, h5, below_drewN h6 q⟩
/-- what Split leaves, its memories on blocks of its own -/
def SplitG (w : World) (total : Int) (sh me : List Fv) (e : Ending) (w' : World) : Prop :=
  ∃ A n cap got A' n' cap' aft, e = .returned (.tuple #[.slice A n cap, .slice A' n' cap', .int .i64 (splitE total sh me)]) ∧ (RdI w' w'.heap.size A n cap got ∧ RdF w' w'.heap.size A' n' cap' aft) ∧
    (splitE total sh me ≠ 0 → got = [] ∧ aft = []) ∧ (splitE total sh me = 0 → (∀ x ∈ aft, x.ok = true) ∧ SplitP total (ratL sh) (ratL me) got (ratL aft)) ∧ Below w.heap.size w w' ∧
    (∀ W : World, w'.heap.size ≤ W.heap.size → (∀ b, w.heap.size ≤ b → b < w'.heap.size → W.heap[b]? = w'.heap[b]?) → RdI W W.heap.size A n cap got ∧ RdF W W.heap.size A' n' cap' aft)
theorem SplitG.toC {w w' : World} {total : Int} {sh me : List Fv} {e : Ending} (h : SplitG w total sh me e w') : SplitC w total sh me e w' := by
  obtain ⟨A, n, cap, got, A', n', cap', aft, h1, h2, h4, h5, h6, -⟩ := h
  exact ⟨A, n, cap, got, A', n', cap', aft, h1, h2, h4, h5, h6⟩
theorem SplitG.drewN {w W : World} {total : Int} {sh me : List Fv} {e : Ending} (h : SplitG w total sh me e W) (q : Nat) : SplitG w total sh me e (W.drewN q) := by
  obtain ⟨A, n, cap, got, A', n', cap', aft, h1, ⟨h2, h3⟩, h4, h5, h6, h7⟩ := h
  have hb := below_drewN (Below.refl W.heap.size W) q
  exact ⟨A, n, cap, got, A', n', cap', aft, h1, ⟨h2.up (flat_lasts _) hb, h3.up fE_lasts hb⟩, h4, h5, below_drewN h6 q, h7⟩
/-- a block of ints that the call has made -/
theorem St.rdNK {w W : World} {L : List Blk} {D : List Hl} {n g cap : Nat} {f : Nat → Int} {t : TypeId} (h : St w L D W) (hb : ((g, intA n f, t) : Blk) ∈ L) (hc : n ≤ cap ∧ cap ≤ 1000000) :
    ∀ W' : World, W.heap.size ≤ W'.heap.size → (∀ b, w.heap.size ≤ b → b < W.heap.size → W'.heap[b]? = W.heap[b]?) → RdI W' W'.heap.size (some ⟨g, 0, none⟩) n cap (ofF n f) := fun W' h1 h2 => by
  have hB := h.2.1 _ hb
  have hB' : Hb W' g (intA n f) t := hB.2.of (h2 g hB.1 hB.2.lt)
  refine ⟨ofF_len, hc.1, ⟨by omega, by omega⟩, fun hn => ⟨g, 0, rfl, hB'.lt, fun k hk => ?_⟩⟩
  rw [ofF_len] at hk
  refine ⟨_, rfl, rfl, fun j u hu => ?_⟩
  have hj : j = 0 := by
    have : j < 1 := (List.getElem?_eq_some_iff.1 hu).1
    omega
  subst hj
  rw [Nat.zero_add, Nat.mul_one, Nat.add_zero]
  refine (hB'.cell (intA_get hk)).trans ?_
  rw [← hu]
  have e : (ofF n f)[k]'(by rw [ofF_len]; exact hk) = f k := by
    have := ofF_get (f := f) hk
    rw [List.getElem?_eq_getElem (by rw [ofF_len]; exact hk)] at this
    exact Option.some.inj this
  rw [e]
  rfl
/-- a block of fractions that leans on the call's own blocks alone -/
theorem St.rdFK {w W : World} {L : List Blk} {D : List Hl} {n g cap : Nat} {v : Nat → Rw} {t : TypeId} (h : St w L D W) (hb : ((g, rwA n v, t) : Blk) ∈ L) (hm : (⟨rwP n v, rwS n v⟩ : Hl) ∈ D) (hc : n ≤ cap ∧ cap ≤ 1000000) (hf : ∀ j, j < n → FrA w.heap.size (v j).A ∧ FrA w.heap.size (v j).B) :
    ∀ W' : World, W.heap.size ≤ W'.heap.size → (∀ b, w.heap.size ≤ b → b < W.heap.size → W'.heap[b]? = W.heap[b]?) → RdF W' W'.heap.size (some ⟨g, 0, none⟩) n cap (ofF n fun i => (v i).fv) := fun W' h1 h2 => by
  have hB := h.2.1 _ hb
  have hD := h.2.2.2 _ hm
  have hv : rwP n v W' := hD.2.2 W' h1 (fun b hS => h2 b (by
    obtain ⟨j, hj, hS⟩ := hS
    rcases hS with ⟨-, a, e1, e2⟩ | ⟨-, a, e1, e2⟩
    · rw [← e2]; exact (hf j hj).1 a e1
    · rw [← e2]; exact (hf j hj).2 a e1) (hD.2.1 b hS).1)
  have hB' : Hb W' g (rwA n v) t := hB.2.of (h2 g hB.1 hB.2.lt)
  refine ⟨ofF_len, hc.1, ⟨by omega, by omega⟩, fun hn => ⟨g, 0, rfl, hB'.lt, fun k hk => ?_⟩⟩
  rw [ofF_len] at hk
  refine ⟨(v k).cs, ?_, rfl, fun j u hu => ?_⟩
  · have e : (ofF n fun i => (v i).fv)[k]'(by rw [ofF_len]; exact hk) = (v k).fv := by
      have := ofF_get (f := fun i => (v i).fv) hk
      rw [List.getElem?_eq_getElem (by rw [ofF_len]; exact hk)] at this
      exact Option.some.inj this
    rw [e]
    exact ⟨_, _, _, _, _, _, rfl, (hv k hk).1, (hv k hk).2⟩
  · have hj : j < 4 := (List.getElem?_eq_some_iff.1 hu).1
    rw [Nat.zero_add]
    exact hB'.cell ((rwA_get hk hj).trans hu)
set_option maxRecDepth 100000 in
set_option maxHeartbeats 8000000 in
theorem csplit_own (total : Int) (A A2 : Option Addr) (n cap n2 cap2 : Nat) (l m : List Fv) (w : World) (hl : RdF w w.heap.size A n cap l) (hm : RdF w w.heap.size A2 n2 cap2 m) (ht : -9223372036854775808 ≤ total ∧ total ≤ 9223372036854775807) (hn : n ≤ 19) :
    Calls Try.prog 9 #[.int .i64 total, .slice A n cap, .slice A2 n2 cap2] w (SplitG w total l m) := by
  have hcaps := hl.caps
  have hcaps2 := hm.caps
  have hlen := hl.len
  have hlen2 := hm.len
  have K := St.start w
  have r := K.raw
  have HK := Lib.hid (fun W (h : Below w.heap.size w W) => ccheck_any total A A2 n cap n2 cap2 l m W (hl.up fE_lasts h) (hm.up fE_lasts h) ht)
  have HL := Lib.hid hl
  have HM := Lib.hid hm
  by_cases h0 : checkC total l m = 0
  case neg =>
    have HX := Lib.hid (show splitE total l m = checkC total l m from if_neg h0)
    have HN := Lib.hid (show splitE total l m ≠ 0 from by rw [HX.out]; exact h0)
    generalize checkC total l m = E at *
    have hd : (E != 0) = true := by simp [h0]
    clear h0 hl hm hlen hlen2
    go_enter Try.func9, Try.ntmps9
    go_wp2_with (first | ((first | (apply K.alloc; rfl; rfl; (first | with_reducible exact big_zero | with_reducible exact frac_zero)) | (apply K.box; rfl; rfl; rfl)); clear K r; (first | ((fail_if_success revert b0); intro W b0 K) | ((fail_if_success revert b1); intro W b1 K) | ((fail_if_success revert b2); intro W b2 K) | ((fail_if_success revert b3); intro W b3 K) | ((fail_if_success revert b4); intro W b4 K) | ((fail_if_success revert b5); intro W b5 K) | ((fail_if_success revert b6); intro W b6 K) | ((fail_if_success revert b7); intro W b7 K)); have r := K.rawS) | (apply K.storeA; rfl; rfl; rfl; rfl; rfl; (repeat (first | with_reducible exact Upd.head _ | with_reducible apply Upd.tail)); (first | with_reducible exact big_size | with_reducible exact frac_size); rfl; rfl; rfl; clear K r; intro W K; have r := K.rawS))
    refine (HK.out _ K.1).mono ?_
    rintro e W' ⟨rfl, hb⟩
    replace K := K.keep hb
    clear r
    have r := K.rawS
    clear hb
    go_wp2_with (first | ((first | (apply K.alloc; rfl; rfl; (first | with_reducible exact big_zero | with_reducible exact frac_zero)) | (apply K.box; rfl; rfl; rfl)); clear K r; (first | ((fail_if_success revert b0); intro W b0 K) | ((fail_if_success revert b1); intro W b1 K) | ((fail_if_success revert b2); intro W b2 K) | ((fail_if_success revert b3); intro W b3 K) | ((fail_if_success revert b4); intro W b4 K) | ((fail_if_success revert b5); intro W b5 K) | ((fail_if_success revert b6); intro W b6 K) | ((fail_if_success revert b7); intro W b7 K)); have r := K.rawS) | (apply K.storeA; rfl; rfl; rfl; rfl; rfl; (repeat (first | with_reducible exact Upd.head _ | with_reducible apply Upd.tail)); (first | with_reducible exact big_size | with_reducible exact frac_size); rfl; rfl; rfl; clear K r; intro W K; have r := K.rawS))
    have HE := Lib.hid (⟨none, 0, 0, [], none, 0, 0, [], by rw [HX.out], ⟨Rd.nil, Rd.nil⟩, fun _ => ⟨rfl, rfl⟩, fun h => absurd h HN.out, K.1, fun _ _ _ => ⟨Rd.nil, Rd.nil⟩⟩ : SplitG w total l m (.returned (.tuple #[.slice none 0 0, .slice none 0 0, .int .i64 E])) W')
    exact bodyPost_ret (v := .tuple #[.slice none 0 0, .slice none 0 0, .int .i64 E]) (by simp [results, Try.results9, go_sem]) rfl HE.out
  have H := checkC_zero h0
  rw [hlen] at H
  obtain rfl : n = n2 := by rw [← hlen2, H.lenM]
  rw [h0] at HK
  have HE6 := Lib.hid (show ∀ i, i < n → addK (gq (ratL l) i) (gq (ratL m) i) = false → splitE total l m = 6 from fun i hi h => by
    unfold splitE
    rw [if_pos h0, addA_no (by omega) h]
    rfl)
  have HE0 := Lib.hid (show (∀ i, i < n → addK (gq (ratL l) i) (gq (ratL m) i) = true) → splitE total l m = 0 from fun h => by
    unfold splitE
    rw [if_pos h0, addA_yes (fun i hi => h i (by omega))]
    rfl)
  have HLn := Lib.hid hlen
  have HO := Lib.hid H
  have hn1 := H.size
  have htot := H.tot
  clear h0 hl hm hlen hlen2 H
  obtain ⟨fl, hfl⟩ : ∃ fl, fl = flC (gq (ratL l)) (gq (ratL m)) := ⟨_, rfl⟩
  have HFl := Lib.hid hfl
  clear hfl
  go_enter Try.func9, Try.ntmps9
  go_wp2_with (first | ((first | (apply K.alloc; rfl; rfl; (first | with_reducible exact big_zero | with_reducible exact frac_zero)) | (apply K.box; rfl; rfl; rfl)); clear K r; (first | ((fail_if_success revert b0); intro W b0 K) | ((fail_if_success revert b1); intro W b1 K) | ((fail_if_success revert b2); intro W b2 K) | ((fail_if_success revert b3); intro W b3 K) | ((fail_if_success revert b4); intro W b4 K) | ((fail_if_success revert b5); intro W b5 K) | ((fail_if_success revert b6); intro W b6 K) | ((fail_if_success revert b7); intro W b7 K)); have r := K.rawS) | (apply K.storeA; rfl; rfl; rfl; rfl; rfl; (repeat (first | with_reducible exact Upd.head _ | with_reducible apply Upd.tail)); (first | with_reducible exact big_size | with_reducible exact frac_size); rfl; rfl; rfl; clear K r; intro W K; have r := K.rawS))
  refine (HK.out _ K.1).mono ?_
  rintro e W' ⟨rfl, hb⟩
  replace K := K.keep hb
  clear r
  have r := K.rawS
  clear hb
  go_wp2_with (first
    | (at_make; (first | refine K.make rfl _ _ _ _ rfl _ _ _ Try.underlying25 int_made n rfl rfl _ (made_ints n) (by omega) (by omega) ?_ | refine K.make rfl _ _ _ _ rfl _ _ _ Try.underlying22 frac_made n rfl rfl _ (made_fracs n) (by omega) (by omega) ?_); clear K r; (first | ((fail_if_success revert b0); intro W b0 K) | ((fail_if_success revert b1); intro W b1 K) | ((fail_if_success revert b2); intro W b2 K) | ((fail_if_success revert b3); intro W b3 K) | ((fail_if_success revert b4); intro W b4 K) | ((fail_if_success revert b5); intro W b5 K) | ((fail_if_success revert b6); intro W b6 K) | ((fail_if_success revert b7); intro W b7 K)); have r := K.rawS)
    | (apply K.alloc; rfl; rfl; exact slf_zero; clear K r; (first | ((fail_if_success revert b0); intro W b0 K) | ((fail_if_success revert b1); intro W b1 K) | ((fail_if_success revert b2); intro W b2 K) | ((fail_if_success revert b3); intro W b3 K) | ((fail_if_success revert b4); intro W b4 K) | ((fail_if_success revert b5); intro W b5 K) | ((fail_if_success revert b6); intro W b6 K) | ((fail_if_success revert b7); intro W b7 K)); have r := K.rawS)
    | (apply K.storeS; rfl; rfl; rfl; rfl; rfl; (repeat (first | with_reducible apply Upd.head | with_reducible apply Upd.tail)); exact (show #[Value.slice none 0 0].setIfInBounds 0 (Value.slice (some ⟨b1, 0, none⟩) n n) = #[Value.slice (some ⟨b1, 0, none⟩) n n] from rfl); exact slf_size; simp; clear K r; intro W K; have r := K.rawS))
  obtain ⟨M, hM⟩ : ∃ M : Nat → Int, M = fun k => total - smI fl k := ⟨_, rfl⟩
  have hM0 : M 0 = total := by rw [hM]; simp [smI]
  have HMS := Lib.hid (show ∀ k, M (k + 1) = M k - fl k from fun k => by rw [hM]; simp only [smI]; omega)
  have HMB := Lib.hid (show ∀ k, k ≤ n → -1000000000000000000 ≤ M k ∧ M k ≤ 1000000000000000000 from fun k hk => by rw [hM, HFl.out]; exact HO.out.part hk (by omega))
  have HMN := Lib.hid (show ∃ mm : Nat, M n = (mm : Int) ∧ mm < n ∧ (mm : Int) = total - smI (flC (gq (ratL l)) (gq (ratL m))) n from by
    have h := HO.out.miss
    refine ⟨(total - smI (flC (gq (ratL l)) (gq (ratL m))) n).toNat, ?_, by omega, by omega⟩
    rw [hM, HFl.out]
    show total - smI (flC (gq (ratL l)) (gq (ratL m))) n = _
    omega)
  clear hM
  have K := K.rwNew n
  rw [← preI_zero fl] at K
  have K : St w [(b3, intA n (preI 0 (fun j => (j : Int))), 3), (b2, #[.slice (some ⟨b1, 0, none⟩) n n], 22), (b1, rwA n (fun _ => Rw.zero), 35), (b0, intA n (preI 0 fl), 3)] [⟨rwP n (fun _ => Rw.zero), rwS n (fun _ => Rw.zero)⟩] W := by
    rw [preI_zero]
    rw [preI_zero] at K
    exact K
  go_loopg [38, 13] n (fun gk s38 s13 wr => ∃ (k : Nat) (v : Nat → Rw), k ≤ n ∧ gk = n - k ∧ s38 = .int .i64 k ∧ s13 = .int .i64 (M k) ∧ Hid (∀ j, j < k → (v j).fv.ok = true ∧ (v j).fv.rat = rsC (gq (ratL l)) (gq (ratL m)) j) ∧ Hid (∀ j, j < k → addK (gq (ratL l) j) (gq (ratL m) j) = true) ∧ Hid (∀ j, j < k → FrA w.heap.size (v j).A ∧ FrA w.heap.size (v j).B) ∧ St w [(b3, intA n (preI k (fun j => (j : Int))), 3), (b2, #[.slice (some ⟨b1, 0, none⟩) n n], 22), (b1, rwA n v, 35), (b0, intA n (preI k fl), 3)] [⟨rwP n v, rwS n v⟩] wr)
  case atStart => exact ⟨0, fun _ => Rw.zero, Nat.zero_le _, rfl, rfl, by rw [hM0], Lib.hid (fun j h => absurd h (by omega)), Lib.hid (fun j h => absurd h (by omega)), Lib.hid (fun j h => absurd h (by omega)), K⟩
  case round =>
    clear K r
    obtain ⟨k, v, hk, rfl, rfl, rfl, HV, HA, HFr, K⟩ := hrel
    have r := K.rawS
    by_cases hlt : k < n
    · obtain ⟨eb1, off1, A1, n1, c1, B1, m1, d1, x, hA1, hbB1, hx1, ⟨z0, z1, z2, z3⟩, r1, q1⟩ := HL.out.atF hlt
      subst hA1
      have Ex1 := Lib.hid (fun W (h : Below w.heap.size w W) => (⟨(h.cell (p := ⟨eb1, off1 + k * 4, none⟩) hbB1).trans z0, (h.cell (p := ⟨eb1, off1 + k * 4 + 1, none⟩) hbB1).trans z1, (h.cell (p := ⟨eb1, off1 + k * 4 + 2, none⟩) hbB1).trans z2, (h.cell (p := ⟨eb1, off1 + k * 4 + 3, none⟩) hbB1).trans z3⟩ : W.cell? ⟨eb1, off1 + k * 4, none⟩ = some (.int .i64 (x).s) ∧ W.cell? ⟨eb1, off1 + k * 4 + 1, none⟩ = some (.slice A1 n1 c1) ∧ W.cell? ⟨eb1, off1 + k * 4 + 2, none⟩ = some (.int .i64 (x).t) ∧ W.cell? ⟨eb1, off1 + k * 4 + 3, none⟩ = some (.slice B1 m1 d1)))
      have hki : (k : Int) < (n : Int) := by omega
      have hk0 : (0 : Int) ≤ (k : Int) := by omega
      have hcap1 := r1.caps
      have hcbp1 := q1.caps
      replace K := (K.oldRd r1).oldRd q1
      have Hx1 := Lib.hid hx1
      clear hx1 z0 z1 z2 z3 r1 q1
      obtain ⟨eb2, off2, A2, n2, c2, B2, m2, d2, y, hA2, hbB2, hx2, ⟨z0, z1, z2, z3⟩, r2, q2⟩ := HM.out.atF hlt
      subst hA2
      have Ex2 := Lib.hid (fun W (h : Below w.heap.size w W) => (⟨(h.cell (p := ⟨eb2, off2 + k * 4, none⟩) hbB2).trans z0, (h.cell (p := ⟨eb2, off2 + k * 4 + 1, none⟩) hbB2).trans z1, (h.cell (p := ⟨eb2, off2 + k * 4 + 2, none⟩) hbB2).trans z2, (h.cell (p := ⟨eb2, off2 + k * 4 + 3, none⟩) hbB2).trans z3⟩ : W.cell? ⟨eb2, off2 + k * 4, none⟩ = some (.int .i64 (y).s) ∧ W.cell? ⟨eb2, off2 + k * 4 + 1, none⟩ = some (.slice A2 n2 c2) ∧ W.cell? ⟨eb2, off2 + k * 4 + 2, none⟩ = some (.int .i64 (y).t) ∧ W.cell? ⟨eb2, off2 + k * 4 + 3, none⟩ = some (.slice B2 m2 d2)))
      have hki : (k : Int) < (n : Int) := by omega
      have hk0 : (0 : Int) ≤ (k : Int) := by omega
      have hcap2 := r2.caps
      have hcbp2 := q2.caps
      replace K := (K.oldRd r2).oldRd q2
      have Hx2 := Lib.hid hx2
      clear hx2 z0 z1 z2 z3 r2 q2
      have e1 := Ex1.out _ K.1
      have e2 := Ex2.out _ K.1
      obtain ⟨x', hx', hxo, hxr⟩ := HO.out.sh_at hlt
      obtain ⟨y', hy', hyo, hyr⟩ := HO.out.me_at hlt
      have ex : x' = x := by rw [Hx1.out] at hx'; exact (Option.some.inj hx').symm
      have ey : y' = y := by rw [Hx2.out] at hy'; exact (Option.some.inj hy').symm
      subst ex ey
      obtain ⟨hsx, fx⟩ := fv_std hxo
      obtain ⟨hsy, fy⟩ := fv_std hyo
      have HAd := Lib.hid (fun W a b c d => pAdd x'.rat y'.rat x'.s x'.t y'.s y'.t A1 B1 A2 B2 n1 c1 m1 d1 n2 c2 m2 d2 x'.l x'.m y'.l y'.m W a b c d hsx hsy fx fy)
      rw [hxr, hyr] at HAd
      clear hx' hy' hxo hyo hxr hyr hsx hsy fx fy
      cases hadd : addK (gq (ratL l) k) (gq (ratL m) k)
      · rw [hadd] at HAd
        have HX := Lib.hid (HE6.out k hlt hadd)
        clear hadd
        go_upto_region 11 with (first | ((first | (apply K.alloc; rfl; rfl; (first | with_reducible exact big_zero | with_reducible exact frac_zero)) | (apply K.box; rfl; rfl; rfl)); clear K r; (first | ((fail_if_success revert b0); intro W b0 K) | ((fail_if_success revert b1); intro W b1 K) | ((fail_if_success revert b2); intro W b2 K) | ((fail_if_success revert b3); intro W b3 K) | ((fail_if_success revert b4); intro W b4 K) | ((fail_if_success revert b5); intro W b5 K) | ((fail_if_success revert b6); intro W b6 K) | ((fail_if_success revert b7); intro W b7 K)); have r := K.rawS) | (apply K.storeA; rfl; rfl; rfl; rfl; rfl; (repeat (first | with_reducible exact Upd.head _ | with_reducible apply Upd.tail)); (first | with_reducible exact big_size | with_reducible exact frac_size); rfl; rfl; rfl; clear K r; intro W K; have r := K.rawS))
        obtain ⟨RR, HR0⟩ := K.hideZ 35
        go_cut [16, 15] from 42 to 52 (fun e p wx => ∃ g s8 A8 n8 c8 l8 t8 B8 m8 d8 k8, e = .int .i64 6 ∧ p = .pointer (some ⟨g, 0, none⟩) ∧ OptF s8 l8 t8 k8 (none) ∧ (FrA w.heap.size A8 ∧ FrA w.heap.size B8) ∧ RR g #[.int .i64 s8, .slice A8 n8 c8, .int .i64 t8, .slice B8 m8 d8] A8 n8 c8 l8 B8 m8 d8 k8 wx)
        case first =>
          obtain ⟨gz1, hgz1, KA⟩ := K.newZ #[.int .i64 0, .slice none 0 0, .int .i64 0, .slice none 0 0] 35
          have rA := KA.raw
          have Kd := K.drew
          have KAd := KA.drew
          have HBd := Lib.hid (K.bel.size)
          have eA1 := Ex1.out _ KA.1
          have eA2 := Ex2.out _ KA.1
          simp only [Raw, RawC, RawZ, and_true, true_and, Nat.zero_add, Nat.reduceAdd] at rA
          go_region_with (first
            | (go_at_call 24; (with_reducible refine (HAd.out _ ?qa ?qb ?qc ?qd).mono ?_); (case qa => (first | with_reducible exact Kd.rd (by repeat (first | with_reducible exact List.mem_cons_self | with_reducible apply List.mem_cons_of_mem)) | with_reducible exact KAd.rd (by repeat (first | with_reducible exact List.mem_cons_self | with_reducible apply List.mem_cons_of_mem)))); (case qb => (first | with_reducible exact Kd.rd (by repeat (first | with_reducible exact List.mem_cons_self | with_reducible apply List.mem_cons_of_mem)) | with_reducible exact KAd.rd (by repeat (first | with_reducible exact List.mem_cons_self | with_reducible apply List.mem_cons_of_mem)))); (case qc => (first | with_reducible exact Kd.rd (by repeat (first | with_reducible exact List.mem_cons_self | with_reducible apply List.mem_cons_of_mem)) | with_reducible exact KAd.rd (by repeat (first | with_reducible exact List.mem_cons_self | with_reducible apply List.mem_cons_of_mem)))); (case qd => (first | with_reducible exact Kd.rd (by repeat (first | with_reducible exact List.mem_cons_self | with_reducible apply List.mem_cons_of_mem)) | with_reducible exact KAd.rd (by repeat (first | with_reducible exact List.mem_cons_self | with_reducible apply List.mem_cons_of_mem)))); rintro e W ⟨s31, A31, n31, c31, l31, t31, B31, m31, d31, k31, rfl, ⟨hra, hrb⟩, hs31, ⟨hfa, hfb⟩, hb⟩; have hF31 := Lib.hid (hfa.mono (C := w.heap.size) (by first | exact Kd.bel.size | exact KAd.bel.size)); have hG31 := Lib.hid (hfb.mono (C := w.heap.size) (by first | exact Kd.bel.size | exact KAd.bel.size)); (first | with_reducible replace K := Kd.retF hb hra hrb hfa hfb | with_reducible replace K := KAd.retF hb hra hrb hfa hfb); clear r rA KA hra hrb hfa hfb hb; have r := K.raw; have z := K.rawz; simp only [Raw, RawC, RawZ, and_true, true_and, Nat.zero_add, Nat.reduceAdd] at r z))
          all_goals
            go_wp2_with fail
            go_meet
            first
              | with_reducible exact ⟨_, s31, A31, n31, c31, l31, t31, B31, m31, d31, k31, rfl, rfl, hs31, ⟨hF31.out, hG31.out⟩, (HR0 _ _ _ _ _ _ _ _ _ _ _).2 (K.new #[.int .i64 s31, .slice A31 n31 c31, .int .i64 t31, .slice B31 m31 d31] 35)⟩
              | with_reducible exact ⟨_, s31, A31, n31, c31, l31, t31, B31, m31, d31, k31, rfl, rfl, hs31, ⟨hF31.out, hG31.out⟩, (HR0 _ _ _ _ _ _ _ _ _ _ _).2 (K.set4Z (u0 := .int .i64 s31) (u1 := .slice A31 n31 c31) (u2 := .int .i64 t31) (u3 := .slice B31 m31 d31) (by repeat (first | with_reducible exact Upd.head _ | with_reducible apply Upd.tail)))⟩
              | exact ⟨_, s31, A31, n31, c31, l31, t31, B31, m31, d31, k31, rfl, rfl, hs31, ⟨hF31.out, hG31.out⟩, (HR0 _ _ _ _ _ _ _ _ _ _ _).2 (K.new #[.int .i64 s31, .slice A31 n31 c31, .int .i64 t31, .slice B31 m31 d31] 35)⟩
              | exact ⟨_, s31, A31, n31, c31, l31, t31, B31, m31, d31, k31, rfl, rfl, hs31, ⟨hF31.out, hG31.out⟩, (HR0 _ _ _ _ _ _ _ _ _ _ _).2 (K.set4Z (u0 := .int .i64 s31) (u1 := .slice A31 n31 c31) (u2 := .int .i64 t31) (u3 := .slice B31 m31 d31) (by repeat (first | with_reducible exact Upd.head _ | with_reducible apply Upd.tail)))⟩
        obtain ⟨gb9, s9, A9, n9, c9, l9, t9, B9, m9, d9, k9, rfl, rfl, hs9, ⟨hF9, hG9⟩, hk9⟩ := hcut
        replace K := (HR0 _ _ _ _ _ _ _ _ _ _ _).1 hk9
        clear r hk9 HR0
        have r := K.rawS
        clear HAd hs9 hF9 hG9
        go_wp2_with (first | ((first | (apply K.alloc; rfl; rfl; (first | with_reducible exact big_zero | with_reducible exact frac_zero)) | (apply K.box; rfl; rfl; rfl)); clear K r; (first | ((fail_if_success revert b0); intro W b0 K) | ((fail_if_success revert b1); intro W b1 K) | ((fail_if_success revert b2); intro W b2 K) | ((fail_if_success revert b3); intro W b3 K) | ((fail_if_success revert b4); intro W b4 K) | ((fail_if_success revert b5); intro W b5 K) | ((fail_if_success revert b6); intro W b6 K) | ((fail_if_success revert b7); intro W b7 K)); have r := K.rawS) | (apply K.storeA; rfl; rfl; rfl; rfl; rfl; (repeat (first | with_reducible exact Upd.head _ | with_reducible apply Upd.tail)); (first | with_reducible exact big_size | with_reducible exact frac_size); rfl; rfl; rfl; clear K r; intro W K; have r := K.rawS))
        have HE := Lib.hid (⟨none, 0, 0, [], none, 0, 0, [], by rw [HX.out], ⟨Rd.nil, Rd.nil⟩, fun _ => ⟨rfl, rfl⟩, fun h => absurd (HX.out.symm.trans h) (by decide), K.1, fun _ _ _ => ⟨Rd.nil, Rd.nil⟩⟩ : SplitG w total l m (.returned (.tuple #[.slice none 0 0, .slice none 0 0, .int .i64 6])) _)
        exact bodyPost_ret (v := .tuple #[.slice none 0 0, .slice none 0 0, .int .i64 6]) (by simp [results, Try.results9, go_sem]) rfl HE.out
      · rw [hadd] at HAd
        have HA2 := Lib.hid (show ∀ j, j < k + 1 → addK (gq (ratL l) j) (gq (ratL m) j) = true from fun j hj => by
          by_cases e : j = k
          · subst e; exact hadd
          · exact HA.out j (by omega))
        have hfl := HO.out.fl hlt
        have hwt := HO.out.wants hlt
        have hfx := addK_fits hadd
        have hfe : fl k = (gq (ratL l) k + gq (ratL m) k).floor := by rw [HFl.out]; rfl
        have hsb := sub_floor hfx hwt
        have hrs : rsC (gq (ratL l)) (gq (ratL m)) k = gq (ratL l) k + gq (ratL m) k - ((fl k : Int) : Rat) := by rw [HFl.out]; rfl
        rw [← hfe] at hsb
        have hff := addK_fits hsb
        rw [← Rat.sub_eq_add_neg] at hff
        rw [← HFl.out] at hfl
        obtain ⟨F, hF⟩ : ∃ F, F = fl k := ⟨_, rfl⟩
        rw [← hF] at hsb hrs hff hfl hfe
        have Hmk := Lib.hid (show M (k + 1) = M k - F from by rw [hF]; exact HMS.out k)
        have hw1 : IntKind.i64.wrap (M k - F) = M k - F := IntWalk.i64_in _ (by have := HMB.out (k + 1) (by omega); have := Hmk.out; omega)
        have hset0 : (intA n (preI k fl)).setIfInBounds k (.int .i64 F) = intA n (preI (k + 1) fl) := by rw [hF, intA_set hlt, preI_step]
        have hset3 : (intA n (preI k (fun j => (j : Int)))).setIfInBounds k (.int .i64 (k : Int)) = intA n (preI (k + 1) (fun j => (j : Int))) := (intA_set hlt).trans (congrArg (fun d => intA n d) (preI_step k (fun j => (j : Int))))
        have Hset0 := Lib.hid hset0
        have Hset3 := Lib.hid hset3
        have HF := Lib.hid hF
        have HFe := Lib.hid hfe
        clear hset0 hset3 hF hfe
        have ffF : fitsF ((F : Int) : Rat) = true := by
          have h := HO.out.tot
          rw [← divInt_1]; exact divInt_fits (by omega) (fits_i64 (by omega)) (fits_i64 (by decide))
        generalize gq (ratL l) k + gq (ratL m) k = X at *
        have HFloor := Lib.hid (fun s t A n c l B m d k2 W a b (h : StdF s l t k2 X) => (fFloor_any s t A B n c m d l k2 W a b))
        go_upto_region 11 with (first | ((first | (apply K.alloc; rfl; rfl; (first | with_reducible exact big_zero | with_reducible exact frac_zero)) | (apply K.box; rfl; rfl; rfl)); clear K r; (first | ((fail_if_success revert b0); intro W b0 K) | ((fail_if_success revert b1); intro W b1 K) | ((fail_if_success revert b2); intro W b2 K) | ((fail_if_success revert b3); intro W b3 K) | ((fail_if_success revert b4); intro W b4 K) | ((fail_if_success revert b5); intro W b5 K) | ((fail_if_success revert b6); intro W b6 K) | ((fail_if_success revert b7); intro W b7 K)); have r := K.rawS) | (apply K.storeA; rfl; rfl; rfl; rfl; rfl; (repeat (first | with_reducible exact Upd.head _ | with_reducible apply Upd.tail)); (first | with_reducible exact big_size | with_reducible exact frac_size); rfl; rfl; rfl; clear K r; intro W K; have r := K.rawS))
        obtain ⟨RR, HR0⟩ := K.hideZ 35
        go_cut [16, 15] from 42 to 52 (fun e p wx => ∃ g s8 A8 n8 c8 l8 t8 B8 m8 d8 k8, e = .int .i64 0 ∧ p = .pointer (some ⟨g, 0, none⟩) ∧ OptF s8 l8 t8 k8 (some X) ∧ (FrA w.heap.size A8 ∧ FrA w.heap.size B8) ∧ RR g #[.int .i64 s8, .slice A8 n8 c8, .int .i64 t8, .slice B8 m8 d8] A8 n8 c8 l8 B8 m8 d8 k8 wx)
        case first =>
          obtain ⟨gz1, hgz1, KA⟩ := K.newZ #[.int .i64 0, .slice none 0 0, .int .i64 0, .slice none 0 0] 35
          have rA := KA.raw
          have Kd := K.drew
          have KAd := KA.drew
          have HBd := Lib.hid (K.bel.size)
          have eA1 := Ex1.out _ KA.1
          have eA2 := Ex2.out _ KA.1
          simp only [Raw, RawC, RawZ, and_true, true_and, Nat.zero_add, Nat.reduceAdd] at rA
          go_region_with (first
            | (go_at_call 24; (with_reducible refine (HAd.out _ ?qa ?qb ?qc ?qd).mono ?_); (case qa => (first | with_reducible exact Kd.rd (by repeat (first | with_reducible exact List.mem_cons_self | with_reducible apply List.mem_cons_of_mem)) | with_reducible exact KAd.rd (by repeat (first | with_reducible exact List.mem_cons_self | with_reducible apply List.mem_cons_of_mem)))); (case qb => (first | with_reducible exact Kd.rd (by repeat (first | with_reducible exact List.mem_cons_self | with_reducible apply List.mem_cons_of_mem)) | with_reducible exact KAd.rd (by repeat (first | with_reducible exact List.mem_cons_self | with_reducible apply List.mem_cons_of_mem)))); (case qc => (first | with_reducible exact Kd.rd (by repeat (first | with_reducible exact List.mem_cons_self | with_reducible apply List.mem_cons_of_mem)) | with_reducible exact KAd.rd (by repeat (first | with_reducible exact List.mem_cons_self | with_reducible apply List.mem_cons_of_mem)))); (case qd => (first | with_reducible exact Kd.rd (by repeat (first | with_reducible exact List.mem_cons_self | with_reducible apply List.mem_cons_of_mem)) | with_reducible exact KAd.rd (by repeat (first | with_reducible exact List.mem_cons_self | with_reducible apply List.mem_cons_of_mem)))); rintro e W ⟨s31, A31, n31, c31, l31, t31, B31, m31, d31, k31, rfl, ⟨hra, hrb⟩, hs31, ⟨hfa, hfb⟩, hb⟩; have hF31 := Lib.hid (hfa.mono (C := w.heap.size) (by first | exact Kd.bel.size | exact KAd.bel.size)); have hG31 := Lib.hid (hfb.mono (C := w.heap.size) (by first | exact Kd.bel.size | exact KAd.bel.size)); (first | with_reducible replace K := Kd.retF hb hra hrb hfa hfb | with_reducible replace K := KAd.retF hb hra hrb hfa hfb); clear r rA KA hra hrb hfa hfb hb; have r := K.raw; have z := K.rawz; simp only [Raw, RawC, RawZ, and_true, true_and, Nat.zero_add, Nat.reduceAdd] at r z))
          all_goals
            go_wp2_with fail
            go_meet
            first
              | with_reducible exact ⟨_, s31, A31, n31, c31, l31, t31, B31, m31, d31, k31, rfl, rfl, hs31, ⟨hF31.out, hG31.out⟩, (HR0 _ _ _ _ _ _ _ _ _ _ _).2 (K.new #[.int .i64 s31, .slice A31 n31 c31, .int .i64 t31, .slice B31 m31 d31] 35)⟩
              | with_reducible exact ⟨_, s31, A31, n31, c31, l31, t31, B31, m31, d31, k31, rfl, rfl, hs31, ⟨hF31.out, hG31.out⟩, (HR0 _ _ _ _ _ _ _ _ _ _ _).2 (K.set4Z (u0 := .int .i64 s31) (u1 := .slice A31 n31 c31) (u2 := .int .i64 t31) (u3 := .slice B31 m31 d31) (by repeat (first | with_reducible exact Upd.head _ | with_reducible apply Upd.tail)))⟩
              | exact ⟨_, s31, A31, n31, c31, l31, t31, B31, m31, d31, k31, rfl, rfl, hs31, ⟨hF31.out, hG31.out⟩, (HR0 _ _ _ _ _ _ _ _ _ _ _).2 (K.new #[.int .i64 s31, .slice A31 n31 c31, .int .i64 t31, .slice B31 m31 d31] 35)⟩
              | exact ⟨_, s31, A31, n31, c31, l31, t31, B31, m31, d31, k31, rfl, rfl, hs31, ⟨hF31.out, hG31.out⟩, (HR0 _ _ _ _ _ _ _ _ _ _ _).2 (K.set4Z (u0 := .int .i64 s31) (u1 := .slice A31 n31 c31) (u2 := .int .i64 t31) (u3 := .slice B31 m31 d31) (by repeat (first | with_reducible exact Upd.head _ | with_reducible apply Upd.tail)))⟩
        obtain ⟨gb9, s9, A9, n9, c9, l9, t9, B9, m9, d9, k9, rfl, rfl, hs9, ⟨hF9, hG9⟩, hk9⟩ := hcut
        replace K := (HR0 _ _ _ _ _ _ _ _ _ _ _).1 hk9
        clear r hk9 HR0
        have r := K.rawS
        replace hs9 : StdF s9 l9 t9 k9 X := hs9
        have HFl9 := Lib.hid (fun W a b => fFloor_any s9 t9 A9 B9 n9 c9 m9 d9 l9 k9 W a b)
        rw [hs9.right hfx, hs9.rat, floorZ_true, ← HFe.out] at HFl9
        have HIn := Lib.hid (fun s A n c l W (a : RdI W W.heap.size A n c l) (h : Std s l F) => (bInt_any s A n c l W a))
        clear HAd hF9 hG9 HFloor
        go_wp2_with (first | ((first | (apply K.alloc; rfl; rfl; (first | with_reducible exact big_zero | with_reducible exact frac_zero)) | (apply K.box; rfl; rfl; rfl)); clear K r; (first | ((fail_if_success revert b0); intro W b0 K) | ((fail_if_success revert b1); intro W b1 K) | ((fail_if_success revert b2); intro W b2 K) | ((fail_if_success revert b3); intro W b3 K) | ((fail_if_success revert b4); intro W b4 K) | ((fail_if_success revert b5); intro W b5 K) | ((fail_if_success revert b6); intro W b6 K) | ((fail_if_success revert b7); intro W b7 K)); have r := K.rawS) | (apply K.storeA; rfl; rfl; rfl; rfl; rfl; (repeat (first | with_reducible exact Upd.head _ | with_reducible apply Upd.tail)); (first | with_reducible exact big_size | with_reducible exact frac_size); rfl; rfl; rfl; clear K r; intro W K; have r := K.rawS))
        refine (HFl9.out _ (by first | exact Rd.nil | exact K.rda) (by first | exact Rd.nil | exact K.rda)).mono ?_
        rintro e W' ⟨s3, A3, n3, c3, l3, rfl, hr, hs3, hf, hb⟩
        have hf3 := Lib.hid (hf.mono K.1.size)
        replace K := K.ret hb hr hf
        clear r
        have r := K.rawS
        clear hr hf hb
        have hI := intV_std hs3 (by omega)
        have HI := Lib.hid (fun W a => bInt_any s3 A3 n3 c3 l3 W a)
        rw [hI.1, hI.2] at HI
        clear hI
        go_wp2_with (first | ((first | (apply K.alloc; rfl; rfl; (first | with_reducible exact big_zero | with_reducible exact frac_zero)) | (apply K.box; rfl; rfl; rfl)); clear K r; (first | ((fail_if_success revert b0); intro W b0 K) | ((fail_if_success revert b1); intro W b1 K) | ((fail_if_success revert b2); intro W b2 K) | ((fail_if_success revert b3); intro W b3 K) | ((fail_if_success revert b4); intro W b4 K) | ((fail_if_success revert b5); intro W b5 K) | ((fail_if_success revert b6); intro W b6 K) | ((fail_if_success revert b7); intro W b7 K)); have r := K.rawS) | (apply K.storeA; rfl; rfl; rfl; rfl; rfl; (repeat (first | with_reducible exact Upd.head _ | with_reducible apply Upd.tail)); (first | with_reducible exact big_size | with_reducible exact frac_size); rfl; rfl; rfl; clear K r; intro W K; have r := K.rawS))
        refine (HI.out _ (by first | exact Rd.nil | exact K.rda)).mono ?_
        rintro e W' ⟨rfl, hb⟩
        replace K := K.keep hb
        clear r
        have r := K.rawS
        clear hb
        go_wp2_with (apply K.storeI; rfl; rfl; rfl; rfl; rfl; (repeat (first | with_reducible apply Upd.head | with_reducible apply Upd.tail)); exact Hset0.out; exact int_size1; (rw [intA_size]; omega); clear K r; intro W K; have r := K.rawS)
        have r0 := K.cellN (f := preI (k + 1) fl) hlt (by repeat (first | with_reducible exact List.mem_cons_self | with_reducible apply List.mem_cons_of_mem))
        have HRr := Lib.hid (show preI (k + 1) fl k = F from by rw [HF.out]; exact if_pos (Nat.lt_succ_self k))
        rw [HRr.out] at r0
        have HSb := Lib.hid (fun s2 t2 A2 B2 n2 c2 m2 d2 l2 k2 W r1 q1 r2 q2 h2 => pSub X ((F : Int) : Rat) s9 t9 s2 t2 A9 B9 A2 B2 n9 c9 m9 d9 n2 c2 m2 d2 l9 k9 l2 k2 W r1 q1 r2 q2 hs9 h2 hfx ffF hsb)
        have HWh := Lib.hid (fun W => cwhole_any F W (by omega))
        obtain ⟨Y, hY⟩ : ∃ Y : Rat, Y = X - ((F : Int) : Rat) := ⟨_, rfl⟩
        rw [← hY] at HSb hff hrs
        clear hY hs9 hfx ffF hsb hwt HFe HI HFl9 hs3
        generalize ((F : Int) : Rat) = FQ at *
        obtain ⟨RR, hRR⟩ : ∃ RR : Rw → World → Prop, ∀ x W, RR x W ↔ St w ((gb9, #[Value.int .i64 s9, .slice A9 n9 c9, .int .i64 t9, .slice B9 m9 d9], 35) :: [(b3, intA n (preI k (fun j => (j : Int))), 3), (b2, #[.slice (some ⟨b1, 0, none⟩) n n], 22), (b1, rwA n (putF v k x), 35), (b0, intA n (preI (k + 1) fl), 3)]) [⟨rwP n (putF v k x), rwS n (putF v k x)⟩] W := ⟨_, fun _ _ => Iff.rfl⟩
        go_cut [14] from 65 to 76 (fun i wx => i = .int .i64 k ∧ ∃ x : Rw, StdF x.s x.l x.t x.k Y ∧ (FrA w.heap.size x.A ∧ FrA w.heap.size x.B) ∧ RR x wx)
        case first =>
          have Kd := K.drew
          first
            | go_region_with (first
                | (go_at_call 28; (with_reducible refine (HWh.out _).mono ?_); rintro e W ⟨s50, A50, n50, c50, l50, t50, B50, m50, d50, k50, rfl, ⟨hra, hrb⟩, hs50, ⟨hfa, hfb⟩, hb⟩; (first | with_reducible replace K := Kd.retF hb hra hrb hfa hfb | with_reducible replace K := K.retF hb hra hrb hfa hfb); clear r r0 hra hrb hfa hfb hb; have r := K.rawS; have r0 := K.cellN (f := preI (k + 1) fl) hlt (by repeat (first | with_reducible exact List.mem_cons_self | with_reducible apply List.mem_cons_of_mem)); rw [HRr.out] at r0)
                | (go_at_call 27; (with_reducible refine (HSb.out _ _ _ _ _ _ _ _ _ _ _ ?qa ?qb ?qc ?qd hs50).mono ?_); (case qa => exact K.rd (by repeat (first | with_reducible exact List.mem_cons_self | with_reducible apply List.mem_cons_of_mem))); (case qb => exact K.rd (by repeat (first | with_reducible exact List.mem_cons_self | with_reducible apply List.mem_cons_of_mem))); (case qc => exact K.rd (by repeat (first | with_reducible exact List.mem_cons_self | with_reducible apply List.mem_cons_of_mem))); (case qd => exact K.rd (by repeat (first | with_reducible exact List.mem_cons_self | with_reducible apply List.mem_cons_of_mem))); rintro e W ⟨s60, A60, n60, c60, l60, t60, B60, m60, d60, k60, rfl, ⟨hra, hrb⟩, hs60, ⟨hfa, hfb⟩, hb⟩; have hF60 := Lib.hid (hfa.mono (C := w.heap.size) K.bel.size); have hG60 := Lib.hid (hfb.mono (C := w.heap.size) K.bel.size); replace K := K.retF hb hra hrb hfa hfb; clear r r0 hra hrb hfa hfb hb; have r := K.rawS; have z := K.cellR hlt (by repeat (first | with_reducible exact List.mem_cons_self | with_reducible apply List.mem_cons_of_mem))))
            | fail
          all_goals
            replace hs60 : StdF s60 l60 t60 k60 Y := hs60
            have K2 := K.setR ⟨s60, A60, n60, c60, l60, t60, B60, m60, d60, k60⟩ hlt (by repeat (first | with_reducible exact Upd.head _ | with_reducible apply Upd.tail))
            have K3 := (K2.rwPut ⟨s60, A60, n60, c60, l60, t60, B60, m60, d60, k60⟩ k (by repeat (first | with_reducible exact List.mem_cons_self | with_reducible apply List.mem_cons_of_mem)) (by repeat (first | with_reducible exact List.mem_cons_self | with_reducible apply List.mem_cons_of_mem)) (by repeat (first | with_reducible exact List.mem_cons_self | with_reducible apply List.mem_cons_of_mem))).less (D' := [⟨rwP n (putF v k ⟨s60, A60, n60, c60, l60, t60, B60, m60, d60, k60⟩), rwS n (putF v k ⟨s60, A60, n60, c60, l60, t60, B60, m60, d60, k60⟩)⟩]) (by simp only [List.mem_cons, List.not_mem_nil, or_false, forall_eq_or_imp, forall_eq, true_or, or_true, and_self])
            have H3 := Lib.hid ((hRR _ _).2 K3)
            clear K2 K3 K r z
            go_wp2_with fail
            go_meet
            exact ⟨rfl, _, hs60, ⟨hF60.out, hG60.out⟩, H3.out⟩
        obtain ⟨rfl, x9, hs8, hfr8, hk8⟩ := hcut
        replace K := (hRR _ _).1 hk8
        clear r r0 hk8 hRR
        have r := K.rawS
        have HV2 := Lib.hid (show ∀ j, j < k + 1 → (putF v k x9 j).fv.ok = true ∧ (putF v k x9 j).fv.rat = rsC (gq (ratL l)) (gq (ratL m)) j from fun j hj => by
          by_cases e : j = k
          · subst e
            rw [putF_same]
            refine ⟨StdF.right hs8 hff, ?_⟩
            rw [hrs]
            exact StdF.rat hs8
          · rw [putF_other e]
            exact HV.out j (by omega))
        have HFr2 := Lib.hid (show ∀ j, j < k + 1 → FrA w.heap.size (putF v k x9 j).A ∧ FrA w.heap.size (putF v k x9 j).B from fun j hj => by
          by_cases e : j = k
          · subst e; rw [putF_same]; exact hfr8
          · rw [putF_other e]; exact HFr.out j (by omega))
        clear hs8 hff hrs HV hfr8 HFr
        go_wp2_with ((apply K.storeI; rfl; rfl; rfl; rfl; rfl; (repeat (first | with_reducible apply Upd.head | with_reducible apply Upd.tail)); exact Hset3.out; exact int_size1; (rw [intA_size]; omega); clear K r; intro W K; have r := K.rawS); have r0 := K.cellN (f := preI (k + 1) fl) hlt (by repeat (first | with_reducible exact List.mem_cons_self | with_reducible apply List.mem_cons_of_mem)); rw [HRr.out] at r0)
        go_roundg (n - (k + 1))
        case rel => exact ⟨k + 1, putF v k x9, hlt, rfl, by go_num, by rw [Hmk.out], HV2, HA2, HFr2, (K.part (by repeat (first | with_reducible exact List.nil_sublist _ | with_reducible apply List.Sublist.cons_cons | with_reducible apply List.Sublist.cons))).less (by simp only [List.mem_cons, List.not_mem_nil, or_false, forall_eq_or_imp, forall_eq, true_or, or_true, and_self])⟩
        case measure => omega
    · have e : n = k := by omega
      subst e
      have HE0' := Lib.hid (HE0.out HA.out)
      obtain ⟨mm, hmm, hmn, hms⟩ := HMN.out
      have Hms := Lib.hid hms
      rw [hmm]
      rw [preI_all, preI_all, ← ordA_int] at K
      clear HE0 HA HMN hms hmm HMS HMB HE6 hlt r hM0 HK hk
      obtain ⟨sh, hsh⟩ : ∃ sh, sh = gq (ratL l) := ⟨_, rfl⟩
      obtain ⟨me, hme⟩ : ∃ me, me = gq (ratL m) := ⟨_, rfl⟩
      rw [← hsh, ← hme] at HFl HV Hms
      have HSh := Lib.hid (show sh = gq (ratL l) ∧ me = gq (ratL m) from ⟨hsh, hme⟩)
      clear hsh hme
      have HSort := Lib.hid (sort_any b3 n n ⟨b2, 0, none⟩ (rsC sh me) w _ _ hn1 hn ⟨Nat.le_refl _, by omega⟩ (fun d W h a b ha hb => by
        have h1 := ccmp_any ⟨b2, 0, none⟩ a b n n (some ⟨b1, 0, none⟩) (ofF n fun i => (v i).fv) (v a).fv (v b).fv W ((h.blk (b := b2) (by repeat (first | with_reducible exact List.mem_cons_self | with_reducible apply List.mem_cons_of_mem))).cell rfl) (h.blk (b := b2) (by repeat (first | with_reducible exact List.mem_cons_self | with_reducible apply List.mem_cons_of_mem))).lt (h.rdF (g := b1) (by repeat (first | with_reducible exact List.mem_cons_self | with_reducible apply List.mem_cons_of_mem)) (by repeat (first | with_reducible exact List.mem_cons_self | with_reducible apply List.mem_cons_of_mem)) ⟨Nat.le_refl _, by omega⟩) ha hb (ofF_get ha) (ofF_get hb) (HV.out a ha).1 (HV.out b hb).1
        rw [(HV.out a ha).2, (HV.out b hb).2] at h1
        exact h1) _ K)
      have hm0 : (0 : Int) ≤ (mm : Int) := by omega
      have hmi : (mm : Int) ≤ (n : Int) := by omega
      clear K
      go_wp2_with fail
      refine HSort.out.mono ?_
      rintro e w1 ⟨rfl, d, hO, K⟩
      have HOr := Lib.hid hO
      clear hO HSort
      have r := K.rawS
      go_wp2_with fail
      go_loopg [95] mm (fun gk s95 wr => ∃ (t : Nat) (u : Nat → Rw), t ≤ mm ∧ gk = mm - t ∧ s95 = .int .i64 t ∧ Hid (∀ j, j < n → (u j).fv.ok = true ∧ (u j).fv.rat = aftC sh me (inF d t) j) ∧ Hid (∀ j, j < n → FrA w.heap.size (u j).A ∧ FrA w.heap.size (u j).B) ∧ St w [(b3, ordA n d, 3), (b2, #[.slice (some ⟨b1, 0, none⟩) n n], 22), (b1, rwA n u, 35), (b0, intA n (gotC sh me (inF d t)), 3)] [⟨rwP n u, rwS n u⟩] wr)
      case atStart => exact ⟨0, v, Nat.zero_le _, rfl, rfl, Lib.hid (fun j hj => ⟨(HV.out j hj).1, by rw [aft_first]; exact (HV.out j hj).2⟩), HFr, by rw [got_first, ← HFl.out]; exact K⟩
      case round =>
        clear K r HV
        obtain ⟨t, u, ht0, rfl, rfl, HV, HFr, K⟩ := hrel
        have r := K.rawS
        by_cases hlt : t < mm
        · have htn : t < n := by omega
          have hti : (t : Int) < (mm : Int) := by omega
          obtain ⟨i, hi⟩ : ∃ i, i = d t := ⟨_, rfl⟩
          have hin : i < n := by rw [hi]; exact HOr.out.1 t htn
          have Hi := Lib.hid hi
          have c0 := (K.blk (b := b3) (by repeat (first | with_reducible exact List.mem_cons_self | with_reducible apply List.mem_cons_of_mem))).cell (ordA_get (d := d) htn)
          rw [← hi] at c0
          clear hi
          have hii : (i : Int) < (n : Int) := by omega
          have hi0 : (0 : Int) ≤ (i : Int) := by omega
          have g0 := K.cellN (f := gotC sh me (inF d t)) hin (by repeat (first | with_reducible exact List.mem_cons_self | with_reducible apply List.mem_cons_of_mem))
          have hgb := HO.out.got (inF d t) hin
          rw [← HSh.out.1, ← HSh.out.2] at hgb
          have hset := (intA_set (d := gotC sh me (inF d t)) (v := gotC sh me (inF d t) i + 1) (J := []) hin).trans (congrArg (fun f => intA n f) (show putF (gotC sh me (inF d t)) i (gotC sh me (inF d t) i + 1) = gotC sh me (inF d (t + 1)) from by rw [Hi.out]; exact got_step HOr.out htn))
          have Hset := Lib.hid hset
          clear hset
          generalize gotC sh me (inF d t) i = G at *
          have hw2 : IntKind.i64.wrap (G + 1) = G + 1 := IntWalk.i64_in _ (by omega)
          have hru : (u i).fv.ok = true ∧ (u i).fv.rat = rsC sh me i := ⟨(HV.out i hin).1, by rw [(HV.out i hin).2, Hi.out]; exact aft_at HOr.out htn⟩
          obtain ⟨x, hx⟩ : ∃ x, x = u i := ⟨_, rfl⟩
          rw [← hx] at hru
          obtain ⟨hsx, fx⟩ := fv_std hru.1
          have hrg := rsC_rng sh me i
          have hxr := hru.2
          have hsb := sub_one (r := x.fv.rat) fx (by rw [hxr]; exact hrg.1) (by rw [hxr]; exact hrg.2)
          have hff := addK_fits hsb
          rw [← Rat.sub_eq_add_neg] at hff
          have ff1 : fitsF ((1 : Int) : Rat) = true := by decide +kernel
          have HSb := Lib.hid (fun s2 t2 A2 B2 n2 c2 m2 d2 l2 k2 W r1 q1 r2 q2 h2 => pSub x.fv.rat ((1 : Int) : Rat) x.s x.t s2 t2 x.A x.B A2 B2 x.n x.c x.m x.d n2 c2 m2 d2 x.l x.k l2 k2 W r1 q1 r2 q2 hsx h2 fx ff1 hsb)
          have HWh := Lib.hid (fun W => cwhole_any 1 W (by decide))
          obtain ⟨Y, hY⟩ : ∃ Y : Rat, Y = x.fv.rat - ((1 : Int) : Rat) := ⟨_, rfl⟩
          rw [← hY] at HSb hff
          have hY2 : Y = rsC sh me i - 1 := by rw [hY, hxr]; rfl
          have Hx := Lib.hid hx
          clear hx hru hsx fx hrg hxr hsb ff1 hY hgb
          generalize ((1 : Int) : Rat) = FQ at *
          go_upto_region 24 with ((apply K.storeI; rfl; rfl; rfl; rfl; rfl; (repeat (first | with_reducible apply Upd.head | with_reducible apply Upd.tail)); exact Hset.out; exact int_size1; (rw [intA_size]; omega); clear K r; intro W K; have r := K.rawS))
          have c := (K.cellR (i := i) (v := u) hin (by repeat (first | with_reducible exact List.mem_cons_self | with_reducible apply List.mem_cons_of_mem))).1
          rw [← Hx.out] at c
          have Kd := K.drew
          have HqA := Lib.hid (fun W (K : rwP n u W) => (show RdI W W.heap.size x.A x.n x.c x.l ∧ RdI W W.heap.size x.B x.m x.d x.k from by rw [Hx.out]; exact K i hin))
          have HV2 := Lib.hid (show ∀ x9 : Rw, StdF x9.s x9.l x9.t x9.k Y → ∀ j, j < n → (putF u i x9 j).fv.ok = true ∧ (putF u i x9 j).fv.rat = aftC sh me (inF d (t + 1)) j from fun x9 hs8 j hj => by
            rw [aft_step HOr.out htn j]
            by_cases e : j = i
            · subst e
              rw [putF_same, if_pos Hi.out]
              refine ⟨StdF.right hs8 hff, ?_⟩
              rw [← Hi.out, ← hY2]
              exact StdF.rat hs8
            · rw [putF_other e, if_neg (by rw [← Hi.out]; exact e)]
              exact HV.out j hj)
          clear c0 hii hw2 Hset HSh HFl hm0 hmi HE0' Hms HV hff hY2 hn1 htot hcaps hcaps2 ht
          first
            | go_region_with (first
                | (go_at_call 28; (with_reducible refine (HWh.out _).mono ?_); rintro e W ⟨s50, A50, n50, c50, l50, t50, B50, m50, d50, k50, rfl, ⟨hra, hrb⟩, hs50, ⟨hfa, hfb⟩, hb⟩; (first | with_reducible replace K := Kd.retF hb hra hrb hfa hfb | with_reducible replace K := K.retF hb hra hrb hfa hfb); clear r c hra hrb hfa hfb hb; have r := K.rawS; have c := (K.cellR (i := i) (v := u) hin (by repeat (first | with_reducible exact List.mem_cons_self | with_reducible apply List.mem_cons_of_mem))).1; rw [← Hx.out] at c)
                | (go_at_call 27; (with_reducible refine (HSb.out _ _ _ _ _ _ _ _ _ _ _ ?qa ?qb ?qc ?qd hs50).mono ?_); (case qa => exact (HqA.out _ (K.at (by repeat (first | with_reducible exact List.mem_cons_self | with_reducible apply List.mem_cons_of_mem)))).1); (case qb => exact (HqA.out _ (K.at (by repeat (first | with_reducible exact List.mem_cons_self | with_reducible apply List.mem_cons_of_mem)))).2); (case qc => exact K.rd (by repeat (first | with_reducible exact List.mem_cons_self | with_reducible apply List.mem_cons_of_mem))); (case qd => exact K.rd (by repeat (first | with_reducible exact List.mem_cons_self | with_reducible apply List.mem_cons_of_mem))); rintro e W ⟨s60, A60, n60, c60, l60, t60, B60, m60, d60, k60, rfl, ⟨hra, hrb⟩, hs60, ⟨hfa, hfb⟩, hb⟩; have hF60 := Lib.hid (hfa.mono (C := w.heap.size) K.bel.size); have hG60 := Lib.hid (hfb.mono (C := w.heap.size) K.bel.size); replace K := K.retF hb hra hrb hfa hfb; clear r c hra hrb hfa hfb hb; have r := K.rawS; have z := K.cellR (v := u) hin (by repeat (first | with_reducible exact List.mem_cons_self | with_reducible apply List.mem_cons_of_mem))))
            | fail
          all_goals
            replace hs60 : StdF s60 l60 t60 k60 Y := hs60
            have K2 := K.setR ⟨s60, A60, n60, c60, l60, t60, B60, m60, d60, k60⟩ hin (by repeat (first | with_reducible exact Upd.head _ | with_reducible apply Upd.tail))
            have K3 := Lib.hid ((K2.rwPut ⟨s60, A60, n60, c60, l60, t60, B60, m60, d60, k60⟩ i (by repeat (first | with_reducible exact List.mem_cons_self | with_reducible apply List.mem_cons_of_mem)) (by repeat (first | with_reducible exact List.mem_cons_self | with_reducible apply List.mem_cons_of_mem)) (by repeat (first | with_reducible exact List.mem_cons_self | with_reducible apply List.mem_cons_of_mem))).less (D' := [⟨rwP n (putF u i ⟨s60, A60, n60, c60, l60, t60, B60, m60, d60, k60⟩), rwS n (putF u i ⟨s60, A60, n60, c60, l60, t60, B60, m60, d60, k60⟩)⟩]) (by simp only [List.mem_cons, List.not_mem_nil, or_false, forall_eq_or_imp, forall_eq, true_or, or_true, and_self]))
            have HV3 := Lib.hid (HV2.out ⟨s60, A60, n60, c60, l60, t60, B60, m60, d60, k60⟩ hs60)
            have HFr3 := Lib.hid (show ∀ j, j < n → FrA w.heap.size (putF u i ⟨s60, A60, n60, c60, l60, t60, B60, m60, d60, k60⟩ j).A ∧ FrA w.heap.size (putF u i ⟨s60, A60, n60, c60, l60, t60, B60, m60, d60, k60⟩ j).B from fun j hj => by
              by_cases e : j = i
              · subst e; rw [putF_same]; exact ⟨hF60.out, hG60.out⟩
              · rw [putF_other e]; exact HFr.out j hj)
            clear K2 K r z
            go_wp2_with fail
            go_roundg (mm - (t + 1))
            case rel => exact ⟨t + 1, putF u i ⟨s60, A60, n60, c60, l60, t60, B60, m60, d60, k60⟩, hlt, rfl, by go_num, HV3, HFr3, K3.out⟩
            case measure => omega
        · have e : mm = t := by omega
          subst e
          have HE := Lib.hid (show SplitG w total l m (.returned (.tuple #[.slice (some ⟨b0, 0, none⟩) n n, .slice (some ⟨b1, 0, none⟩) n n, .int .i64 0])) wr from
            ⟨_, n, n, _, _, n, n, _, by rw [HE0'.out], ⟨K.rdN (g := b0) (by repeat (first | with_reducible exact List.mem_cons_self | with_reducible apply List.mem_cons_of_mem)) ⟨Nat.le_refl _, by omega⟩, K.rdF (g := b1) (by repeat (first | with_reducible exact List.mem_cons_self | with_reducible apply List.mem_cons_of_mem)) (by repeat (first | with_reducible exact List.mem_cons_self | with_reducible apply List.mem_cons_of_mem)) ⟨Nat.le_refl _, by omega⟩⟩, fun h => absurd HE0'.out h, fun _ => ⟨aft_ok (fun j hj => (HV.out j hj).1), by
              unfold SplitP
              rw [ratL_len, HLn.out, ← HSh.out.1, ← HSh.out.2]
              exact ⟨inF d mm, mm, HOr.out.sel mm (by omega), by rw [Hms.out], rfl, by
                have h := aft_ofF (n := n) (sh := ratL l) (me := ratL m) (S := inF d mm) (v := u) (by rw [← HSh.out.1, ← HSh.out.2]; exact fun j hj => (HV.out j hj).2)
                rw [← HSh.out.1, ← HSh.out.2] at h
                exact h⟩⟩, K.1, fun W' h1 h2 => ⟨K.rdNK (g := b0) (by repeat (first | with_reducible exact List.mem_cons_self | with_reducible apply List.mem_cons_of_mem)) ⟨Nat.le_refl _, by omega⟩ W' h1 h2, K.rdFK (g := b1) (by repeat (first | with_reducible exact List.mem_cons_self | with_reducible apply List.mem_cons_of_mem)) (by repeat (first | with_reducible exact List.mem_cons_self | with_reducible apply List.mem_cons_of_mem)) ⟨Nat.le_refl _, by omega⟩ HFr.out W' h1 h2⟩⟩)
          have HD := Lib.hid (fun q => show SplitG w total l m (.returned (.tuple #[.slice (some ⟨b0, 0, none⟩) n n, .slice (some ⟨b1, 0, none⟩) n n, .int .i64 0])) (wr.drewN q) from HE.out.drewN q)
          clear HV HE Hms HE0' HSh
          go_upto_region 26 with fail
          go_quiet (fail)
          go_wp2
          exact bodyPost_ret (v := .tuple #[.slice (some ⟨b0, 0, none⟩) n n, .slice (some ⟨b1, 0, none⟩) n n, .int .i64 0]) (by simp [results, Try.results9, go_sem]) rfl (HD.out _)
theorem csplit_any (total : Int) (A A2 : Option Addr) (n cap n2 cap2 : Nat) (l m : List Fv) (w : World) (hl : RdF w w.heap.size A n cap l) (hm : RdF w w.heap.size A2 n2 cap2 m) (ht : -9223372036854775808 ≤ total ∧ total ≤ 9223372036854775807) (hn : n ≤ 19) :
    Calls Try.prog 9 #[.int .i64 total, .slice A n cap, .slice A2 n2 cap2] w (SplitC w total l m) :=
  (csplit_own total A A2 n cap n2 cap2 l m w hl hm ht hn).mono fun _ _ h => h.toC
end Go.Proofs.Ytinfcngkbdiddaa
