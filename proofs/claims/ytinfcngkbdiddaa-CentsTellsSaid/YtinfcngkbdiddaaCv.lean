
/- Walk over Split of the reference of layer 27. Conditions stand in the theorem. -/
import Derived.Test.YtinfcngkbdiddaaCe
import Derived.Test.YtinfcngkbdiddaaCx
import Derived.Test.YtinfcngkbdiddaaCt
import Derived.Test.YtinfcngkbdiddaaCg
import Derived.Test.YtinfcngkbdiddaaE19
import Derived.Test.YtinfcngkbdiddaaF10
namespace Go.Proofs.Ytinfcngkbdiddaa
open Go.RowKit
set_option linter.unusedVariables false
set_option linter.unusedSimpArgs false

section
variable (x y : Rat) (s1 t1 s2 t2 : Int) (A1 B1 A2 B2 : Option Addr) (n1 c1 m1 d1 n2 c2 m2 d2 : Nat) (l1 k1 l2 k2 : List Int) (w : World) (r1 : RdI w w.heap.size A1 n1 c1 l1) (q1 : RdI w w.heap.size B1 m1 d1 k1) (r2 : RdI w w.heap.size A2 n2 c2 l2) (q2 : RdI w w.heap.size B2 m2 d2 k2)
variable (h1 : StdF s1 l1 t1 k1 x) (h2 : StdF s2 l2 t2 k2 y) (f1 : fitsF x = true) (f2 : fitsF y = true)
include r1 q1 r2 q2 h1 h2 f1 f2
theorem qSub (hk : addK x (-y) = true) : Calls Try.prog 35 #[.agg #[.int .i64 s1, .slice A1 n1 c1, .int .i64 t1, .slice B1 m1 d1], .agg #[.int .i64 s2, .slice A2 n2 c2, .int .i64 t2, .slice B2 m2 d2]] w (FrE w (some (x - y)) 0) := by
  have h := gSub_any s1 t1 s2 t2 A1 B1 A2 B2 n1 c1 m1 d1 n2 c2 m2 d2 l1 k1 l2 k2 w r1 q1 r2 q2
  rw [h1.right f1, h2.right f2, h1.rat, h2.rat, hk] at h
  exact h
end
section
variable {sh me : Nat → Rat} {S : Nat → Bool} {b : Nat}
theorem gotS_step (h : S b = false) : putF (gotC sh me S) b (gotC sh me S b + 1) = gotC sh me (fun x => S x || decide (x = b)) := by
  funext j
  unfold putF
  by_cases e : j = b
  · subst e
    rw [if_pos rfl]
    unfold gotC
    rw [h]
    simp
  · rw [if_neg e]
    unfold gotC
    simp [e]
theorem aftS_at (h : S b = false) : aftC sh me S b = rsC sh me b := by
  unfold aftC ind
  rw [h]
  simp
  grind
theorem aftS_step (j : Nat) : aftC sh me (fun x => S x || decide (x = b)) j = if j = b then rsC sh me b - 1 else aftC sh me S j := by
  by_cases e : j = b
  · subst e
    rw [if_pos rfl]
    unfold aftC ind
    simp
  · rw [if_neg e]
    unfold aftC ind
    simp [e]
end
section
variable {w W : World} {L X X' : List Blk} {D : List Hl} {n i g : Nat} {v : Nat → Rw} {t : TypeId} {J : List Value}
theorem St.front {a : Blk} (K : St w (a :: (X ++ L)) D W) : St w (X ++ (a :: L)) D W := K.perm List.perm_middle
theorem St.back {a : Blk} (K : St w (X ++ (a :: L)) D W) : St w (a :: (X ++ L)) D W := K.perm List.perm_middle.symm
theorem St.turn {a : Blk} (K : St w (a :: (X ++ X')) D W) : St w (X' ++ (a :: X)) D W := K.perm (List.perm_middle.trans (List.perm_append_comm.cons a))
theorem St.rest {a : Blk} (K : St w (X' ++ (a :: X)) D W) : St w (X ++ X') D W := (K.part (L' := X' ++ X) (List.Sublist.append (List.Sublist.refl _) (List.sublist_cons_self _ _))).perm List.perm_append_comm
theorem St.rdFJ (h : St w L D W) {cap : Nat} (hb : ((g, rwA n v J, t) : Blk) ∈ L) (hm : (⟨rwP n v, rwS n v⟩ : Hl) ∈ D) (hc : n ≤ cap ∧ cap ≤ 9223372036854775807 ∧ n ≤ 1000000) : RdF W W.heap.size (some ⟨g, 0, none⟩) n cap (ofF n fun i => (v i).fv) := by
  have h1 := h.rdF (cap := n) hb hm ⟨Nat.le_refl _, by omega⟩
  exact ⟨h1.1, hc.1, ⟨by omega, by omega⟩, h1.2.2.2⟩
theorem St.rdNJ (h : St w L D W) {f : Nat → Int} {cap : Nat} (hb : ((g, intA n f J, t) : Blk) ∈ L) (hc : n ≤ cap ∧ cap ≤ 9223372036854775807 ∧ n ≤ 1000000) : RdI W W.heap.size (some ⟨g, 0, none⟩) n cap (ofF n f) := by
  have h1 := h.rdN (cap := n) hb ⟨Nat.le_refl _, by omega⟩
  exact ⟨h1.1, hc.1, ⟨by omega, by omega⟩, h1.2.2.2⟩
theorem St.setRJ (h : St w L D W) (x : Rw) (hi : i < n) {L' : List Blk} (hU : Upd g (rwA n v J) t (rwA n (putF v i x) J) L L') :
    St w L' D ((((W.setCell ⟨g, i * 4, none⟩ (.int .i64 x.s)).setCell ⟨g, i * 4 + 1, none⟩ (.slice x.A x.n x.c)).setCell ⟨g, i * 4 + 2, none⟩ (.int .i64 x.t)).setCell ⟨g, i * 4 + 3, none⟩ (.slice x.B x.m x.d)) := by
  refine h.upd hU ((((OnlyB.set W g _ _).trans (OnlyB.set _ g _ _)).trans (OnlyB.set _ g _ _)).trans (OnlyB.set _ g _ _)) ?_
  rw [← rwA_spl hi x]
  exact ((((h.blk hU.mem).set (j := i * 4) (.int .i64 x.s)).set (j := i * 4 + 1) (.slice x.A x.n x.c)).set (j := i * 4 + 2) (.int .i64 x.t)).set (j := i * 4 + 3) (.slice x.B x.m x.d)
theorem St.cellRJ (h : St w L D W) (hi : i < n) (hb : ((g, rwA n v J, t) : Blk) ∈ L) : (W.cell? ⟨g, i * 4, none⟩ = some (.int .i64 (v i).s) ∧ W.cell? ⟨g, i * 4 + 1, none⟩ = some (.slice (v i).A (v i).n (v i).c) ∧ W.cell? ⟨g, i * 4 + 2, none⟩ = some (.int .i64 (v i).t) ∧ W.cell? ⟨g, i * 4 + 3, none⟩ = some (.slice (v i).B (v i).m (v i).d)) ∧ ∀ j, W.frozen? ⟨g, j, none⟩ = false := by
  have hB := h.blk hb
  exact ⟨⟨hB.cell (rwA_get (j := 0) hi (by omega)), hB.cell (rwA_get (j := 1) hi (by omega)), hB.cell (rwA_get (j := 2) hi (by omega)), hB.cell (rwA_get (j := 3) hi (by omega))⟩, fun j => hB.thaw⟩
theorem St.cellNJ (h : St w L D W) {f : Nat → Int} (hi : i < n) (hb : ((g, intA n f J, t) : Blk) ∈ L) : W.cell? ⟨g, i, none⟩ = some (.int .i64 (f i)) := (h.blk hb).cell (intA_get hi)
end
theorem int_siz1 : (Try.prog.info? 3).map (·.size) = some 1 := by kernel_rfl
set_option maxRecDepth 100000 in
set_option maxHeartbeats 8000000 in
theorem rsplit_any (total : Int) (A A2 : Option Addr) (n cap n2 cap2 : Nat) (l m : List Fv) (w : World) (hl : RdF w w.heap.size A n cap l) (hm : RdF w w.heap.size A2 n2 cap2 m) (ht : -9223372036854775808 ≤ total ∧ total ≤ 9223372036854775807) :
    Calls Try.prog 10 #[.int .i64 total, .slice A n cap, .slice A2 n2 cap2] w (SplitC w total l m) := by
  have hcaps := hl.caps
  have hcaps2 := hm.caps
  have hlen := hl.len
  have hlen2 := hm.len
  have K := St.start w
  have r := K.raw
  have HK := Lib.hid (fun W (h : Below w.heap.size w W) => rask_any total A A2 n cap n2 cap2 l m W (hl.up fE_lasts h) (hm.up fE_lasts h) ht)
  have HL := Lib.hid hl
  have HM := Lib.hid hm
  by_cases h0 : checkC total l m = 0
  case neg =>
    have HX := Lib.hid (show splitE total l m = checkC total l m from if_neg h0)
    have HN := Lib.hid (show splitE total l m ≠ 0 from by rw [HX.out]; exact h0)
    generalize checkC total l m = E at *
    have hd : (E != 0) = true := by simp [h0]
    clear h0 hl hm hlen hlen2
    go_enter Try.func10, Try.ntmps10
    go_wp2_with (first | ((first | (apply K.alloc; rfl; rfl; (first | with_reducible exact big_zero | with_reducible exact frac_zero)) | (apply K.box; rfl; rfl; rfl)); clear K r; (first | ((fail_if_success revert b0); intro W b0 K) | ((fail_if_success revert b1); intro W b1 K) | ((fail_if_success revert b2); intro W b2 K) | ((fail_if_success revert b3); intro W b3 K) | ((fail_if_success revert b4); intro W b4 K) | ((fail_if_success revert b5); intro W b5 K) | ((fail_if_success revert b6); intro W b6 K) | ((fail_if_success revert b7); intro W b7 K)); have r := K.rawS) | (apply K.storeA; rfl; rfl; rfl; rfl; rfl; (repeat (first | with_reducible exact Upd.head _ | with_reducible apply Upd.tail)); (first | with_reducible exact big_size | with_reducible exact frac_size); rfl; rfl; rfl; clear K r; intro W K; have r := K.rawS))
    refine (HK.out _ K.1).mono ?_
    rintro e W' ⟨rfl, hb⟩
    replace K := K.keep hb
    clear r
    have r := K.rawS
    clear hb
    go_wp2_with (first | ((first | (apply K.alloc; rfl; rfl; (first | with_reducible exact big_zero | with_reducible exact frac_zero)) | (apply K.box; rfl; rfl; rfl)); clear K r; (first | ((fail_if_success revert b0); intro W b0 K) | ((fail_if_success revert b1); intro W b1 K) | ((fail_if_success revert b2); intro W b2 K) | ((fail_if_success revert b3); intro W b3 K) | ((fail_if_success revert b4); intro W b4 K) | ((fail_if_success revert b5); intro W b5 K) | ((fail_if_success revert b6); intro W b6 K) | ((fail_if_success revert b7); intro W b7 K)); have r := K.rawS) | (apply K.storeA; rfl; rfl; rfl; rfl; rfl; (repeat (first | with_reducible exact Upd.head _ | with_reducible apply Upd.tail)); (first | with_reducible exact big_size | with_reducible exact frac_size); rfl; rfl; rfl; clear K r; intro W K; have r := K.rawS))
    have HE := Lib.hid (⟨none, 0, 0, [], none, 0, 0, [], by rw [HX.out], ⟨Rd.nil, Rd.nil⟩, fun _ => ⟨rfl, rfl⟩, fun h => absurd h HN.out, K.1⟩ : SplitC w total l m (.returned (.tuple #[.slice none 0 0, .slice none 0 0, .int .i64 E])) W')
    exact bodyPost_ret (v := .tuple #[.slice none 0 0, .slice none 0 0, .int .i64 E]) (by simp [results, Try.results10, go_sem]) rfl HE.out
  have H := checkC_zero h0
  rw [hlen] at H
  obtain rfl : n = n2 := by rw [← hlen2, H.lenM]
  rw [h0] at HK
  have hn60 : n ≤ 60 := by
    have h : rightM m = true := by
      unfold checkC at h0
      split at h0
      · rename_i hc; exact hc.2.2.1
      · cases h0
    have := (rightM_facts h).1
    omega
  have HE6 := Lib.hid (show ∀ i, i < n → addK (gq (ratL l) i) (gq (ratL m) i) = false → splitE total l m = 6 from fun i hi h => by
    unfold splitE
    rw [if_pos h0, addA_no (by omega) h]
    rfl)
  have HE0 := Lib.hid (show (∀ i, i < n → addK (gq (ratL l) i) (gq (ratL m) i) = true) → splitE total l m = 0 from fun h => by
    unfold splitE
    rw [if_pos h0, addA_yes (fun i hi => h i (by omega))]
    rfl)
  have HLn := Lib.hid hlen
  have HO := Lib.hid H
  have hn1 := H.size
  have htot := H.tot
  clear h0 hl hm hlen hlen2 H
  obtain ⟨fl, hfl⟩ : ∃ fl, fl = flC (gq (ratL l)) (gq (ratL m)) := ⟨_, rfl⟩
  have HFl := Lib.hid hfl
  clear hfl
  obtain ⟨M, hM⟩ : ∃ M : Nat → Int, M = fun k => total - smI fl k := ⟨_, rfl⟩
  have hM0 : M 0 = total := by rw [hM]; simp [smI]
  have HMS := Lib.hid (show ∀ k, M (k + 1) = M k - fl k from fun k => by rw [hM]; simp only [smI]; omega)
  have HMB := Lib.hid (show ∀ k, k ≤ n → -1000000000000000000 ≤ M k ∧ M k ≤ 1000000000000000000 from fun k hk => by rw [hM, HFl.out]; exact HO.out.part hk hn60)
  have HMN := Lib.hid (show ∃ mm : Nat, M n = (mm : Int) ∧ mm < n ∧ (mm : Int) = total - smI (flC (gq (ratL l)) (gq (ratL m))) n from by
    have h := HO.out.miss
    refine ⟨(total - smI (flC (gq (ratL l)) (gq (ratL m))) n).toNat, ?_, by omega, by omega⟩
    rw [hM, HFl.out]
    show total - smI (flC (gq (ratL l)) (gq (ratL m))) n = _
    omega)
  clear hM
  go_enter Try.func10, Try.ntmps10
  go_wp2_with (first | ((first | (apply K.alloc; rfl; rfl; (first | with_reducible exact big_zero | with_reducible exact frac_zero)) | (apply K.box; rfl; rfl; rfl)); clear K r; (first | ((fail_if_success revert b0); intro W b0 K) | ((fail_if_success revert b1); intro W b1 K) | ((fail_if_success revert b2); intro W b2 K) | ((fail_if_success revert b3); intro W b3 K) | ((fail_if_success revert b4); intro W b4 K) | ((fail_if_success revert b5); intro W b5 K) | ((fail_if_success revert b6); intro W b6 K) | ((fail_if_success revert b7); intro W b7 K)); have r := K.rawS) | (apply K.storeA; rfl; rfl; rfl; rfl; rfl; (repeat (first | with_reducible exact Upd.head _ | with_reducible apply Upd.tail)); (first | with_reducible exact big_size | with_reducible exact frac_size); rfl; rfl; rfl; clear K r; intro W K; have r := K.rawS))
  refine (HK.out _ K.1).mono ?_
  rintro e W' ⟨rfl, hb⟩
  replace K := K.keep hb
  clear r
  have r := K.rawS
  clear hb
  go_wp2_with fail
  go_loopg [10, 11, 12, 13] n (fun gk v10 v11 s12 s13 wr => ∃ (k : Nat) (u : Nat → Rw) (X1 X2 : List Blk), k ≤ n ∧ gk = n - k ∧ s13 = .int .i64 k ∧ s12 = .int .i64 (M k) ∧ Hid (∀ j, j < k → (u j).fv.ok = true ∧ (u j).fv.rat = rsC (gq (ratL l)) (gq (ratL m)) j) ∧ Hid (∀ j, j < k → addK (gq (ratL l) j) (gq (ratL m) j) = true) ∧ Hid (OwL 1 iEnc 3 v10 (ofF k fl) X1) ∧ Hid (OwL 4 Rw.cs 35 v11 (ofF k u) X2) ∧ St w (X1 ++ X2) [⟨rwP k u, rwS k u⟩] wr)
  case atStart => exact ⟨0, fun _ => Rw.zero, [], [], Nat.zero_le _, rfl, rfl, by rw [hM0], Lib.hid (fun j h => absurd h (by omega)), Lib.hid (fun j h => absurd h (by omega)), Lib.hid OwL.nil, Lib.hid OwL.nil, (K.less (fun _ h => by cases h)).rwNew 0⟩
  case round =>
    clear K r
    obtain ⟨k, u, X1, X2, hk, rfl, rfl, rfl, HV, HA, HW1, HW2, K⟩ := hrel
    have r := True.intro
    by_cases hlt : k < n
    · obtain ⟨eb1, off1, A1, n1, c1, B1, m1, d1, x, hA1, hbB1, hx1, ⟨z0, z1, z2, z3⟩, r1, q1⟩ := HL.out.atF hlt
      subst hA1
      have Ex1 := Lib.hid (fun W (h : Below w.heap.size w W) => (⟨(h.cell (p := ⟨eb1, off1 + k * 4, none⟩) hbB1).trans z0, (h.cell (p := ⟨eb1, off1 + k * 4 + 1, none⟩) hbB1).trans z1, (h.cell (p := ⟨eb1, off1 + k * 4 + 2, none⟩) hbB1).trans z2, (h.cell (p := ⟨eb1, off1 + k * 4 + 3, none⟩) hbB1).trans z3⟩ : W.cell? ⟨eb1, off1 + k * 4, none⟩ = some (.int .i64 (x).s) ∧ W.cell? ⟨eb1, off1 + k * 4 + 1, none⟩ = some (.slice A1 n1 c1) ∧ W.cell? ⟨eb1, off1 + k * 4 + 2, none⟩ = some (.int .i64 (x).t) ∧ W.cell? ⟨eb1, off1 + k * 4 + 3, none⟩ = some (.slice B1 m1 d1)))
      have hki : (k : Int) < (n : Int) := by omega
      have hk0 : (0 : Int) ≤ (k : Int) := by omega
      have hcap1 := r1.caps
      have hcbp1 := q1.caps
      replace K := (K.oldRd r1).oldRd q1
      have Hx1 := Lib.hid hx1
      clear hx1 z0 z1 z2 z3 r1 q1
      obtain ⟨eb2, off2, A2, n2, c2, B2, m2, d2, y, hA2, hbB2, hx2, ⟨z0, z1, z2, z3⟩, r2, q2⟩ := HM.out.atF hlt
      subst hA2
      have Ex2 := Lib.hid (fun W (h : Below w.heap.size w W) => (⟨(h.cell (p := ⟨eb2, off2 + k * 4, none⟩) hbB2).trans z0, (h.cell (p := ⟨eb2, off2 + k * 4 + 1, none⟩) hbB2).trans z1, (h.cell (p := ⟨eb2, off2 + k * 4 + 2, none⟩) hbB2).trans z2, (h.cell (p := ⟨eb2, off2 + k * 4 + 3, none⟩) hbB2).trans z3⟩ : W.cell? ⟨eb2, off2 + k * 4, none⟩ = some (.int .i64 (y).s) ∧ W.cell? ⟨eb2, off2 + k * 4 + 1, none⟩ = some (.slice A2 n2 c2) ∧ W.cell? ⟨eb2, off2 + k * 4 + 2, none⟩ = some (.int .i64 (y).t) ∧ W.cell? ⟨eb2, off2 + k * 4 + 3, none⟩ = some (.slice B2 m2 d2)))
      have hki : (k : Int) < (n : Int) := by omega
      have hk0 : (0 : Int) ≤ (k : Int) := by omega
      have hcap2 := r2.caps
      have hcbp2 := q2.caps
      replace K := (K.oldRd r2).oldRd q2
      have Hx2 := Lib.hid hx2
      clear hx2 z0 z1 z2 z3 r2 q2
      have e1 := Ex1.out _ K.1
      have e2 := Ex2.out _ K.1
      obtain ⟨x', hx', hxo, hxr⟩ := HO.out.sh_at hlt
      obtain ⟨y', hy', hyo, hyr⟩ := HO.out.me_at hlt
      have ex : x' = x := by rw [Hx1.out] at hx'; exact (Option.some.inj hx').symm
      have ey : y' = y := by rw [Hx2.out] at hy'; exact (Option.some.inj hy').symm
      subst ex ey
      obtain ⟨hsx, fx⟩ := fv_std hxo
      obtain ⟨hsy, fy⟩ := fv_std hyo
      have HAd := Lib.hid (fun W a b c d => qAdd x'.rat y'.rat x'.s x'.t y'.s y'.t A1 B1 A2 B2 n1 c1 m1 d1 n2 c2 m2 d2 x'.l x'.m y'.l y'.m W a b c d hsx hsy fx fy)
      rw [hxr, hyr] at HAd
      clear hx' hy' hxo hyo hxr hyr hsx hsy fx fy
      cases hadd : addK (gq (ratL l) k) (gq (ratL m) k)
      · rw [hadd] at HAd
        have HX := Lib.hid (HE6.out k hlt hadd)
        clear hadd
        go_upto_region 10 with (first | ((first | (apply K.alloc; rfl; rfl; (first | with_reducible exact big_zero | with_reducible exact frac_zero)) | (apply K.box; rfl; rfl; rfl)); clear K r; (first | ((fail_if_success revert b0); intro W b0 K) | ((fail_if_success revert b1); intro W b1 K) | ((fail_if_success revert b2); intro W b2 K) | ((fail_if_success revert b3); intro W b3 K) | ((fail_if_success revert b4); intro W b4 K) | ((fail_if_success revert b5); intro W b5 K) | ((fail_if_success revert b6); intro W b6 K) | ((fail_if_success revert b7); intro W b7 K)); have r := K.rawS) | (apply K.storeA; rfl; rfl; rfl; rfl; rfl; (repeat (first | with_reducible exact Upd.head _ | with_reducible apply Upd.tail)); (first | with_reducible exact big_size | with_reducible exact frac_size); rfl; rfl; rfl; clear K r; intro W K; have r := K.rawS))
        obtain ⟨RR, HR0⟩ := K.hideZ 35
        go_cut [15, 14] from 37 to 47 (fun e p wx => ∃ g s8 A8 n8 c8 l8 t8 B8 m8 d8 k8, e = .int .i64 6 ∧ p = .pointer (some ⟨g, 0, none⟩) ∧ OptF s8 l8 t8 k8 (none) ∧ (FrA w.heap.size A8 ∧ FrA w.heap.size B8) ∧ RR g #[.int .i64 s8, .slice A8 n8 c8, .int .i64 t8, .slice B8 m8 d8] A8 n8 c8 l8 B8 m8 d8 k8 wx)
        case first =>
          obtain ⟨gz1, hgz1, KA⟩ := K.newZ #[.int .i64 0, .slice none 0 0, .int .i64 0, .slice none 0 0] 35
          have rA := KA.raw
          have Kd := K.drew
          have KAd := KA.drew
          have HBd := Lib.hid (K.bel.size)
          have eA1 := Ex1.out _ KA.1
          have eA2 := Ex2.out _ KA.1
          simp only [Raw, RawC, RawZ, and_true, true_and, Nat.zero_add, Nat.reduceAdd] at rA
          go_region_with (first
            | (go_at_call 15; (with_reducible refine (HAd.out _ ?qa ?qb ?qc ?qd).mono ?_); (case qa => (first | with_reducible exact Kd.rd (by repeat (first | with_reducible exact List.mem_cons_self | with_reducible apply List.mem_cons_of_mem)) | with_reducible exact KAd.rd (by repeat (first | with_reducible exact List.mem_cons_self | with_reducible apply List.mem_cons_of_mem)))); (case qb => (first | with_reducible exact Kd.rd (by repeat (first | with_reducible exact List.mem_cons_self | with_reducible apply List.mem_cons_of_mem)) | with_reducible exact KAd.rd (by repeat (first | with_reducible exact List.mem_cons_self | with_reducible apply List.mem_cons_of_mem)))); (case qc => (first | with_reducible exact Kd.rd (by repeat (first | with_reducible exact List.mem_cons_self | with_reducible apply List.mem_cons_of_mem)) | with_reducible exact KAd.rd (by repeat (first | with_reducible exact List.mem_cons_self | with_reducible apply List.mem_cons_of_mem)))); (case qd => (first | with_reducible exact Kd.rd (by repeat (first | with_reducible exact List.mem_cons_self | with_reducible apply List.mem_cons_of_mem)) | with_reducible exact KAd.rd (by repeat (first | with_reducible exact List.mem_cons_self | with_reducible apply List.mem_cons_of_mem)))); rintro e W ⟨s31, A31, n31, c31, l31, t31, B31, m31, d31, k31, rfl, ⟨hra, hrb⟩, hs31, ⟨hfa, hfb⟩, hb⟩; have hF31 := Lib.hid (hfa.mono (C := w.heap.size) (by first | exact Kd.bel.size | exact KAd.bel.size)); have hG31 := Lib.hid (hfb.mono (C := w.heap.size) (by first | exact Kd.bel.size | exact KAd.bel.size)); (first | with_reducible replace K := Kd.retF hb hra hrb hfa hfb | with_reducible replace K := KAd.retF hb hra hrb hfa hfb); clear r rA KA hra hrb hfa hfb hb; have r := K.raw; have z := K.rawz; try (simp only [Raw, RawC, RawZ, and_true, true_and, Nat.zero_add, Nat.reduceAdd] at r z)))
          all_goals
            go_wp2_with fail
            go_meet
            first
              | with_reducible exact ⟨_, s31, A31, n31, c31, l31, t31, B31, m31, d31, k31, rfl, rfl, hs31, ⟨hF31.out, hG31.out⟩, (HR0 _ _ _ _ _ _ _ _ _ _ _).2 (K.new #[.int .i64 s31, .slice A31 n31 c31, .int .i64 t31, .slice B31 m31 d31] 35)⟩
              | with_reducible exact ⟨_, s31, A31, n31, c31, l31, t31, B31, m31, d31, k31, rfl, rfl, hs31, ⟨hF31.out, hG31.out⟩, (HR0 _ _ _ _ _ _ _ _ _ _ _).2 (K.set4Z (u0 := .int .i64 s31) (u1 := .slice A31 n31 c31) (u2 := .int .i64 t31) (u3 := .slice B31 m31 d31) (by repeat (first | with_reducible exact Upd.head _ | with_reducible apply Upd.tail)))⟩
              | exact ⟨_, s31, A31, n31, c31, l31, t31, B31, m31, d31, k31, rfl, rfl, hs31, ⟨hF31.out, hG31.out⟩, (HR0 _ _ _ _ _ _ _ _ _ _ _).2 (K.new #[.int .i64 s31, .slice A31 n31 c31, .int .i64 t31, .slice B31 m31 d31] 35)⟩
              | exact ⟨_, s31, A31, n31, c31, l31, t31, B31, m31, d31, k31, rfl, rfl, hs31, ⟨hF31.out, hG31.out⟩, (HR0 _ _ _ _ _ _ _ _ _ _ _).2 (K.set4Z (u0 := .int .i64 s31) (u1 := .slice A31 n31 c31) (u2 := .int .i64 t31) (u3 := .slice B31 m31 d31) (by repeat (first | with_reducible exact Upd.head _ | with_reducible apply Upd.tail)))⟩
        obtain ⟨gb9, s9, A9, n9, c9, l9, t9, B9, m9, d9, k9, rfl, rfl, hs9, ⟨hF9, hG9⟩, hk9⟩ := hcut
        replace K := (HR0 _ _ _ _ _ _ _ _ _ _ _).1 hk9
        clear r hk9 HR0
        have r := K.rawS
        clear HAd hs9 hF9 hG9
        go_wp2_with (first | ((first | (apply K.alloc; rfl; rfl; (first | with_reducible exact big_zero | with_reducible exact frac_zero)) | (apply K.box; rfl; rfl; rfl)); clear K r; (first | ((fail_if_success revert b0); intro W b0 K) | ((fail_if_success revert b1); intro W b1 K) | ((fail_if_success revert b2); intro W b2 K) | ((fail_if_success revert b3); intro W b3 K) | ((fail_if_success revert b4); intro W b4 K) | ((fail_if_success revert b5); intro W b5 K) | ((fail_if_success revert b6); intro W b6 K) | ((fail_if_success revert b7); intro W b7 K)); have r := K.rawS) | (apply K.storeA; rfl; rfl; rfl; rfl; rfl; (repeat (first | with_reducible exact Upd.head _ | with_reducible apply Upd.tail)); (first | with_reducible exact big_size | with_reducible exact frac_size); rfl; rfl; rfl; clear K r; intro W K; have r := K.rawS))
        have HE := Lib.hid (⟨none, 0, 0, [], none, 0, 0, [], by rw [HX.out], ⟨Rd.nil, Rd.nil⟩, fun _ => ⟨rfl, rfl⟩, fun h => absurd (HX.out.symm.trans h) (by decide), K.1⟩ : SplitC w total l m (.returned (.tuple #[.slice none 0 0, .slice none 0 0, .int .i64 6])) _)
        exact bodyPost_ret (v := .tuple #[.slice none 0 0, .slice none 0 0, .int .i64 6]) (by simp [results, Try.results10, go_sem]) rfl HE.out
      · rw [hadd] at HAd
        have HA2 := Lib.hid (show ∀ j, j < k + 1 → addK (gq (ratL l) j) (gq (ratL m) j) = true from fun j hj => by
          by_cases e : j = k
          · subst e; exact hadd
          · exact HA.out j (by omega))
        have hfl := HO.out.fl hlt
        have hwt := HO.out.wants hlt
        have hfx := addK_fits hadd
        have hfe : fl k = (gq (ratL l) k + gq (ratL m) k).floor := by rw [HFl.out]; rfl
        have hsb := sub_floor hfx hwt
        have hrs : rsC (gq (ratL l)) (gq (ratL m)) k = gq (ratL l) k + gq (ratL m) k - ((fl k : Int) : Rat) := by rw [HFl.out]; rfl
        rw [← hfe] at hsb
        have hff := addK_fits hsb
        rw [← Rat.sub_eq_add_neg] at hff
        rw [← HFl.out] at hfl
        obtain ⟨F, hF⟩ : ∃ F, F = fl k := ⟨_, rfl⟩
        rw [← hF] at hsb hrs hff hfl hfe
        have Hmk := Lib.hid (show M (k + 1) = M k - F from by rw [hF]; exact HMS.out k)
        have hw1 : IntKind.i64.wrap (M k - F) = M k - F := IntWalk.i64_in _ (by have := HMB.out (k + 1) (by omega); have := Hmk.out; omega)
        have HF := Lib.hid hF
        have HFe := Lib.hid hfe
        clear hF hfe
        have ffF : fitsF ((F : Int) : Rat) = true := by
          have h := HO.out.tot
          rw [← divInt_1]; exact divInt_fits (by omega) (fits_i64 (by omega)) (fits_i64 (by decide))
        generalize gq (ratL l) k + gq (ratL m) k = X at *
        go_upto_region 10 with (first | ((first | (apply K.alloc; rfl; rfl; (first | with_reducible exact big_zero | with_reducible exact frac_zero)) | (apply K.box; rfl; rfl; rfl)); clear K r; (first | ((fail_if_success revert b0); intro W b0 K) | ((fail_if_success revert b1); intro W b1 K) | ((fail_if_success revert b2); intro W b2 K) | ((fail_if_success revert b3); intro W b3 K) | ((fail_if_success revert b4); intro W b4 K) | ((fail_if_success revert b5); intro W b5 K) | ((fail_if_success revert b6); intro W b6 K) | ((fail_if_success revert b7); intro W b7 K)); have r := K.rawS) | (apply K.storeA; rfl; rfl; rfl; rfl; rfl; (repeat (first | with_reducible exact Upd.head _ | with_reducible apply Upd.tail)); (first | with_reducible exact big_size | with_reducible exact frac_size); rfl; rfl; rfl; clear K r; intro W K; have r := K.rawS))
        obtain ⟨RR, HR0⟩ := K.hideZ 35
        go_cut [15, 14] from 37 to 47 (fun e p wx => ∃ g s8 A8 n8 c8 l8 t8 B8 m8 d8 k8, e = .int .i64 0 ∧ p = .pointer (some ⟨g, 0, none⟩) ∧ OptF s8 l8 t8 k8 (some X) ∧ (FrA w.heap.size A8 ∧ FrA w.heap.size B8) ∧ RR g #[.int .i64 s8, .slice A8 n8 c8, .int .i64 t8, .slice B8 m8 d8] A8 n8 c8 l8 B8 m8 d8 k8 wx)
        case first =>
          obtain ⟨gz1, hgz1, KA⟩ := K.newZ #[.int .i64 0, .slice none 0 0, .int .i64 0, .slice none 0 0] 35
          have rA := KA.raw
          have Kd := K.drew
          have KAd := KA.drew
          have HBd := Lib.hid (K.bel.size)
          have eA1 := Ex1.out _ KA.1
          have eA2 := Ex2.out _ KA.1
          simp only [Raw, RawC, RawZ, and_true, true_and, Nat.zero_add, Nat.reduceAdd] at rA
          go_region_with (first
            | (go_at_call 15; (with_reducible refine (HAd.out _ ?qa ?qb ?qc ?qd).mono ?_); (case qa => (first | with_reducible exact Kd.rd (by repeat (first | with_reducible exact List.mem_cons_self | with_reducible apply List.mem_cons_of_mem)) | with_reducible exact KAd.rd (by repeat (first | with_reducible exact List.mem_cons_self | with_reducible apply List.mem_cons_of_mem)))); (case qb => (first | with_reducible exact Kd.rd (by repeat (first | with_reducible exact List.mem_cons_self | with_reducible apply List.mem_cons_of_mem)) | with_reducible exact KAd.rd (by repeat (first | with_reducible exact List.mem_cons_self | with_reducible apply List.mem_cons_of_mem)))); (case qc => (first | with_reducible exact Kd.rd (by repeat (first | with_reducible exact List.mem_cons_self | with_reducible apply List.mem_cons_of_mem)) | with_reducible exact KAd.rd (by repeat (first | with_reducible exact List.mem_cons_self | with_reducible apply List.mem_cons_of_mem)))); (case qd => (first | with_reducible exact Kd.rd (by repeat (first | with_reducible exact List.mem_cons_self | with_reducible apply List.mem_cons_of_mem)) | with_reducible exact KAd.rd (by repeat (first | with_reducible exact List.mem_cons_self | with_reducible apply List.mem_cons_of_mem)))); rintro e W ⟨s31, A31, n31, c31, l31, t31, B31, m31, d31, k31, rfl, ⟨hra, hrb⟩, hs31, ⟨hfa, hfb⟩, hb⟩; have hF31 := Lib.hid (hfa.mono (C := w.heap.size) (by first | exact Kd.bel.size | exact KAd.bel.size)); have hG31 := Lib.hid (hfb.mono (C := w.heap.size) (by first | exact Kd.bel.size | exact KAd.bel.size)); (first | with_reducible replace K := Kd.retF hb hra hrb hfa hfb | with_reducible replace K := KAd.retF hb hra hrb hfa hfb); clear r rA KA hra hrb hfa hfb hb; have r := K.raw; have z := K.rawz; try (simp only [Raw, RawC, RawZ, and_true, true_and, Nat.zero_add, Nat.reduceAdd] at r z)))
          all_goals
            go_wp2_with fail
            go_meet
            first
              | with_reducible exact ⟨_, s31, A31, n31, c31, l31, t31, B31, m31, d31, k31, rfl, rfl, hs31, ⟨hF31.out, hG31.out⟩, (HR0 _ _ _ _ _ _ _ _ _ _ _).2 (K.new #[.int .i64 s31, .slice A31 n31 c31, .int .i64 t31, .slice B31 m31 d31] 35)⟩
              | with_reducible exact ⟨_, s31, A31, n31, c31, l31, t31, B31, m31, d31, k31, rfl, rfl, hs31, ⟨hF31.out, hG31.out⟩, (HR0 _ _ _ _ _ _ _ _ _ _ _).2 (K.set4Z (u0 := .int .i64 s31) (u1 := .slice A31 n31 c31) (u2 := .int .i64 t31) (u3 := .slice B31 m31 d31) (by repeat (first | with_reducible exact Upd.head _ | with_reducible apply Upd.tail)))⟩
              | exact ⟨_, s31, A31, n31, c31, l31, t31, B31, m31, d31, k31, rfl, rfl, hs31, ⟨hF31.out, hG31.out⟩, (HR0 _ _ _ _ _ _ _ _ _ _ _).2 (K.new #[.int .i64 s31, .slice A31 n31 c31, .int .i64 t31, .slice B31 m31 d31] 35)⟩
              | exact ⟨_, s31, A31, n31, c31, l31, t31, B31, m31, d31, k31, rfl, rfl, hs31, ⟨hF31.out, hG31.out⟩, (HR0 _ _ _ _ _ _ _ _ _ _ _).2 (K.set4Z (u0 := .int .i64 s31) (u1 := .slice A31 n31 c31) (u2 := .int .i64 t31) (u3 := .slice B31 m31 d31) (by repeat (first | with_reducible exact Upd.head _ | with_reducible apply Upd.tail)))⟩
        obtain ⟨gb9, s9, A9, n9, c9, l9, t9, B9, m9, d9, k9, rfl, rfl, hs9, ⟨hF9, hG9⟩, hk9⟩ := hcut
        replace K := (HR0 _ _ _ _ _ _ _ _ _ _ _).1 hk9
        clear r hk9 HR0
        have r := K.rawS
        replace hs9 : StdF s9 l9 t9 k9 X := hs9
        have HFl9 := Lib.hid (fun W a b => gFloor_any s9 t9 A9 B9 n9 c9 m9 d9 l9 k9 W a b)
        rw [hs9.right hfx, hs9.rat, floorZ_true, ← HFe.out] at HFl9
        clear HAd hF9 hG9
        go_wp2_with (first | ((first | (apply K.alloc; rfl; rfl; (first | with_reducible exact big_zero | with_reducible exact frac_zero)) | (apply K.box; rfl; rfl; rfl)); clear K r; (first | ((fail_if_success revert b0); intro W b0 K) | ((fail_if_success revert b1); intro W b1 K) | ((fail_if_success revert b2); intro W b2 K) | ((fail_if_success revert b3); intro W b3 K) | ((fail_if_success revert b4); intro W b4 K) | ((fail_if_success revert b5); intro W b5 K) | ((fail_if_success revert b6); intro W b6 K) | ((fail_if_success revert b7); intro W b7 K)); have r := K.rawS) | (apply K.storeA; rfl; rfl; rfl; rfl; rfl; (repeat (first | with_reducible exact Upd.head _ | with_reducible apply Upd.tail)); (first | with_reducible exact big_size | with_reducible exact frac_size); rfl; rfl; rfl; clear K r; intro W K; have r := K.rawS))
        refine (HFl9.out _ (by first | exact Rd.nil | exact K.rda) (by first | exact Rd.nil | exact K.rda)).mono ?_
        rintro e W' ⟨s3, A3, n3, c3, l3, rfl, hr, hs3, hf, hb⟩
        have hf3 := Lib.hid (hf.mono K.1.size)
        replace K := K.ret hb hr hf
        clear r
        have r := K.rawS
        clear hr hf hb
        have hI := intV_std hs3 (by omega)
        have HI := Lib.hid (fun W a => eInt_any s3 A3 n3 c3 l3 W a)
        rw [hI.1, hI.2] at HI
        clear hI
        go_wp2_with (first | ((first | (apply K.alloc; rfl; rfl; (first | with_reducible exact big_zero | with_reducible exact frac_zero)) | (apply K.box; rfl; rfl; rfl)); clear K r; (first | ((fail_if_success revert b0); intro W b0 K) | ((fail_if_success revert b1); intro W b1 K) | ((fail_if_success revert b2); intro W b2 K) | ((fail_if_success revert b3); intro W b3 K) | ((fail_if_success revert b4); intro W b4 K) | ((fail_if_success revert b5); intro W b5 K) | ((fail_if_success revert b6); intro W b6 K) | ((fail_if_success revert b7); intro W b7 K)); have r := K.rawS) | (apply K.storeA; rfl; rfl; rfl; rfl; rfl; (repeat (first | with_reducible exact Upd.head _ | with_reducible apply Upd.tail)); (first | with_reducible exact big_size | with_reducible exact frac_size); rfl; rfl; rfl; clear K r; intro W K; have r := K.rawS))
        refine (HI.out _ (by first | exact Rd.nil | exact K.rda)).mono ?_
        rintro e W' ⟨rfl, hb⟩
        replace K := K.keep hb
        clear r
        have r := K.rawS
        clear hb
        have HSb := Lib.hid (fun s2 t2 A2 B2 n2 c2 m2 d2 l2 k2 W r1 q1 r2 q2 h2 => qSub X ((F : Int) : Rat) s9 t9 s2 t2 A9 B9 A2 B2 n9 c9 m9 d9 n2 c2 m2 d2 l9 k9 l2 k2 W r1 q1 r2 q2 hs9 h2 hfx ffF hsb)
        have HWh := Lib.hid (fun W => rOf_any F 1 W (by omega) (by decide) (by decide))
        rw [divInt_1] at HWh
        obtain ⟨Y, hY⟩ : ∃ Y : Rat, Y = X - ((F : Int) : Rat) := ⟨_, rfl⟩
        rw [← hY] at HSb hff hrs
        clear hY hs9 hfx ffF hsb hwt HFe HI HFl9 hs3
        generalize ((F : Int) : Rat) = FQ at *
        go_upto_region 14 with (first | ((first | (apply K.alloc; rfl; rfl; (first | with_reducible exact big_zero | with_reducible exact frac_zero)) | (apply K.box; rfl; rfl; rfl)); clear K r; (first | ((fail_if_success revert b0); intro W b0 K) | ((fail_if_success revert b1); intro W b1 K) | ((fail_if_success revert b2); intro W b2 K) | ((fail_if_success revert b3); intro W b3 K) | ((fail_if_success revert b4); intro W b4 K) | ((fail_if_success revert b5); intro W b5 K) | ((fail_if_success revert b6); intro W b6 K) | ((fail_if_success revert b7); intro W b7 K)); have r := K.rawS) | (apply K.storeA; rfl; rfl; rfl; rfl; rfl; (repeat (first | with_reducible exact Upd.head _ | with_reducible apply Upd.tail)); (first | with_reducible exact big_size | with_reducible exact frac_size); rfl; rfl; rfl; clear K r; intro W K; have r := K.rawS))
        obtain ⟨RR, HR0⟩ := K.hideZ 35
        go_cut [19, 18] from 57 to 62 (fun e p wx => ∃ g s8 A8 n8 c8 l8 t8 B8 m8 d8 k8, e = .int .i64 0 ∧ p = .pointer (some ⟨g, 0, none⟩) ∧ StdF s8 l8 t8 k8 Y ∧ RR g #[.int .i64 s8, .slice A8 n8 c8, .int .i64 t8, .slice B8 m8 d8] A8 n8 c8 l8 B8 m8 d8 k8 wx)
        case first =>
          obtain ⟨gz1, hgz1, KA⟩ := K.newZ #[.int .i64 0, .slice none 0 0, .int .i64 0, .slice none 0 0] 35
          have rA := KA.raw
          have Kd := K.drew
          have KAd := KA.drew
          simp only [Raw, RawC, RawZ, and_true, true_and, Nat.zero_add, Nat.reduceAdd] at rA
          first
            | go_region_with (first
              | (go_at_call 36; (with_reducible refine (HWh.out _).mono ?_); rintro e W ⟨s30, A30, n30, c30, l30, t30, B30, m30, d30, k30, rfl, ⟨hra, hrb⟩, hs30, ⟨hfa, hfb⟩, hb⟩; (first | with_reducible replace K := Kd.retF hb hra hrb hfa hfb | with_reducible replace K := KAd.retF hb hra hrb hfa hfb); clear r rA KA hra hrb hfa hfb hb; have r := K.raw; obtain ⟨gz2, hgz2, KA⟩ := K.newZ #[.int .i64 0, .slice none 0 0, .int .i64 0, .slice none 0 0] 35; have rA := KA.raw; simp only [Raw, RawC, RawZ, and_true, true_and, Nat.zero_add, Nat.reduceAdd] at r rA)
              | (go_at_call 35; (with_reducible refine (HSb.out _ _ _ _ _ _ _ _ _ _ _ ?qa ?qb ?qc ?qd hs30).mono ?_); (case qa => (first | with_reducible exact K.rd (by repeat (first | with_reducible exact List.mem_cons_self | with_reducible apply List.mem_cons_of_mem)) | with_reducible exact KA.rd (by repeat (first | with_reducible exact List.mem_cons_self | with_reducible apply List.mem_cons_of_mem)))); (case qb => (first | with_reducible exact K.rd (by repeat (first | with_reducible exact List.mem_cons_self | with_reducible apply List.mem_cons_of_mem)) | with_reducible exact KA.rd (by repeat (first | with_reducible exact List.mem_cons_self | with_reducible apply List.mem_cons_of_mem)))); (case qc => (first | with_reducible exact K.rd (by repeat (first | with_reducible exact List.mem_cons_self | with_reducible apply List.mem_cons_of_mem)) | with_reducible exact KA.rd (by repeat (first | with_reducible exact List.mem_cons_self | with_reducible apply List.mem_cons_of_mem)))); (case qd => (first | with_reducible exact K.rd (by repeat (first | with_reducible exact List.mem_cons_self | with_reducible apply List.mem_cons_of_mem)) | with_reducible exact KA.rd (by repeat (first | with_reducible exact List.mem_cons_self | with_reducible apply List.mem_cons_of_mem)))); rintro e W ⟨s31, A31, n31, c31, l31, t31, B31, m31, d31, k31, rfl, ⟨hra, hrb⟩, hs31, ⟨hfa, hfb⟩, hb⟩; replace hs31 : StdF s31 l31 t31 k31 Y := hs31; (first | with_reducible replace K := K.retF hb hra hrb hfa hfb | with_reducible replace K := KA.retF hb hra hrb hfa hfb); clear r rA KA hra hrb hfa hfb hb; have r := K.raw; have z := K.rawz; simp only [Raw, RawC, RawZ, and_true, true_and, Nat.zero_add, Nat.reduceAdd] at r z))
            | fail
          all_goals
            go_wp2_with fail
            go_meet
            first
              | with_reducible exact ⟨_, s31, A31, n31, c31, l31, t31, B31, m31, d31, k31, rfl, rfl, hs31, (HR0 _ _ _ _ _ _ _ _ _ _ _).2 ((K.new #[.int .i64 s31, .slice A31 n31 c31, .int .i64 t31, .slice B31 m31 d31] 35).less (by simp only [List.mem_cons, List.not_mem_nil, or_false, forall_eq_or_imp, forall_eq, true_or, or_true, and_self]))⟩
              | with_reducible exact ⟨_, s31, A31, n31, c31, l31, t31, B31, m31, d31, k31, rfl, rfl, hs31, (HR0 _ _ _ _ _ _ _ _ _ _ _).2 ((K.set4Z (u0 := .int .i64 s31) (u1 := .slice A31 n31 c31) (u2 := .int .i64 t31) (u3 := .slice B31 m31 d31) (by repeat (first | with_reducible exact Upd.head _ | with_reducible apply Upd.tail))).less (by simp only [List.mem_cons, List.not_mem_nil, or_false, forall_eq_or_imp, forall_eq, true_or, or_true, and_self]))⟩
              | exact ⟨_, s31, A31, n31, c31, l31, t31, B31, m31, d31, k31, rfl, rfl, hs31, (HR0 _ _ _ _ _ _ _ _ _ _ _).2 ((K.new #[.int .i64 s31, .slice A31 n31 c31, .int .i64 t31, .slice B31 m31 d31] 35).less (by simp only [List.mem_cons, List.not_mem_nil, or_false, forall_eq_or_imp, forall_eq, true_or, or_true, and_self]))⟩
              | exact ⟨_, s31, A31, n31, c31, l31, t31, B31, m31, d31, k31, rfl, rfl, hs31, (HR0 _ _ _ _ _ _ _ _ _ _ _).2 ((K.set4Z (u0 := .int .i64 s31) (u1 := .slice A31 n31 c31) (u2 := .int .i64 t31) (u3 := .slice B31 m31 d31) (by repeat (first | with_reducible exact Upd.head _ | with_reducible apply Upd.tail))).less (by simp only [List.mem_cons, List.not_mem_nil, or_false, forall_eq_or_imp, forall_eq, true_or, or_true, and_self]))⟩
        obtain ⟨gb8, s8, A8, n8, c8, l8, t8, B8, m8, d8, k8, rfl, rfl, hs8, hk8⟩ := hcut
        replace K := (HR0 _ _ _ _ _ _ _ _ _ _ _).1 hk8
        clear r hk8 HR0
        have r := K.rawS
        have HV2 := Lib.hid (show ∀ j, j < k + 1 → (putF u k ⟨s8, A8, n8, c8, l8, t8, B8, m8, d8, k8⟩ j).fv.ok = true ∧ (putF u k ⟨s8, A8, n8, c8, l8, t8, B8, m8, d8, k8⟩ j).fv.rat = rsC (gq (ratL l)) (gq (ratL m)) j from fun j hj => by
          by_cases e : j = k
          · subst e
            rw [putF_same]
            refine ⟨StdF.right hs8 hff, ?_⟩
            rw [hrs]
            exact StdF.rat hs8
          · rw [putF_other e]
            exact HV.out j (by omega))
        clear hs8 hff hrs HV HSb HWh
        replace K := ((K.rwAdd ⟨s8, A8, n8, c8, l8, t8, B8, m8, d8, k8⟩ (by repeat (first | with_reducible exact List.mem_cons_self | with_reducible apply List.mem_cons_of_mem)) (by repeat (first | with_reducible exact List.mem_cons_self | with_reducible apply List.mem_cons_of_mem)) (by repeat (first | with_reducible exact List.mem_cons_self | with_reducible apply List.mem_cons_of_mem))).part (L' := (gb8, #[.int .i64 s8, .slice A8 n8 c8, .int .i64 t8, .slice B8 m8 d8], 35) :: (X1 ++ X2)) (List.Sublist.cons_cons _ (List.Sublist.cons _ (List.Sublist.refl _)))).less (D' := [⟨rwP (k + 1) (putF u k ⟨s8, A8, n8, c8, l8, t8, B8, m8, d8, k8⟩), rwS (k + 1) (putF u k ⟨s8, A8, n8, c8, l8, t8, B8, m8, d8, k8⟩)⟩]) (by simp only [List.mem_cons, List.not_mem_nil, or_false, forall_eq_or_imp, forall_eq, true_or, or_true, and_self])
        replace K := K.front
        clear r
        go_wp2_with (first
          | (at_builtin; refine K.app1 HW1.out iSized rfl _ _ 25 rfl _ 8 Try.underlying25 int_made rfl (by exact rfl) F _ rfl _ rfl (by exact rfl) (by rw [ofF_len]; omega) (by omega) ?_; intro v4 Y1 W4 ho4 K4; replace K := K4.back; have r := K.rawS; replace K := K.turn)
          | (at_builtin; refine K.app1 HW2.out rw_sized rfl _ _ 22 rfl _ 64 Try.underlying22 frac_made rfl (by exact rfl) (⟨s8, A8, n8, c8, l8, t8, B8, m8, d8, k8⟩ : Rw) _ rfl _ rfl (by exact rfl) (by rw [ofF_len]; omega) (by omega) ?_; intro v5 Y2 W5 ho5 K5))
        replace K := K5.rest
        have HW3 := Lib.hid (show OwL 1 iEnc 3 v4 (ofF (k + 1) fl) Y1 from by rw [ofF_succ, ← HF.out]; exact ho4)
        have HW4 := Lib.hid (show OwL 4 Rw.cs 35 v5 (ofF (k + 1) (putF u k ⟨s8, A8, n8, c8, l8, t8, B8, m8, d8, k8⟩)) Y2 from by rw [← ofF_put]; exact ho5)
        clear ho4 ho5
        go_roundg (n - (k + 1))
        case rel => exact ⟨k + 1, _, Y1, Y2, hlt, rfl, by go_num, by rw [Hmk.out], HV2, HA2, HW3, HW4, K⟩
        case measure => omega
    · have e : n = k := by omega
      subst e
      have HE0' := Lib.hid (HE0.out HA.out)
      obtain ⟨mm, hmm, hmn, hms⟩ := HMN.out
      have Hms := Lib.hid hms
      rw [hmm]
      clear HE0 HA HMN hms hmm HMS HMB HE6 hlt r hM0 HK hk
      obtain ⟨g1, cap1, J1, rfl, rfl, hc1, hc2⟩ := HW1.out.blk (by omega)
      obtain ⟨g2, cap2', J2, rfl, rfl, hc3, hc4⟩ := HW2.out.blk (by omega)
      clear HW1 HW2
      obtain ⟨sh, hsh⟩ : ∃ sh, sh = gq (ratL l) := ⟨_, rfl⟩
      obtain ⟨me, hme⟩ : ∃ me, me = gq (ratL m) := ⟨_, rfl⟩
      rw [← hsh, ← hme] at HFl HV Hms
      have HSh := Lib.hid (show sh = gq (ratL l) ∧ me = gq (ratL m) from ⟨hsh, hme⟩)
      clear hsh hme
      have K : St w [(g1, intA n (gotC sh me (fun _ => false)) J1, 3), (g2, rwA n u J2, 35)] [⟨rwP n u, rwS n u⟩] wr := by
        have e : gotC sh me (fun _ => false) = fl := by
          rw [HFl.out]
          funext j
          unfold gotC
          simp
        rw [e]
        exact K
      have HV0 := Lib.hid (show ∀ j, j < n → (u j).fv.ok = true ∧ (u j).fv.rat = aftC sh me (fun _ => false) j from fun j hj => ⟨(HV.out j hj).1, by
        rw [(HV.out j hj).2]
        unfold aftC ind
        simp
        grind⟩)
      clear HV HFl
      go_wp2_with fail
      go_loopg [12] mm (fun gk s12 wr => ∃ (t : Nat) (u : Nat → Rw) (S : Nat → Bool), t ≤ mm ∧ gk = mm - t ∧ s12 = .int .i64 ((mm - t : Nat) : Int) ∧ Hid (Sel n (rsC sh me) t S) ∧ Hid (∀ j, j < n → (u j).fv.ok = true ∧ (u j).fv.rat = aftC sh me S j) ∧ St w [(g1, intA n (gotC sh me S) J1, 3), (g2, rwA n u J2, 35)] [⟨rwP n u, rwS n u⟩] wr)
      case atStart => exact ⟨0, u, fun _ => false, Nat.zero_le _, rfl, by simp, Lib.hid (fun x => rfl), HV0, K⟩
      case round =>
        clear K HV0
        obtain ⟨t, u, S, ht0, rfl, rfl, HS, HV, K⟩ := hrel
        by_cases hlt : t < mm
        · have hgt : (0 : Int) < ((mm - t : Nat) : Int) := by omega
          have hgtn : 0 < mm - t := by omega
          have hgtd : decide (0 < mm - t) = true := decide_eq_true hgtn
          obtain ⟨dd, hdd⟩ : ∃ dd, dd = mm - t := ⟨_, rfl⟩
          rw [← hdd] at hgt hgtn hgtd ⊢
          have Hdd := Lib.hid hdd
          clear hdd
          go_wp2_with fail
          obtain ⟨wo, hwo⟩ : ∃ wo, wo = wr := ⟨_, rfl⟩
          go_loopg [20, 21] (n - 1) (fun gk s20 s21 wr => ∃ (b i : Nat), 1 ≤ i ∧ i ≤ n ∧ gk = n - i ∧ s20 = .int .i64 b ∧ s21 = .int .i64 i ∧ Hid (Fst (aftC sh me S) b i) ∧ St w [(g1, intA n (gotC sh me S) J1, 3), (g2, rwA n u J2, 35)] [⟨rwP n u, rwS n u⟩] wr)
          case atStart => exact ⟨0, 1, Nat.le_refl _, hn1, rfl, rfl, rfl, Lib.hid (Fst.start _), K⟩
          case round =>
            clear K hwo wo
            obtain ⟨b, i, hi1, hin, rfl, rfl, rfl, HB, K⟩ := hrel
            by_cases hlt2 : i < n
            · have hbi : b < i := HB.out.1
              have hbn : b < n := by omega
              obtain ⟨x, hx⟩ : ∃ x, x = u i := ⟨_, rfl⟩
              obtain ⟨y, hy⟩ : ∃ y, y = u b := ⟨_, rfl⟩
              have Hx := Lib.hid hx
              have Hy := Lib.hid hy
              clear hx hy
              have hxo := HV.out i hlt2
              have hyo := HV.out b hbn
              rw [← Hx.out] at hxo
              rw [← Hy.out] at hyo
              obtain ⟨hsx, fx⟩ := fv_std hxo.1
              obtain ⟨hsy, fy⟩ := fv_std hyo.1
              obtain ⟨M1, hM1⟩ : ∃ M, cmpQ x.fv.rat y.fv.rat = M := ⟨_, rfl⟩
              have hiff : 0 < M1 ↔ aftC sh me S b < aftC sh me S i := by
                rw [← hM1, hxo.2, hyo.2]
                unfold cmpQ
                by_cases e1 : aftC sh me S i < aftC sh me S b
                · rw [if_pos e1]
                  constructor
                  · intro h; exact absurd h (by decide)
                  · intro h; grind
                · rw [if_neg e1]
                  by_cases e2 : aftC sh me S b < aftC sh me S i
                  · rw [if_pos e2]; simp [e2]
                  · rw [if_neg e2]; simp [e2]
              obtain ⟨ι, f, hne, hfw, hfk, hfc⟩ := cls_st2 (fun W => St w [(g1, intA n (gotC sh me S) J1, 3), (g2, rwA n u J2, 35)] [⟨rwP n u, rwS n u⟩] W) wr K (fun W h => h.drew)
              have QC := Lib.hid (fun q => (qCmp x.fv.rat y.fv.rat x.s x.t y.s y.t x.A x.B y.A y.B x.n x.c x.m x.d y.n y.c y.m y.d x.l x.k y.l y.k (f q) (by rw [Hx.out]; exact ((show rwP n u (f q) from (hfk q).at (by repeat (first | with_reducible exact List.mem_cons_self | with_reducible apply List.mem_cons_of_mem))) i hlt2).1) (by rw [Hx.out]; exact ((show rwP n u (f q) from (hfk q).at (by repeat (first | with_reducible exact List.mem_cons_self | with_reducible apply List.mem_cons_of_mem))) i hlt2).2) (by rw [Hy.out]; exact ((show rwP n u (f q) from (hfk q).at (by repeat (first | with_reducible exact List.mem_cons_self | with_reducible apply List.mem_cons_of_mem))) b hbn).1) (by rw [Hy.out]; exact ((show rwP n u (f q) from (hfk q).at (by repeat (first | with_reducible exact List.mem_cons_self | with_reducible apply List.mem_cons_of_mem))) b hbn).2) hsx hsy fx fy).mono fun e w'' ⟨he, hb⟩ => (⟨by rw [← hM1]; exact he, hfc _ ((hfk q).keep hb)⟩ : e = Ending.returned (.int .i64 M1) ∧ ∃ s, w'' = f s))
              have c1 := fun q => (show _ from by have h := ((hfk q).cellRJ (g := g2) (i := i) hlt2 (by repeat (first | with_reducible exact List.mem_cons_self | with_reducible apply List.mem_cons_of_mem))).1.1; rw [← Hx.out] at h; exact h : (f q).cell? ⟨g2, i * 4, none⟩ = some (.int .i64 x.s))
              have c2 := fun q => (show _ from by have h := ((hfk q).cellRJ (g := g2) (i := i) hlt2 (by repeat (first | with_reducible exact List.mem_cons_self | with_reducible apply List.mem_cons_of_mem))).1.2.1; rw [← Hx.out] at h; exact h : (f q).cell? ⟨g2, i * 4 + 1, none⟩ = some (.slice x.A x.n x.c))
              have c3 := fun q => (show _ from by have h := ((hfk q).cellRJ (g := g2) (i := i) hlt2 (by repeat (first | with_reducible exact List.mem_cons_self | with_reducible apply List.mem_cons_of_mem))).1.2.2.1; rw [← Hx.out] at h; exact h : (f q).cell? ⟨g2, i * 4 + 2, none⟩ = some (.int .i64 x.t))
              have c4 := fun q => (show _ from by have h := ((hfk q).cellRJ (g := g2) (i := i) hlt2 (by repeat (first | with_reducible exact List.mem_cons_self | with_reducible apply List.mem_cons_of_mem))).1.2.2.2; rw [← Hx.out] at h; exact h : (f q).cell? ⟨g2, i * 4 + 3, none⟩ = some (.slice x.B x.m x.d))
              have y1 := fun q => (show _ from by have h := ((hfk q).cellRJ (g := g2) (i := b) hbn (by repeat (first | with_reducible exact List.mem_cons_self | with_reducible apply List.mem_cons_of_mem))).1.1; rw [← Hy.out] at h; exact h : (f q).cell? ⟨g2, b * 4, none⟩ = some (.int .i64 y.s))
              have y2 := fun q => (show _ from by have h := ((hfk q).cellRJ (g := g2) (i := b) hbn (by repeat (first | with_reducible exact List.mem_cons_self | with_reducible apply List.mem_cons_of_mem))).1.2.1; rw [← Hy.out] at h; exact h : (f q).cell? ⟨g2, b * 4 + 1, none⟩ = some (.slice y.A y.n y.c))
              have y3 := fun q => (show _ from by have h := ((hfk q).cellRJ (g := g2) (i := b) hbn (by repeat (first | with_reducible exact List.mem_cons_self | with_reducible apply List.mem_cons_of_mem))).1.2.2.1; rw [← Hy.out] at h; exact h : (f q).cell? ⟨g2, b * 4 + 2, none⟩ = some (.int .i64 y.t))
              have y4 := fun q => (show _ from by have h := ((hfk q).cellRJ (g := g2) (i := b) hbn (by repeat (first | with_reducible exact List.mem_cons_self | with_reducible apply List.mem_cons_of_mem))).1.2.2.2; rw [← Hy.out] at h; exact h : (f q).cell? ⟨g2, b * 4 + 3, none⟩ = some (.slice y.B y.m y.d))
              have hii : (i : Int) < (n : Int) := by omega
              have hi0 : (0 : Int) ≤ (i : Int) := by omega
              have hbb : (b : Int) < (n : Int) := by omega
              have hb0 : (0 : Int) ≤ (b : Int) := by omega
              have Hfw := Lib.hid hfw
              have Hfk := Lib.hid hfk
              clear hM1 hfw hfk hfc hxo hyo hsx fx hsy fy K
              by_cases hm0 : 0 < M1
              · have hmd : decide (0 < M1) = true := decide_eq_true hm0
                have HF2 := Lib.hid (HB.out.turn (hiff.1 hm0))
                clear hiff HB
                go_upto_region 23 with fail
                refine wp_region_cls2 (C := fun w' => ∃ n, w' = f n) (by kernel_rfl) (by kernel_rfl) Hfw.out ?_
                repeat (first
                  | go_big_quiet_skip
                  | (go_big_quiet_want; go_big_quiet_op; first | go_big_quiet_on | go_big_quiet_call ((go_at_call 19; with_reducible exact QC.out _))))
                refine wpQuiet_nil ?_
                rintro _ ⟨nq, rfl⟩
                have K := Hfk.out nq
                clear QC c1 c2 c3 c4 y1 y2 y3 y4
                go_wp2
                go_roundg (n - (i + 1))
                case rel => exact ⟨i, i + 1, by omega, by omega, by go_num, rfl, by go_num, HF2, K⟩
                case measure => omega
              · have hmd : decide (0 < M1) = false := decide_eq_false hm0
                have HF2 := Lib.hid (HB.out.stay (fun h => hm0 (hiff.2 h)))
                clear hiff HB
                go_upto_region 23 with fail
                refine wp_region_cls2 (C := fun w' => ∃ n, w' = f n) (by kernel_rfl) (by kernel_rfl) Hfw.out ?_
                repeat (first
                  | go_big_quiet_skip
                  | (go_big_quiet_want; go_big_quiet_op; first | go_big_quiet_on | go_big_quiet_call ((go_at_call 19; with_reducible exact QC.out _))))
                refine wpQuiet_nil ?_
                rintro _ ⟨nq, rfl⟩
                have K := Hfk.out nq
                clear QC c1 c2 c3 c4 y1 y2 y3 y4
                go_wp2
                go_roundg (n - (i + 1))
                case rel => exact ⟨b, i + 1, by omega, by omega, by go_num, rfl, by go_num, HF2, K⟩
                case measure => omega
            · have e : n = i := by omega
              subst e
              have hbn : b < n := HB.out.1
              have hbest : Best n (rsC sh me) S b := Fst.best (fun i _ => rsC_rng sh me i) HS.out (HS.out.left (by omega)) HB.out
              have HS2 := Lib.hid (HS.out.next hbest)
              have hSb : S b = false := hbest.2.1
              clear hbest HB
              have hbb : (b : Int) < (n : Int) := by omega
              have hb0 : (0 : Int) ≤ (b : Int) := by omega
              have g0 := K.cellNJ (g := g1) (f := gotC sh me S) hbn (by repeat (first | with_reducible exact List.mem_cons_self | with_reducible apply List.mem_cons_of_mem))
              have hgb := HO.out.got S hbn
              rw [← HSh.out.1, ← HSh.out.2] at hgb
              have hset := (intA_set (d := gotC sh me S) (v := gotC sh me S b + 1) (J := J1) hbn).trans (congrArg (fun f => intA n f J1) (gotS_step hSb))
              have Hset := Lib.hid hset
              clear hset
              generalize gotC sh me S b = G at *
              have hw2 : IntKind.i64.wrap (G + 1) = G + 1 := IntWalk.i64_in _ (by omega)
              have hru : (u b).fv.ok = true ∧ (u b).fv.rat = rsC sh me b := ⟨(HV.out b hbn).1, by rw [(HV.out b hbn).2]; exact aftS_at hSb⟩
              obtain ⟨x, hx⟩ : ∃ x, x = u b := ⟨_, rfl⟩
              rw [← hx] at hru
              obtain ⟨hsx, fx⟩ := fv_std hru.1
              have hrg := rsC_rng sh me b
              have hxr := hru.2
              have hsb := sub_one (r := x.fv.rat) fx (by rw [hxr]; exact hrg.1) (by rw [hxr]; exact hrg.2)
              have hff := addK_fits hsb
              rw [← Rat.sub_eq_add_neg] at hff
              have ff1 : fitsF ((1 : Int) : Rat) = true := by decide +kernel
              have HSb := Lib.hid (fun s2 t2 A2 B2 n2 c2 m2 d2 l2 k2 W r1 q1 r2 q2 h2 => qSub x.fv.rat ((1 : Int) : Rat) x.s x.t s2 t2 x.A x.B A2 B2 x.n x.c x.m x.d n2 c2 m2 d2 x.l x.k l2 k2 W r1 q1 r2 q2 hsx h2 fx ff1 hsb)
              have HWh := Lib.hid (fun W => rOf_any 1 1 W (by decide) (by decide) (by decide))
              rw [divInt_1] at HWh
              obtain ⟨Y, hY⟩ : ∃ Y : Rat, Y = x.fv.rat - ((1 : Int) : Rat) := ⟨_, rfl⟩
              rw [← hY] at HSb hff
              have hY2 : Y = rsC sh me b - 1 := by rw [hY, hxr]; rfl
              have Hx := Lib.hid hx
              have HV2 := Lib.hid (show ∀ x9 : Rw, StdF x9.s x9.l x9.t x9.k Y → ∀ j, j < n → (putF u b x9 j).fv.ok = true ∧ (putF u b x9 j).fv.rat = aftC sh me (fun x => S x || decide (x = b)) j from fun x9 hs8 j hj => by
                rw [aftS_step]
                by_cases e : j = b
                · subst e
                  rw [putF_same, if_pos rfl]
                  refine ⟨StdF.right hs8 hff, ?_⟩
                  rw [← hY2]
                  exact StdF.rat hs8
                · rw [putF_other e, if_neg e]
                  exact HV.out j hj)
              have HqA := Lib.hid (fun W (K : rwP n u W) => (show RdI W W.heap.size x.A x.n x.c x.l ∧ RdI W W.heap.size x.B x.m x.d x.k from by rw [Hx.out]; exact K b hbn))
              have Hd1 := Lib.hid (show (dd : Int) - 1 = ((mm - (t + 1) : Nat) : Int) from by have := Hdd.out; omega)
              have hwd : IntKind.i64.wrap ((dd : Int) - 1) = (dd : Int) - 1 := IntWalk.i64_in _ (by have := Hdd.out; omega)
              clear hx hru hsx fx hrg hxr hsb ff1 hY hgb hff hY2 HV
              generalize ((1 : Int) : Rat) = FQ at *
              have r := True.intro
              go_upto_region 26 with (apply K.storeI; rfl; rfl; rfl; rfl; rfl; (repeat (first | with_reducible apply Upd.head | with_reducible apply Upd.tail)); exact Hset.out; exact int_siz1; (rw [intA_size]; omega); clear K r g0; intro W K; have r := True.intro)
              have c := (K.cellRJ (g := g2) (i := b) (v := u) hbn (by repeat (first | with_reducible exact List.mem_cons_self | with_reducible apply List.mem_cons_of_mem))).1
              rw [← Hx.out] at c
              have Kd := K.drew
              first
                | go_region_with (first
                    | (go_at_call 36; (with_reducible refine (HWh.out _).mono ?_); rintro e W ⟨s50, A50, n50, c50, l50, t50, B50, m50, d50, k50, rfl, ⟨hra, hrb⟩, hs50, ⟨hfa, hfb⟩, hb⟩; (first | with_reducible replace K := Kd.retF hb hra hrb hfa hfb | with_reducible replace K := K.retF hb hra hrb hfa hfb); clear c hra hrb hfa hfb hb; have c := (K.cellRJ (g := g2) (i := b) (v := u) hbn (by repeat (first | with_reducible exact List.mem_cons_self | with_reducible apply List.mem_cons_of_mem))).1; rw [← Hx.out] at c)
                    | (go_at_call 35; (with_reducible refine (HSb.out _ _ _ _ _ _ _ _ _ _ _ ?qa ?qb ?qc ?qd hs50).mono ?_); (case qa => exact (HqA.out _ (K.at (by repeat (first | with_reducible exact List.mem_cons_self | with_reducible apply List.mem_cons_of_mem)))).1); (case qb => exact (HqA.out _ (K.at (by repeat (first | with_reducible exact List.mem_cons_self | with_reducible apply List.mem_cons_of_mem)))).2); (case qc => exact K.rd (by repeat (first | with_reducible exact List.mem_cons_self | with_reducible apply List.mem_cons_of_mem))); (case qd => exact K.rd (by repeat (first | with_reducible exact List.mem_cons_self | with_reducible apply List.mem_cons_of_mem))); rintro e W ⟨s60, A60, n60, c60, l60, t60, B60, m60, d60, k60, rfl, ⟨hra, hrb⟩, hs60, ⟨hfa, hfb⟩, hb⟩; replace K := K.retF hb hra hrb hfa hfb; clear c hra hrb hfa hfb hb; have z := K.cellRJ (g := g2) (v := u) hbn (by repeat (first | with_reducible exact List.mem_cons_self | with_reducible apply List.mem_cons_of_mem))))
                | fail
              all_goals
                replace hs60 : StdF s60 l60 t60 k60 Y := hs60
                have K2 := K.setRJ ⟨s60, A60, n60, c60, l60, t60, B60, m60, d60, k60⟩ hbn (by repeat (first | with_reducible exact Upd.head _ | with_reducible apply Upd.tail))
                have K3 := Lib.hid ((K2.rwPut ⟨s60, A60, n60, c60, l60, t60, B60, m60, d60, k60⟩ b (by repeat (first | with_reducible exact List.mem_cons_self | with_reducible apply List.mem_cons_of_mem)) (by repeat (first | with_reducible exact List.mem_cons_self | with_reducible apply List.mem_cons_of_mem)) (by repeat (first | with_reducible exact List.mem_cons_self | with_reducible apply List.mem_cons_of_mem))).less (D' := [⟨rwP n (putF u b ⟨s60, A60, n60, c60, l60, t60, B60, m60, d60, k60⟩), rwS n (putF u b ⟨s60, A60, n60, c60, l60, t60, B60, m60, d60, k60⟩)⟩]) (by simp only [List.mem_cons, List.not_mem_nil, or_false, forall_eq_or_imp, forall_eq, true_or, or_true, and_self]))
                have HV3 := Lib.hid (HV2.out ⟨s60, A60, n60, c60, l60, t60, B60, m60, d60, k60⟩ hs60)
                clear K2 K z
                go_wp2_with fail
                go_roundg (mm - (t + 1))
                case rel => exact ⟨t + 1, putF u b ⟨s60, A60, n60, c60, l60, t60, B60, m60, d60, k60⟩, fun x => S x || decide (x = b), hlt, rfl, by rw [Hd1.out], HS2, HV3, K3.out⟩
                case measure => have := Hdd.out; omega
        · have e : mm = t := by omega
          subst e
          have hgtn : ¬ 0 < mm - mm := by omega
          have hgtd : decide (0 < mm - mm) = false := by simp
          have HE := Lib.hid (show SplitC w total l m (.returned (.tuple #[.slice (some ⟨g1, 0, none⟩) n cap1, .slice (some ⟨g2, 0, none⟩) n cap2', .int .i64 0])) wr from
            ⟨_, n, cap1, _, _, n, cap2', _, by rw [HE0'.out], ⟨K.rdNJ (g := g1) (by repeat (first | with_reducible exact List.mem_cons_self | with_reducible apply List.mem_cons_of_mem)) ⟨hc1, hc2, by omega⟩, K.rdFJ (g := g2) (by repeat (first | with_reducible exact List.mem_cons_self | with_reducible apply List.mem_cons_of_mem)) (by repeat (first | with_reducible exact List.mem_cons_self | with_reducible apply List.mem_cons_of_mem)) ⟨hc3, hc4, by omega⟩⟩, fun h => absurd HE0'.out h, fun _ => ⟨aft_ok (fun j hj => (HV.out j hj).1), by
              unfold SplitP
              rw [ratL_len, HLn.out, ← HSh.out.1, ← HSh.out.2]
              exact ⟨S, mm, HS.out, by rw [Hms.out], rfl, by
                have h := aft_ofF (n := n) (sh := ratL l) (me := ratL m) (S := S) (v := u) (by rw [← HSh.out.1, ← HSh.out.2]; exact fun j hj => (HV.out j hj).2)
                rw [← HSh.out.1, ← HSh.out.2] at h
                exact h⟩⟩, K.1⟩)
          clear HV Hms HE0' HSh HS
          have hz : ((mm - mm : Nat) : Int) = 0 := by omega
          rw [hz]
          go_wp2
          exact bodyPost_ret (v := .tuple #[.slice (some ⟨g1, 0, none⟩) n cap1, .slice (some ⟨g2, 0, none⟩) n cap2', .int .i64 0]) (by simp [results, Try.results10, go_sem]) rfl HE.out
end Go.Proofs.Ytinfcngkbdiddaa
