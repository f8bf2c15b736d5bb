
/- Walk over LinearMoves. Conditions stand in the theorem. -/
import Derived.Test.YtdlcglndhhndpaaMu
import Derived.Test.YtdlcglndhhndpaaMx
import Derived.Test.YtdlcglndhhndpaaMp
import Derived.Test.YtdlcglndhhndpaaMz
namespace Go.Proofs.Ytdlcglndhhndpaa
open Go.RowKit
set_option linter.unusedVariables false
set_option linter.unusedSimpArgs false
set_option maxRecDepth 100000

theorem putF_rvF {a : Nat} {v : Nat → Rr} {z : Rr} : (fun i => (putF v a z i).rv) = putF (fun i => (v i).rv) a z.rv := by
  funext i
  by_cases e : i = a
  · rw [e, putF_same, putF_same]
  · rw [putF_other e, putF_other e]
section
variable {w W : World} {L : List Blk} {D : List Hl} {A : Option Addr} {n cap : Nat} {S : Nat → Prop}
theorem St.gR {l : List Rv} (K : St w L D W) (hm : (⟨rrP A n cap l, S⟩ : Hl) ∈ D := by repeat (first | with_reducible exact List.mem_cons_self | with_reducible apply List.mem_cons_of_mem)) : RdR W W.heap.size A n cap l := K.at hm
theorem St.gQ {l : List Fv} (K : St w L D W) (hm : (⟨rfQ A n cap l, S⟩ : Hl) ∈ D := by repeat (first | with_reducible exact List.mem_cons_self | with_reducible apply List.mem_cons_of_mem)) : RdF W W.heap.size A n cap l := K.at hm
theorem St.gP {P : World → Prop} (K : St w L D W) (hm : (⟨P, S⟩ : Hl) ∈ D := by repeat (first | with_reducible exact List.mem_cons_self | with_reducible apply List.mem_cons_of_mem)) : P W := K.at hm
end
section
variable {w W : World} {L L' : List Blk} {D : List Hl} {b : Nat} {t : TypeId}
theorem St.set5Z (h : St w L D W) {x0 x1 x2 x3 x4 u0 u1 u2 u3 u4 : Value} (hU : Upd b #[x0, x1, x2, x3, x4] t #[u0, u1, u2, u3, u4] L L') :
    St w L' D (((((W.setCell ⟨b, 0, none⟩ u0).setCell ⟨b, 1, none⟩ u1).setCell ⟨b, 2, none⟩ u2).setCell ⟨b, 3, none⟩ u3).setCell ⟨b, 4, none⟩ u4) :=
  h.upd hU (((((OnlyB.set W b 0 u0).trans (OnlyB.set _ b 1 u1)).trans (OnlyB.set _ b 2 u2)).trans (OnlyB.set _ b 3 u3)).trans (OnlyB.set _ b 4 u4)) ((((((h.blk hU.mem).set (j := 0) u0).set (j := 1) u1).set (j := 2) u2).set (j := 3) u3).set (j := 4) u4)
/-- a new block, and a row that goes on being read -/
theorem St.hideX (K : St w L D W) (T : TypeId) : ∃ R : Nat → Rr → World → Prop, ∀ (g : Nat) (x : Rr) {W' : World}, R g x W' ↔ ∃ S, St w ((g, #[.slice x.A x.n x.c, .int .i64 x.y.s, .slice x.y.A x.y.n x.y.c, .int .i64 x.y.t, .slice x.y.B x.y.m x.y.d], T) :: L) (⟨x.on, S⟩ :: D) W' :=
  ⟨_, fun _ _ => Iff.rfl⟩
end
theorem plus_two (A0 A3 : Option Addr) (n n3 c0 c3 : Nat) (hn3 : n3 = n) (a a2 : List Fv) (s1 t1 s2 t2 : Int) (A1 B1 A2 B2 : Option Addr) (n1 c1 m1 d1 n2 c2 m2 d2 : Nat) (l1 k1 l2 k2 : List Int) (w : World) (r0 : RdF w w.heap.size A0 n c0 a) (r3 : RdF w w.heap.size A3 n3 c3 a2) (r1 : RdI w w.heap.size A1 n1 c1 l1) (q1 : RdI w w.heap.size B1 m1 d1 k1) (r2 : RdI w w.heap.size A2 n2 c2 l2) (q2 : RdI w w.heap.size B2 m2 d2 k2)
    (b bb : Fv) (hb : b = ⟨s1, l1, t1, k1⟩) (hb2 : bb = ⟨s2, l2, t2, k2⟩) (hok : ∀ x ∈ a, x.ok = true) (hok2 : ∀ x ∈ a2, x.ok = true) (hob : b.ok = true) (hob2 : bb.ok = true) (hm : ∀ (i : Nat) x y, a[i]? = some x → a2[i]? = some y → addK x.rat y.rat = true) (hmb : addK b.rat bb.rat = true) (hn : n ≤ 1000) :
    Calls Try.prog 23 #[.agg #[.slice A0 n c0, .int .i64 s1, .slice A1 n1 c1, .int .i64 t1, .slice B1 m1 d1], .agg #[.slice A3 n3 c3, .int .i64 s2, .slice A2 n2 c2, .int .i64 t2, .slice B2 m2 d2]] w (RowT w (ofF n fun i => fvQ (vcL a i + vcL a2 i)) (fvQ (b.rat + bb.rat))) := by
  subst hn3
  exact plus_any A0 A3 n3 c0 c3 a a2 s1 t1 s2 t2 A1 B1 A2 B2 n1 c1 m1 d1 n2 c2 m2 d2 l1 k1 l2 k2 w r0 r3 r1 q1 r2 q2 b bb hb hb2 hok hok2 hob hob2 hm hmb hn
set_option maxHeartbeats 4000000 in
theorem linearMoves_walk (A : Option Addr) (n cap : Nat) (l : List Rv) (i k : Int) (s t : Int) (A2 B2 : Option Addr) (n2 c2 m2 d2 : Nat) (l2 k2 : List Int) (w : World) (hl : RdR w w.heap.size A n cap l) (hi : 0 ≤ i ∧ i ≤ 255) (hk : 0 ≤ k ∧ k ≤ 255) (r2 : RdI w w.heap.size A2 n2 c2 l2) (q2 : RdI w w.heap.size B2 m2 d2 k2) :
    Calls Try.prog 4 #[.slice A n cap, .int .u8 i, .int .u8 k, .agg #[.int .i64 s, .slice A2 n2 c2, .int .i64 t, .slice B2 m2 d2]] w fun e w' => e = .returned (.bool true) ∧ Below w.heap.size w w' := by
  have hcap := hl.caps
  have hlen := hl.len
  have hcp2 := r2.caps
  have hcq2 := q2.caps
  have K := ((St.start w).oldRd r2).oldRd q2
  have r := K.raw
  have HLr := Lib.hid (fun V (h : Below w.heap.size w V) => hl.up rE_lasts h)
  have HL0 := Lib.hid hl
  have HR2 := Lib.hid (fun V (h : Below w.heap.size w V) => r2.up (flat_lasts _) h)
  have HQ2 := Lib.hid (fun V (h : Below w.heap.size w V) => q2.up (flat_lasts _) h)
  have Hl2 := Lib.hid (show n2 = l2.length ∧ m2 = k2.length from ⟨r2.len.symm, q2.len.symm⟩)
  clear hl r2 q2
  cases h1 : few6R 3 1 l
  case false =>
    clear hlen
    go_enter Try.func4, Try.ntmps4
    go_wp2_with (first | ((first | (apply K.alloc; rfl; rfl; (first | with_reducible exact big_zero | with_reducible exact frac_zero)) | (apply K.box; rfl; rfl; rfl)); clear K r; (first | ((fail_if_success revert b0); intro W b0 K) | ((fail_if_success revert b1); intro W b1 K) | ((fail_if_success revert b2); intro W b2 K) | ((fail_if_success revert b3); intro W b3 K) | ((fail_if_success revert b4); intro W b4 K) | ((fail_if_success revert b5); intro W b5 K) | ((fail_if_success revert b6); intro W b6 K) | ((fail_if_success revert b7); intro W b7 K)); have r := K.rawS) | (apply K.storeA; rfl; rfl; rfl; rfl; rfl; (repeat (first | with_reducible exact Upd.head _ | with_reducible apply Upd.tail)); (first | with_reducible exact big_size | with_reducible exact frac_size); rfl; rfl; rfl; clear K r; intro W K; have r := K.rawS))
    have hBx := K.blk (b := b0) (by repeat (first | with_reducible exact List.mem_cons_self | with_reducible apply List.mem_cons_of_mem))
    replace K := (K.part (List.nil_sublist _)).addA (P := fun V => Hb V b0 #[.int .i64 s, .slice A2 n2 c2, .int .i64 t, .slice B2 m2 d2] 40) (fun V h1 h2 => hBx.of (h2 b0 hBx.lt))
    clear r hBx
    have hF := K.gP (P := fun V => Hb V b0 #[.int .i64 s, .slice A2 n2 c2, .int .i64 t, .slice B2 m2 d2] 40)
    have f0 := hF.cell (j := 0) rfl
    have f1 := hF.cell (j := 1) rfl
    have f2 := hF.cell (j := 2) rfl
    have f3 := hF.cell (j := 3) rfl
    clear hF
    refine (small6_any _).mono ?_
    rintro e W ⟨rfl, hb⟩
    replace K := K.keep hb
    clear hb f0 f1 f2 f3
    have hF := K.gP (P := fun V => Hb V b0 #[.int .i64 s, .slice A2 n2 c2, .int .i64 t, .slice B2 m2 d2] 40)
    have f0 := hF.cell (j := 0) rfl
    have f1 := hF.cell (j := 1) rfl
    have f2 := hF.cell (j := 2) rfl
    have f3 := hF.cell (j := 3) rfl
    clear hF
    go_wp2_with fail
    refine (fewR_is h1 _ _ _ _ (HLr.out _ K.1)).mono ?_
    rintro e W ⟨rfl, hb⟩
    replace K := K.keep hb
    clear hb f0 f1 f2 f3
    have hF := K.gP (P := fun V => Hb V b0 #[.int .i64 s, .slice A2 n2 c2, .int .i64 t, .slice B2 m2 d2] 40)
    have f0 := hF.cell (j := 0) rfl
    have f1 := hF.cell (j := 1) rfl
    have f2 := hF.cell (j := 2) rfl
    have f3 := hF.cell (j := 3) rfl
    clear hF
    (go_wp2_with fail; go_ret; exact ⟨rfl, K.1⟩)
  have HFw := Lib.hid (fun V => gfew_any s t A2 B2 n2 c2 m2 d2 1 V)
  cases h2 : fewF n2 m2 1
  case false =>
    rw [h2] at HFw
    clear hlen
    go_enter Try.func4, Try.ntmps4
    go_wp2_with (first | ((first | (apply K.alloc; rfl; rfl; (first | with_reducible exact big_zero | with_reducible exact frac_zero)) | (apply K.box; rfl; rfl; rfl)); clear K r; (first | ((fail_if_success revert b0); intro W b0 K) | ((fail_if_success revert b1); intro W b1 K) | ((fail_if_success revert b2); intro W b2 K) | ((fail_if_success revert b3); intro W b3 K) | ((fail_if_success revert b4); intro W b4 K) | ((fail_if_success revert b5); intro W b5 K) | ((fail_if_success revert b6); intro W b6 K) | ((fail_if_success revert b7); intro W b7 K)); have r := K.rawS) | (apply K.storeA; rfl; rfl; rfl; rfl; rfl; (repeat (first | with_reducible exact Upd.head _ | with_reducible apply Upd.tail)); (first | with_reducible exact big_size | with_reducible exact frac_size); rfl; rfl; rfl; clear K r; intro W K; have r := K.rawS))
    have hBx := K.blk (b := b0) (by repeat (first | with_reducible exact List.mem_cons_self | with_reducible apply List.mem_cons_of_mem))
    replace K := (K.part (List.nil_sublist _)).addA (P := fun V => Hb V b0 #[.int .i64 s, .slice A2 n2 c2, .int .i64 t, .slice B2 m2 d2] 40) (fun V h1 h2 => hBx.of (h2 b0 hBx.lt))
    clear r hBx
    have hF := K.gP (P := fun V => Hb V b0 #[.int .i64 s, .slice A2 n2 c2, .int .i64 t, .slice B2 m2 d2] 40)
    have f0 := hF.cell (j := 0) rfl
    have f1 := hF.cell (j := 1) rfl
    have f2 := hF.cell (j := 2) rfl
    have f3 := hF.cell (j := 3) rfl
    clear hF
    refine (small6_any _).mono ?_
    rintro e W ⟨rfl, hb⟩
    replace K := K.keep hb
    clear hb f0 f1 f2 f3
    have hF := K.gP (P := fun V => Hb V b0 #[.int .i64 s, .slice A2 n2 c2, .int .i64 t, .slice B2 m2 d2] 40)
    have f0 := hF.cell (j := 0) rfl
    have f1 := hF.cell (j := 1) rfl
    have f2 := hF.cell (j := 2) rfl
    have f3 := hF.cell (j := 3) rfl
    clear hF
    go_wp2_with fail
    refine (fewR_is h1 _ _ _ _ (HLr.out _ K.1)).mono ?_
    rintro e W ⟨rfl, hb⟩
    replace K := K.keep hb
    clear hb f0 f1 f2 f3
    have hF := K.gP (P := fun V => Hb V b0 #[.int .i64 s, .slice A2 n2 c2, .int .i64 t, .slice B2 m2 d2] 40)
    have f0 := hF.cell (j := 0) rfl
    have f1 := hF.cell (j := 1) rfl
    have f2 := hF.cell (j := 2) rfl
    have f3 := hF.cell (j := 3) rfl
    clear hF
    go_wp2_with fail
    refine (HFw.out _).mono ?_
    rintro e W ⟨rfl, hb⟩
    replace K := K.keep hb
    clear hb f0 f1 f2 f3
    have hF := K.gP (P := fun V => Hb V b0 #[.int .i64 s, .slice A2 n2 c2, .int .i64 t, .slice B2 m2 d2] 40)
    have f0 := hF.cell (j := 0) rfl
    have f1 := hF.cell (j := 1) rfl
    have f2 := hF.cell (j := 2) rfl
    have f3 := hF.cell (j := 3) rfl
    clear hF
    (go_wp2_with fail; go_ret; exact ⟨rfl, K.1⟩)
  rw [h2] at HFw
  cases h3 : rightL (n : Int) l
  case false =>
    clear hlen
    go_enter Try.func4, Try.ntmps4
    go_wp2_with (first | ((first | (apply K.alloc; rfl; rfl; (first | with_reducible exact big_zero | with_reducible exact frac_zero)) | (apply K.box; rfl; rfl; rfl)); clear K r; (first | ((fail_if_success revert b0); intro W b0 K) | ((fail_if_success revert b1); intro W b1 K) | ((fail_if_success revert b2); intro W b2 K) | ((fail_if_success revert b3); intro W b3 K) | ((fail_if_success revert b4); intro W b4 K) | ((fail_if_success revert b5); intro W b5 K) | ((fail_if_success revert b6); intro W b6 K) | ((fail_if_success revert b7); intro W b7 K)); have r := K.rawS) | (apply K.storeA; rfl; rfl; rfl; rfl; rfl; (repeat (first | with_reducible exact Upd.head _ | with_reducible apply Upd.tail)); (first | with_reducible exact big_size | with_reducible exact frac_size); rfl; rfl; rfl; clear K r; intro W K; have r := K.rawS))
    have hBx := K.blk (b := b0) (by repeat (first | with_reducible exact List.mem_cons_self | with_reducible apply List.mem_cons_of_mem))
    replace K := (K.part (List.nil_sublist _)).addA (P := fun V => Hb V b0 #[.int .i64 s, .slice A2 n2 c2, .int .i64 t, .slice B2 m2 d2] 40) (fun V h1 h2 => hBx.of (h2 b0 hBx.lt))
    clear r hBx
    have hF := K.gP (P := fun V => Hb V b0 #[.int .i64 s, .slice A2 n2 c2, .int .i64 t, .slice B2 m2 d2] 40)
    have f0 := hF.cell (j := 0) rfl
    have f1 := hF.cell (j := 1) rfl
    have f2 := hF.cell (j := 2) rfl
    have f3 := hF.cell (j := 3) rfl
    clear hF
    refine (small6_any _).mono ?_
    rintro e W ⟨rfl, hb⟩
    replace K := K.keep hb
    clear hb f0 f1 f2 f3
    have hF := K.gP (P := fun V => Hb V b0 #[.int .i64 s, .slice A2 n2 c2, .int .i64 t, .slice B2 m2 d2] 40)
    have f0 := hF.cell (j := 0) rfl
    have f1 := hF.cell (j := 1) rfl
    have f2 := hF.cell (j := 2) rfl
    have f3 := hF.cell (j := 3) rfl
    clear hF
    go_wp2_with fail
    refine (fewR_is h1 _ _ _ _ (HLr.out _ K.1)).mono ?_
    rintro e W ⟨rfl, hb⟩
    replace K := K.keep hb
    clear hb f0 f1 f2 f3
    have hF := K.gP (P := fun V => Hb V b0 #[.int .i64 s, .slice A2 n2 c2, .int .i64 t, .slice B2 m2 d2] 40)
    have f0 := hF.cell (j := 0) rfl
    have f1 := hF.cell (j := 1) rfl
    have f2 := hF.cell (j := 2) rfl
    have f3 := hF.cell (j := 3) rfl
    clear hF
    go_wp2_with fail
    refine (HFw.out _).mono ?_
    rintro e W ⟨rfl, hb⟩
    replace K := K.keep hb
    clear hb f0 f1 f2 f3
    have hF := K.gP (P := fun V => Hb V b0 #[.int .i64 s, .slice A2 n2 c2, .int .i64 t, .slice B2 m2 d2] 40)
    have f0 := hF.cell (j := 0) rfl
    have f1 := hF.cell (j := 1) rfl
    have f2 := hF.cell (j := 2) rfl
    have f3 := hF.cell (j := 3) rfl
    clear hF
    go_wp2_with fail
    refine (right_is h3 _ _ _ _ (HLr.out _ K.1)).mono ?_
    rintro e W ⟨rfl, hb⟩
    replace K := K.keep hb
    clear hb f0 f1 f2 f3
    have hF := K.gP (P := fun V => Hb V b0 #[.int .i64 s, .slice A2 n2 c2, .int .i64 t, .slice B2 m2 d2] 40)
    have f0 := hF.cell (j := 0) rfl
    have f1 := hF.cell (j := 1) rfl
    have f2 := hF.cell (j := 2) rfl
    have f3 := hF.cell (j := 3) rfl
    clear hF
    (go_wp2_with fail; go_ret; exact ⟨rfl, K.1⟩)
  by_cases hn0 : n = 0
  case pos =>
    have hnn : ((n : Int) == 0) = true := by rw [hn0]; rfl
    clear hlen hn0
    go_enter Try.func4, Try.ntmps4
    go_wp2_with (first | ((first | (apply K.alloc; rfl; rfl; (first | with_reducible exact big_zero | with_reducible exact frac_zero)) | (apply K.box; rfl; rfl; rfl)); clear K r; (first | ((fail_if_success revert b0); intro W b0 K) | ((fail_if_success revert b1); intro W b1 K) | ((fail_if_success revert b2); intro W b2 K) | ((fail_if_success revert b3); intro W b3 K) | ((fail_if_success revert b4); intro W b4 K) | ((fail_if_success revert b5); intro W b5 K) | ((fail_if_success revert b6); intro W b6 K) | ((fail_if_success revert b7); intro W b7 K)); have r := K.rawS) | (apply K.storeA; rfl; rfl; rfl; rfl; rfl; (repeat (first | with_reducible exact Upd.head _ | with_reducible apply Upd.tail)); (first | with_reducible exact big_size | with_reducible exact frac_size); rfl; rfl; rfl; clear K r; intro W K; have r := K.rawS))
    have hBx := K.blk (b := b0) (by repeat (first | with_reducible exact List.mem_cons_self | with_reducible apply List.mem_cons_of_mem))
    replace K := (K.part (List.nil_sublist _)).addA (P := fun V => Hb V b0 #[.int .i64 s, .slice A2 n2 c2, .int .i64 t, .slice B2 m2 d2] 40) (fun V h1 h2 => hBx.of (h2 b0 hBx.lt))
    clear r hBx
    have hF := K.gP (P := fun V => Hb V b0 #[.int .i64 s, .slice A2 n2 c2, .int .i64 t, .slice B2 m2 d2] 40)
    have f0 := hF.cell (j := 0) rfl
    have f1 := hF.cell (j := 1) rfl
    have f2 := hF.cell (j := 2) rfl
    have f3 := hF.cell (j := 3) rfl
    clear hF
    refine (small6_any _).mono ?_
    rintro e W ⟨rfl, hb⟩
    replace K := K.keep hb
    clear hb f0 f1 f2 f3
    have hF := K.gP (P := fun V => Hb V b0 #[.int .i64 s, .slice A2 n2 c2, .int .i64 t, .slice B2 m2 d2] 40)
    have f0 := hF.cell (j := 0) rfl
    have f1 := hF.cell (j := 1) rfl
    have f2 := hF.cell (j := 2) rfl
    have f3 := hF.cell (j := 3) rfl
    clear hF
    go_wp2_with fail
    refine (fewR_is h1 _ _ _ _ (HLr.out _ K.1)).mono ?_
    rintro e W ⟨rfl, hb⟩
    replace K := K.keep hb
    clear hb f0 f1 f2 f3
    have hF := K.gP (P := fun V => Hb V b0 #[.int .i64 s, .slice A2 n2 c2, .int .i64 t, .slice B2 m2 d2] 40)
    have f0 := hF.cell (j := 0) rfl
    have f1 := hF.cell (j := 1) rfl
    have f2 := hF.cell (j := 2) rfl
    have f3 := hF.cell (j := 3) rfl
    clear hF
    go_wp2_with fail
    refine (HFw.out _).mono ?_
    rintro e W ⟨rfl, hb⟩
    replace K := K.keep hb
    clear hb f0 f1 f2 f3
    have hF := K.gP (P := fun V => Hb V b0 #[.int .i64 s, .slice A2 n2 c2, .int .i64 t, .slice B2 m2 d2] 40)
    have f0 := hF.cell (j := 0) rfl
    have f1 := hF.cell (j := 1) rfl
    have f2 := hF.cell (j := 2) rfl
    have f3 := hF.cell (j := 3) rfl
    clear hF
    go_wp2_with fail
    refine (right_is h3 _ _ _ _ (HLr.out _ K.1)).mono ?_
    rintro e W ⟨rfl, hb⟩
    replace K := K.keep hb
    clear hb f0 f1 f2 f3
    have hF := K.gP (P := fun V => Hb V b0 #[.int .i64 s, .slice A2 n2 c2, .int .i64 t, .slice B2 m2 d2] 40)
    have f0 := hF.cell (j := 0) rfl
    have f1 := hF.cell (j := 1) rfl
    have f2 := hF.cell (j := 2) rfl
    have f3 := hF.cell (j := 3) rfl
    clear hF
    (go_wp2_with fail; go_ret; exact ⟨rfl, K.1⟩)
  have hnn : ((n : Int) == 0) = false := by rw [beq_eq_false_iff_ne]; omega
  have HFr := Lib.hid (fun V a b => fRight_any s t A2 B2 n2 c2 m2 d2 l2 k2 V a b)
  cases h4 : rightF s l2 t k2
  case false =>
    rw [h4] at HFr
    clear hlen hn0
    go_enter Try.func4, Try.ntmps4
    go_wp2_with (first | ((first | (apply K.alloc; rfl; rfl; (first | with_reducible exact big_zero | with_reducible exact frac_zero)) | (apply K.box; rfl; rfl; rfl)); clear K r; (first | ((fail_if_success revert b0); intro W b0 K) | ((fail_if_success revert b1); intro W b1 K) | ((fail_if_success revert b2); intro W b2 K) | ((fail_if_success revert b3); intro W b3 K) | ((fail_if_success revert b4); intro W b4 K) | ((fail_if_success revert b5); intro W b5 K) | ((fail_if_success revert b6); intro W b6 K) | ((fail_if_success revert b7); intro W b7 K)); have r := K.rawS) | (apply K.storeA; rfl; rfl; rfl; rfl; rfl; (repeat (first | with_reducible exact Upd.head _ | with_reducible apply Upd.tail)); (first | with_reducible exact big_size | with_reducible exact frac_size); rfl; rfl; rfl; clear K r; intro W K; have r := K.rawS))
    have hBx := K.blk (b := b0) (by repeat (first | with_reducible exact List.mem_cons_self | with_reducible apply List.mem_cons_of_mem))
    replace K := (K.part (List.nil_sublist _)).addA (P := fun V => Hb V b0 #[.int .i64 s, .slice A2 n2 c2, .int .i64 t, .slice B2 m2 d2] 40) (fun V h1 h2 => hBx.of (h2 b0 hBx.lt))
    clear r hBx
    have hF := K.gP (P := fun V => Hb V b0 #[.int .i64 s, .slice A2 n2 c2, .int .i64 t, .slice B2 m2 d2] 40)
    have f0 := hF.cell (j := 0) rfl
    have f1 := hF.cell (j := 1) rfl
    have f2 := hF.cell (j := 2) rfl
    have f3 := hF.cell (j := 3) rfl
    clear hF
    refine (small6_any _).mono ?_
    rintro e W ⟨rfl, hb⟩
    replace K := K.keep hb
    clear hb f0 f1 f2 f3
    have hF := K.gP (P := fun V => Hb V b0 #[.int .i64 s, .slice A2 n2 c2, .int .i64 t, .slice B2 m2 d2] 40)
    have f0 := hF.cell (j := 0) rfl
    have f1 := hF.cell (j := 1) rfl
    have f2 := hF.cell (j := 2) rfl
    have f3 := hF.cell (j := 3) rfl
    clear hF
    go_wp2_with fail
    refine (fewR_is h1 _ _ _ _ (HLr.out _ K.1)).mono ?_
    rintro e W ⟨rfl, hb⟩
    replace K := K.keep hb
    clear hb f0 f1 f2 f3
    have hF := K.gP (P := fun V => Hb V b0 #[.int .i64 s, .slice A2 n2 c2, .int .i64 t, .slice B2 m2 d2] 40)
    have f0 := hF.cell (j := 0) rfl
    have f1 := hF.cell (j := 1) rfl
    have f2 := hF.cell (j := 2) rfl
    have f3 := hF.cell (j := 3) rfl
    clear hF
    go_wp2_with fail
    refine (HFw.out _).mono ?_
    rintro e W ⟨rfl, hb⟩
    replace K := K.keep hb
    clear hb f0 f1 f2 f3
    have hF := K.gP (P := fun V => Hb V b0 #[.int .i64 s, .slice A2 n2 c2, .int .i64 t, .slice B2 m2 d2] 40)
    have f0 := hF.cell (j := 0) rfl
    have f1 := hF.cell (j := 1) rfl
    have f2 := hF.cell (j := 2) rfl
    have f3 := hF.cell (j := 3) rfl
    clear hF
    go_wp2_with fail
    refine (right_is h3 _ _ _ _ (HLr.out _ K.1)).mono ?_
    rintro e W ⟨rfl, hb⟩
    replace K := K.keep hb
    clear hb f0 f1 f2 f3
    have hF := K.gP (P := fun V => Hb V b0 #[.int .i64 s, .slice A2 n2 c2, .int .i64 t, .slice B2 m2 d2] 40)
    have f0 := hF.cell (j := 0) rfl
    have f1 := hF.cell (j := 1) rfl
    have f2 := hF.cell (j := 2) rfl
    have f3 := hF.cell (j := 3) rfl
    clear hF
    go_wp2_with fail
    refine (HFr.out _ K.rda K.rda).mono ?_
    rintro e W ⟨rfl, hb⟩
    replace K := K.keep hb
    clear hb f0 f1 f2 f3
    have hF := K.gP (P := fun V => Hb V b0 #[.int .i64 s, .slice A2 n2 c2, .int .i64 t, .slice B2 m2 d2] 40)
    have f0 := hF.cell (j := 0) rfl
    have f1 := hF.cell (j := 1) rfl
    have f2 := hF.cell (j := 2) rfl
    have f3 := hF.cell (j := 3) rfl
    clear hF
    (go_wp2_with fail; go_ret; exact ⟨rfl, K.1⟩)
  rw [h4] at HFr
  have HZe := Lib.hid (fun V => zero6_any s t A2 B2 n2 c2 m2 d2 V)
  cases h5 : (s == 0)
  case true =>
    rw [h5] at HZe
    clear hlen hn0
    go_enter Try.func4, Try.ntmps4
    go_wp2_with (first | ((first | (apply K.alloc; rfl; rfl; (first | with_reducible exact big_zero | with_reducible exact frac_zero)) | (apply K.box; rfl; rfl; rfl)); clear K r; (first | ((fail_if_success revert b0); intro W b0 K) | ((fail_if_success revert b1); intro W b1 K) | ((fail_if_success revert b2); intro W b2 K) | ((fail_if_success revert b3); intro W b3 K) | ((fail_if_success revert b4); intro W b4 K) | ((fail_if_success revert b5); intro W b5 K) | ((fail_if_success revert b6); intro W b6 K) | ((fail_if_success revert b7); intro W b7 K)); have r := K.rawS) | (apply K.storeA; rfl; rfl; rfl; rfl; rfl; (repeat (first | with_reducible exact Upd.head _ | with_reducible apply Upd.tail)); (first | with_reducible exact big_size | with_reducible exact frac_size); rfl; rfl; rfl; clear K r; intro W K; have r := K.rawS))
    have hBx := K.blk (b := b0) (by repeat (first | with_reducible exact List.mem_cons_self | with_reducible apply List.mem_cons_of_mem))
    replace K := (K.part (List.nil_sublist _)).addA (P := fun V => Hb V b0 #[.int .i64 s, .slice A2 n2 c2, .int .i64 t, .slice B2 m2 d2] 40) (fun V h1 h2 => hBx.of (h2 b0 hBx.lt))
    clear r hBx
    have hF := K.gP (P := fun V => Hb V b0 #[.int .i64 s, .slice A2 n2 c2, .int .i64 t, .slice B2 m2 d2] 40)
    have f0 := hF.cell (j := 0) rfl
    have f1 := hF.cell (j := 1) rfl
    have f2 := hF.cell (j := 2) rfl
    have f3 := hF.cell (j := 3) rfl
    clear hF
    refine (small6_any _).mono ?_
    rintro e W ⟨rfl, hb⟩
    replace K := K.keep hb
    clear hb f0 f1 f2 f3
    have hF := K.gP (P := fun V => Hb V b0 #[.int .i64 s, .slice A2 n2 c2, .int .i64 t, .slice B2 m2 d2] 40)
    have f0 := hF.cell (j := 0) rfl
    have f1 := hF.cell (j := 1) rfl
    have f2 := hF.cell (j := 2) rfl
    have f3 := hF.cell (j := 3) rfl
    clear hF
    go_wp2_with fail
    refine (fewR_is h1 _ _ _ _ (HLr.out _ K.1)).mono ?_
    rintro e W ⟨rfl, hb⟩
    replace K := K.keep hb
    clear hb f0 f1 f2 f3
    have hF := K.gP (P := fun V => Hb V b0 #[.int .i64 s, .slice A2 n2 c2, .int .i64 t, .slice B2 m2 d2] 40)
    have f0 := hF.cell (j := 0) rfl
    have f1 := hF.cell (j := 1) rfl
    have f2 := hF.cell (j := 2) rfl
    have f3 := hF.cell (j := 3) rfl
    clear hF
    go_wp2_with fail
    refine (HFw.out _).mono ?_
    rintro e W ⟨rfl, hb⟩
    replace K := K.keep hb
    clear hb f0 f1 f2 f3
    have hF := K.gP (P := fun V => Hb V b0 #[.int .i64 s, .slice A2 n2 c2, .int .i64 t, .slice B2 m2 d2] 40)
    have f0 := hF.cell (j := 0) rfl
    have f1 := hF.cell (j := 1) rfl
    have f2 := hF.cell (j := 2) rfl
    have f3 := hF.cell (j := 3) rfl
    clear hF
    go_wp2_with fail
    refine (right_is h3 _ _ _ _ (HLr.out _ K.1)).mono ?_
    rintro e W ⟨rfl, hb⟩
    replace K := K.keep hb
    clear hb f0 f1 f2 f3
    have hF := K.gP (P := fun V => Hb V b0 #[.int .i64 s, .slice A2 n2 c2, .int .i64 t, .slice B2 m2 d2] 40)
    have f0 := hF.cell (j := 0) rfl
    have f1 := hF.cell (j := 1) rfl
    have f2 := hF.cell (j := 2) rfl
    have f3 := hF.cell (j := 3) rfl
    clear hF
    go_wp2_with fail
    refine (HFr.out _ K.rda K.rda).mono ?_
    rintro e W ⟨rfl, hb⟩
    replace K := K.keep hb
    clear hb f0 f1 f2 f3
    have hF := K.gP (P := fun V => Hb V b0 #[.int .i64 s, .slice A2 n2 c2, .int .i64 t, .slice B2 m2 d2] 40)
    have f0 := hF.cell (j := 0) rfl
    have f1 := hF.cell (j := 1) rfl
    have f2 := hF.cell (j := 2) rfl
    have f3 := hF.cell (j := 3) rfl
    clear hF
    go_wp2_with fail
    refine (HZe.out _).mono ?_
    rintro e W ⟨rfl, hb⟩
    replace K := K.keep hb
    clear hb f0 f1 f2 f3
    have hF := K.gP (P := fun V => Hb V b0 #[.int .i64 s, .slice A2 n2 c2, .int .i64 t, .slice B2 m2 d2] 40)
    have f0 := hF.cell (j := 0) rfl
    have f1 := hF.cell (j := 1) rfl
    have f2 := hF.cell (j := 2) rfl
    have f3 := hF.cell (j := 3) rfl
    clear hF
    (go_wp2_with fail; go_ret; exact ⟨rfl, K.1⟩)
  rw [h5] at HZe
  have hn3 := only_n h1 hlen
  have hn40 : n ≤ 40 := by omega
  have hnz : ¬ (n : Int) = 0 := by omega
  have hnz2 : ¬ n = 0 := hn0
  obtain ⟨fx, hfx⟩ : ∃ fx : Fv, fx = ⟨s, l2, t, k2⟩ := ⟨_, rfl⟩
  have hfok : fx.ok = true := by rw [hfx]; exact h4
  obtain ⟨f, hf⟩ : ∃ f : Rat, f = fx.rat := ⟨_, rfl⟩
  have hfp : Pt 1 f := by
    rw [hf]
    refine few_pt (d := 1) hfok ?_
    unfold fewV
    rw [hfx]
    show fewF l2.length k2.length 1 = true
    rw [← Hl2.out.1, ← Hl2.out.2]
    exact h2
  have hfs : StdF s l2 t k2 f ∧ fitsF f = true := by
    have := fv_std hfok
    rw [← hf, hfx] at this
    exact this
  have hf0 : f ≠ 0 := by
    have := hfs.1.zero_iff hfs.2
    rw [h5] at this
    exact fun e => by rw [decide_eq_true e] at this; cases this
  have HFs := Lib.hid hfs
  have HFp := Lib.hid hfp
  obtain ⟨ea, ha⟩ := tmod_nat hi.1 (show 0 < n by omega)
  obtain ⟨eb, hb0⟩ := tmod_nat hk.1 (show 0 < n by omega)
  generalize i.toNat % n = a at *
  generalize k.toNat % n = b at *
  have wi : IntKind.i64.wrap i = i := IntWalk.i64_in _ (by omega)
  have wk : IntKind.i64.wrap k = k := IntWalk.i64_in _ (by omega)
  have wa : IntKind.i64.wrap (a : Int) = (a : Int) := IntWalk.i64_in _ (by omega)
  have wb : IntKind.i64.wrap (b : Int) = (b : Int) := IntWalk.i64_in _ (by omega)
  obtain ⟨v, rv, hon, hlv⟩ := rdR_raw HL0.out rfl
  obtain ⟨eo, off, hA, hbB, hcell⟩ := rr_cells rv (show 0 < n by omega)
  subst hA
  have HCl := Lib.hid (fun W (h : Below w.heap.size w W) j (hj : j < n) => (⟨(h.cell (p := ⟨eo, off + j * 5, none⟩) hbB).trans (hcell j hj).1, (h.cell (p := ⟨eo, off + j * 5 + 1, none⟩) hbB).trans (hcell j hj).2.1, (h.cell (p := ⟨eo, off + j * 5 + 2, none⟩) hbB).trans (hcell j hj).2.2.1, (h.cell (p := ⟨eo, off + j * 5 + 3, none⟩) hbB).trans (hcell j hj).2.2.2.1, (h.cell (p := ⟨eo, off + j * 5 + 4, none⟩) hbB).trans (hcell j hj).2.2.2.2⟩ : W.cell? ⟨eo, off + j * 5, none⟩ = some (.slice (v j).A (v j).n (v j).c) ∧ W.cell? ⟨eo, off + j * 5 + 1, none⟩ = some (.int .i64 (v j).y.s) ∧ W.cell? ⟨eo, off + j * 5 + 2, none⟩ = some (.slice (v j).y.A (v j).y.n (v j).y.c) ∧ W.cell? ⟨eo, off + j * 5 + 3, none⟩ = some (.int .i64 (v j).y.t) ∧ W.cell? ⟨eo, off + j * 5 + 4, none⟩ = some (.slice (v j).y.B (v j).y.m (v j).y.d)))
  obtain ⟨p6, p1, p2, p3⟩ := moves_law h3 h1 hlen hlv ha hb0 hf0 hfp
  obtain ⟨hra1, hra2, hra3⟩ := right_row h3 (hlv a ha)
  obtain ⟨hfa1, hfa2⟩ := few_row (d := 1) h1 (hlv a ha)
  obtain ⟨hrb1, hrb2, hrb3⟩ := right_row h3 (hlv b hb0)
  obtain ⟨hfb1, hfb2⟩ := few_row (d := 1) h1 (hlv b hb0)
  have hai : (a : Int) < (n : Int) := by omega
  have hbi : (b : Int) < (n : Int) := by omega
  have ha0 : (0 : Int) ≤ (a : Int) := by omega
  have hbz : (0 : Int) ≤ (b : Int) := by omega
  have hna : (v a).n = n := by rw [← (hon a ha).1.len]; exact hra1
  have hnb : (v b).n = n := by rw [← (hon b hb0).1.len]; exact hrb1
  obtain ⟨xs, E, hS⟩ : ∃ xs E, solL (n : Int) l = (xs, E) := ⟨_, _, rfl⟩
  rw [hS] at p6 p1 p2 p3
  have P1 := Lib.hid p1
  have P2 := Lib.hid p2
  have P3 := Lib.hid p3
  clear p1 p2 p3 hcell hf0 hfp hfs hf hfok hfx hn0
  have HTim := Lib.hid (fun L D V (h : St w L D V) => ((times_any f (v a).A (v a).n (v a).c (v a).a (v a).y.s (v a).y.t s t (v a).y.A (v a).y.B A2 B2 (v a).y.n (v a).y.c (v a).y.m (v a).y.d n2 c2 m2 d2 (v a).y.l (v a).y.k l2 k2 V ((hon a ha).1.up fE_lasts h.1) ((hon a ha).2.1.up (flat_lasts _) h.1) ((hon a ha).2.2.up (flat_lasts _) h.1) (HR2.out V h.1) (HQ2.out V h.1) HFs.out.1 HFs.out.2 (v a).y.fv rfl hra3 hra2 (fun x hx => ((few_pt (hra3 x hx) (hfa2 x hx)).mul HFp.out (by omega)).1) ((few_pt hra2 hfa1).mul HFp.out (by omega)).1 (by omega)).mono fun e V2 ⟨x, he, hx1, hx2, hx3, hbb⟩ => (⟨x, betS V V2, he, hx3, h.addX hbb hx2⟩ : ∃ (x : Rr) (S : Nat → Prop), e = Ending.returned (.tuple #[.agg #[.slice x.A x.n x.c, .int .i64 x.y.s, .slice x.y.A x.y.n x.y.c, .int .i64 x.y.t, .slice x.y.B x.y.m x.y.d], .bool true]) ∧ x.rv = (⟨(v a).a.map fun y : Fv => fvQ (y.rat * f), fvQ ((v a).y.fv.rat * f)⟩ : Rv) ∧ St w L (⟨x.on, S⟩ :: D) V2)))
  have HPlu := Lib.hid (fun L D V (h : St w L D V) => ((plus_two (v a).A (v b).A (v a).n (v b).n (v a).c (v b).c (by rw [hna, hnb]) (v a).a (v b).a (v a).y.s (v a).y.t (v b).y.s (v b).y.t (v a).y.A (v a).y.B (v b).y.A (v b).y.B (v a).y.n (v a).y.c (v a).y.m (v a).y.d (v b).y.n (v b).y.c (v b).y.m (v b).y.d (v a).y.l (v a).y.k (v b).y.l (v b).y.k V ((hon a ha).1.up fE_lasts h.1) ((hon b hb0).1.up fE_lasts h.1) ((hon a ha).2.1.up (flat_lasts _) h.1) ((hon a ha).2.2.up (flat_lasts _) h.1) ((hon b hb0).2.1.up (flat_lasts _) h.1) ((hon b hb0).2.2.up (flat_lasts _) h.1) (v a).y.fv (v b).y.fv rfl rfl hra3 hrb3 hra2 hrb2 (fun i x y hx hy => ((few_pt (hra3 x (List.mem_of_getElem? hx)) (hfa2 x (List.mem_of_getElem? hx))).add (few_pt (hrb3 y (List.mem_of_getElem? hy)) (hfb2 y (List.mem_of_getElem? hy))) (by omega)).1) ((few_pt hra2 hfa1).add (few_pt hrb2 hfb1) (by omega)).1 (by omega)).mono fun e V2 ⟨x, he, hx1, hx2, hx3, hbb⟩ => (⟨x, betS V V2, he, by rw [hna] at hx3; exact hx3, h.addX hbb hx2⟩ : ∃ (x : Rr) (S : Nat → Prop), e = Ending.returned (.tuple #[.agg #[.slice x.A x.n x.c, .int .i64 x.y.s, .slice x.y.A x.y.n x.y.c, .int .i64 x.y.t, .slice x.y.B x.y.m x.y.d], .bool true]) ∧ x.rv = (⟨ofF n fun i => fvQ (vcL (v a).a i + vcL (v b).a i), fvQ ((v a).y.fv.rat + (v b).y.fv.rat)⟩ : Rv) ∧ St w L (⟨x.on, S⟩ :: D) V2)))
  clear hra1 hra2 hra3 hfa1 hfa2 hrb1 hrb2 hrb3 hfb1 hfb2 hna hnb
  go_enter Try.func4, Try.ntmps4
  go_wp2_with (first | ((first | (apply K.alloc; rfl; rfl; (first | with_reducible exact big_zero | with_reducible exact frac_zero)) | (apply K.box; rfl; rfl; rfl)); clear K r; (first | ((fail_if_success revert b0); intro W b0 K) | ((fail_if_success revert b1); intro W b1 K) | ((fail_if_success revert b2); intro W b2 K) | ((fail_if_success revert b3); intro W b3 K) | ((fail_if_success revert b4); intro W b4 K) | ((fail_if_success revert b5); intro W b5 K) | ((fail_if_success revert b6); intro W b6 K) | ((fail_if_success revert b7); intro W b7 K)); have r := K.rawS) | (apply K.storeA; rfl; rfl; rfl; rfl; rfl; (repeat (first | with_reducible exact Upd.head _ | with_reducible apply Upd.tail)); (first | with_reducible exact big_size | with_reducible exact frac_size); rfl; rfl; rfl; clear K r; intro W K; have r := K.rawS))
  have hBx := K.blk (b := b0) (by repeat (first | with_reducible exact List.mem_cons_self | with_reducible apply List.mem_cons_of_mem))
  replace K := (K.part (List.nil_sublist _)).addA (P := fun V => Hb V b0 #[.int .i64 s, .slice A2 n2 c2, .int .i64 t, .slice B2 m2 d2] 40) (fun V h1 h2 => hBx.of (h2 b0 hBx.lt))
  clear r hBx
  have hF := K.gP (P := fun V => Hb V b0 #[.int .i64 s, .slice A2 n2 c2, .int .i64 t, .slice B2 m2 d2] 40)
  have f0 := hF.cell (j := 0) rfl
  have f1 := hF.cell (j := 1) rfl
  have f2 := hF.cell (j := 2) rfl
  have f3 := hF.cell (j := 3) rfl
  clear hF
  refine (small6_any _).mono ?_
  rintro e W ⟨rfl, hb⟩
  replace K := K.keep hb
  clear hb f0 f1 f2 f3
  have hF := K.gP (P := fun V => Hb V b0 #[.int .i64 s, .slice A2 n2 c2, .int .i64 t, .slice B2 m2 d2] 40)
  have f0 := hF.cell (j := 0) rfl
  have f1 := hF.cell (j := 1) rfl
  have f2 := hF.cell (j := 2) rfl
  have f3 := hF.cell (j := 3) rfl
  clear hF
  go_wp2_with fail
  refine (fewR_is h1 _ _ _ _ (HLr.out _ K.1)).mono ?_
  rintro e W ⟨rfl, hb⟩
  replace K := K.keep hb
  clear hb f0 f1 f2 f3
  have hF := K.gP (P := fun V => Hb V b0 #[.int .i64 s, .slice A2 n2 c2, .int .i64 t, .slice B2 m2 d2] 40)
  have f0 := hF.cell (j := 0) rfl
  have f1 := hF.cell (j := 1) rfl
  have f2 := hF.cell (j := 2) rfl
  have f3 := hF.cell (j := 3) rfl
  clear hF
  go_wp2_with fail
  refine (HFw.out _).mono ?_
  rintro e W ⟨rfl, hb⟩
  replace K := K.keep hb
  clear hb f0 f1 f2 f3
  have hF := K.gP (P := fun V => Hb V b0 #[.int .i64 s, .slice A2 n2 c2, .int .i64 t, .slice B2 m2 d2] 40)
  have f0 := hF.cell (j := 0) rfl
  have f1 := hF.cell (j := 1) rfl
  have f2 := hF.cell (j := 2) rfl
  have f3 := hF.cell (j := 3) rfl
  clear hF
  go_wp2_with fail
  refine (right_is h3 _ _ _ _ (HLr.out _ K.1)).mono ?_
  rintro e W ⟨rfl, hb⟩
  replace K := K.keep hb
  clear hb f0 f1 f2 f3
  have hF := K.gP (P := fun V => Hb V b0 #[.int .i64 s, .slice A2 n2 c2, .int .i64 t, .slice B2 m2 d2] 40)
  have f0 := hF.cell (j := 0) rfl
  have f1 := hF.cell (j := 1) rfl
  have f2 := hF.cell (j := 2) rfl
  have f3 := hF.cell (j := 3) rfl
  clear hF
  go_wp2_with fail
  refine (HFr.out _ K.rda K.rda).mono ?_
  rintro e W ⟨rfl, hb⟩
  replace K := K.keep hb
  clear hb f0 f1 f2 f3
  have hF := K.gP (P := fun V => Hb V b0 #[.int .i64 s, .slice A2 n2 c2, .int .i64 t, .slice B2 m2 d2] 40)
  have f0 := hF.cell (j := 0) rfl
  have f1 := hF.cell (j := 1) rfl
  have f2 := hF.cell (j := 2) rfl
  have f3 := hF.cell (j := 3) rfl
  clear hF
  go_wp2_with fail
  refine (HZe.out _).mono ?_
  rintro e W ⟨rfl, hb⟩
  replace K := K.keep hb
  clear hb f0 f1 f2 f3
  have hF := K.gP (P := fun V => Hb V b0 #[.int .i64 s, .slice A2 n2 c2, .int .i64 t, .slice B2 m2 d2] 40)
  have f0 := hF.cell (j := 0) rfl
  have f1 := hF.cell (j := 1) rfl
  have f2 := hF.cell (j := 2) rfl
  have f3 := hF.cell (j := 3) rfl
  clear hF
  go_wp2_with fail
  refine (solve_is hS _ _ _ _ (HLr.out _ K.1)).mono ?_
  rintro e W ⟨A1, c1, rfl, hr, hb⟩
  have hcap1 := hr.caps
  replace K := (K.keep hb).addF hr
  clear hb hr f0 f1 f2 f3
  have Kd := Lib.hid K
  go_upto_region 9 with (at_builtin; refine ((Kd.out.new #[] 45).appW (X := [(_, #[], _)]) (L := []) (OwL.empty 5 Rr.cs 45 _) rr_sized rfl _ _ 22 rfl _ 88 Try.underlying22 row_made rfl rfl _ n cap (ofF n v) rfl (rv.up (flat_lasts _) (Kd.out.new #[] 45).1) (by simp; omega) (by omega) ?_); intro v1 X1 W1 ho1 K1; rw [List.nil_append] at ho1; obtain ⟨gs, gsc, J1, hv1, hX1, hgs⟩ := ho1.blk (show 0 < n by omega); clear ho1; subst hv1 hX1)
  have K1 : St w [(gs, recA Rr.cs n v J1, 45)] _ _ := K1
  have Kd1 := Lib.hid K1
  go_upto_region 10 with (at_builtin; refine ((Kd1.out.new #[] 45).appW (X := [(_, #[], _)]) (L := [(gs, recA Rr.cs n v J1, 45)]) (OwL.empty 5 Rr.cs 45 _) rr_sized rfl _ _ 22 rfl _ 88 Try.underlying22 row_made rfl rfl _ n cap (ofF n v) rfl (rv.up (flat_lasts _) (Kd1.out.new #[] 45).1) (by simp; omega) (by omega) ?_); intro v1 X1 W1 ho1 K2; rw [List.nil_append] at ho1; obtain ⟨ga, gac, J2, hv1, hX1, hga⟩ := ho1.blk (show 0 < n by omega); clear ho1; subst hv1 hX1)
  have K2 : St w [(ga, recA Rr.cs n v J2, 45), (gs, recA Rr.cs n v J1, 45)] _ _ := K2
  have Kd2 := Lib.hid K2
  go_upto_region 11 with (at_builtin; refine ((Kd2.out.new #[] 45).appW (X := [(_, #[], _)]) (L := [(ga, recA Rr.cs n v J2, 45), (gs, recA Rr.cs n v J1, 45)]) (OwL.empty 5 Rr.cs 45 _) rr_sized rfl _ _ 22 rfl _ 88 Try.underlying22 row_made rfl rfl _ n cap (ofF n v) rfl (rv.up (flat_lasts _) (Kd2.out.new #[] 45).1) (by simp; omega) (by omega) ?_); intro v1 X1 W1 ho1 K3; rw [List.nil_append] at ho1; obtain ⟨gt, gtc, J3, hv1, hX1, hgt⟩ := ho1.blk (show 0 < n by omega); clear ho1; subst hv1 hX1)
  have K3 : St w [(gt, recA Rr.cs n v J3, 45), (ga, recA Rr.cs n v J2, 45), (gs, recA Rr.cs n v J1, 45)] _ _ := K3
  have K3 := K3.fam (I := fun i => i < n) (P := fun i => (v i).on) (S := fun _ => oldS w) (fun i hi => K3.okRow (v i) (hon i hi))
  clear K1 K2 Kd Kd1 Kd2
  obtain ⟨q0, q1, q2, q3, q4⟩ := HCl.out _ K3.1 b hb0
  go_upto_region 12 with (refine K3.storeRR rfl rfl _ _ _ rfl gt a n (v b) rfl rfl ha (Upd.head _) row_size ?_; intro W4 K4)
  clear q0 q1 q2 q3 q4
  have K4 := K4.rrPut (u := v) (S := fun _ => oldS w) (by repeat (first | with_reducible exact List.mem_cons_self | with_reducible apply List.mem_cons_of_mem)) a (v b) (oldS w) (K4.okRow (v b) (hon b hb0))
  obtain ⟨q0, q1, q2, q3, q4⟩ := HCl.out _ K4.1 a ha
  go_upto_region 13 with (refine K4.storeRR rfl rfl _ _ _ rfl gt b n (v a) rfl rfl hb0 (Upd.head _) row_size ?_; intro W5 K5)
  clear q0 q1 q2 q3 q4 K3
  have K := K5.rrPut (u := putF v a (v b)) (S := putF (fun _ => oldS w) a (oldS w)) (by repeat (first | with_reducible exact List.mem_cons_self | with_reducible apply List.mem_cons_of_mem)) b (v a) (oldS w) (K5.okRow (v a) (hon a ha))
  clear K4 K5
  go_upto_region 13 with fail
  obtain ⟨RR, HR0⟩ := K.hideX 45
  go_cut [19, 18] from 97 to 104 (fun e p wx => ∃ g x, e = .bool true ∧ p = .pointer (some ⟨g, 0, none⟩) ∧ x.rv = (⟨(v a).a.map fun y : Fv => fvQ (y.rat * f), fvQ ((v a).y.fv.rat * f)⟩ : Rv) ∧ RR g x wx)
  case first =>
    obtain ⟨gz1, hgz1, KA⟩ := K.newZ #[.slice none 0 0, .int .i64 0, .slice none 0 0, .int .i64 0, .slice none 0 0] 45
    have rA := KA.raw
    have Kd := K.drew
    have KAd := KA.drew
    have ek1 := HCl.out _ K.1 a ha
    have ea1 := HCl.out _ KA.1 a ha
    have hFk := K.gP (P := fun V => Hb V b0 #[.int .i64 s, .slice A2 n2 c2, .int .i64 t, .slice B2 m2 d2] 40)
    have hFa := KA.gP (P := fun V => Hb V b0 #[.int .i64 s, .slice A2 n2 c2, .int .i64 t, .slice B2 m2 d2] 40)
    have fk0 := hFk.cell (j := 0) rfl
    have fk1 := hFk.cell (j := 1) rfl
    have fk2 := hFk.cell (j := 2) rfl
    have fk3 := hFk.cell (j := 3) rfl
    have fa0 := hFa.cell (j := 0) rfl
    have fa1 := hFa.cell (j := 1) rfl
    have fa2 := hFa.cell (j := 2) rfl
    have fa3 := hFa.cell (j := 3) rfl
    clear hFk hFa
    try simp only [Raw, RawC, RawZ, and_true, true_and, Nat.zero_add, Nat.reduceAdd] at rA
    go_region_with (first
      | (go_at_call 22; (first | with_reducible refine (HTim.out _ _ _ Kd).mono ?_ | with_reducible refine (HTim.out _ _ _ KAd).mono ?_); rintro e W ⟨x1, SX, rfl, hx1, K⟩; clear rA KA; have r := K.raw; have z := K.rawz; try (simp only [Raw, RawC, RawZ, and_true, true_and, Nat.zero_add, Nat.reduceAdd] at r z)))
    all_goals
      go_wp2_with fail
      go_meet
      first
        | with_reducible exact ⟨_, x1, rfl, rfl, hx1, (HR0 _ _).2 ⟨_, K.new #[.slice x1.A x1.n x1.c, .int .i64 x1.y.s, .slice x1.y.A x1.y.n x1.y.c, .int .i64 x1.y.t, .slice x1.y.B x1.y.m x1.y.d] 45⟩⟩
        | with_reducible exact ⟨_, x1, rfl, rfl, hx1, (HR0 _ _).2 ⟨_, K.set5Z (u0 := .slice x1.A x1.n x1.c) (u1 := .int .i64 x1.y.s) (u2 := .slice x1.y.A x1.y.n x1.y.c) (u3 := .int .i64 x1.y.t) (u4 := .slice x1.y.B x1.y.m x1.y.d) (by repeat (first | with_reducible exact Upd.head _ | with_reducible apply Upd.tail))⟩⟩
        | exact ⟨_, x1, rfl, rfl, hx1, (HR0 _ _).2 ⟨_, K.new #[.slice x1.A x1.n x1.c, .int .i64 x1.y.s, .slice x1.y.A x1.y.n x1.y.c, .int .i64 x1.y.t, .slice x1.y.B x1.y.m x1.y.d] 45⟩⟩
        | exact ⟨_, x1, rfl, rfl, hx1, (HR0 _ _).2 ⟨_, K.set5Z (u0 := .slice x1.A x1.n x1.c) (u1 := .int .i64 x1.y.s) (u2 := .slice x1.y.A x1.y.n x1.y.c) (u3 := .int .i64 x1.y.t) (u4 := .slice x1.y.B x1.y.m x1.y.d) (by repeat (first | with_reducible exact Upd.head _ | with_reducible apply Upd.tail))⟩⟩
  obtain ⟨g18, xs1, rfl, rfl, hx18, hk18⟩ := hcut
  obtain ⟨S18, K⟩ := (HR0 _ _).1 hk18
  clear hk18 HR0
  go_upto_region 14 with fail
  obtain ⟨RR, HR0⟩ := K.hideX 45
  go_cut [21, 20] from 106 to 116 (fun e p wx => ∃ g x, e = .bool true ∧ p = .pointer (some ⟨g, 0, none⟩) ∧ x.rv = (⟨ofF n fun i => fvQ (vcL (v a).a i + vcL (v b).a i), fvQ ((v a).y.fv.rat + (v b).y.fv.rat)⟩ : Rv) ∧ RR g x wx)
  case first =>
    obtain ⟨gz1, hgz1, KA⟩ := K.newZ #[.slice none 0 0, .int .i64 0, .slice none 0 0, .int .i64 0, .slice none 0 0] 45
    have rA := KA.raw
    have Kd := K.drew
    have KAd := KA.drew
    have ek1 := HCl.out _ K.1 a ha
    have ea1 := HCl.out _ KA.1 a ha
    have ek2 := HCl.out _ K.1 b hb0
    have ea2 := HCl.out _ KA.1 b hb0
    try simp only [Raw, RawC, RawZ, and_true, true_and, Nat.zero_add, Nat.reduceAdd] at rA
    go_region_with (first
      | (go_at_call 23; (first | with_reducible refine (HPlu.out _ _ _ Kd).mono ?_ | with_reducible refine (HPlu.out _ _ _ KAd).mono ?_); rintro e W ⟨x1, SX, rfl, hx1, K⟩; clear rA KA; have r := K.raw; have z := K.rawz; try (simp only [Raw, RawC, RawZ, and_true, true_and, Nat.zero_add, Nat.reduceAdd] at r z)))
    all_goals
      go_wp2_with fail
      go_meet
      first
        | with_reducible exact ⟨_, x1, rfl, rfl, hx1, (HR0 _ _).2 ⟨_, K.new #[.slice x1.A x1.n x1.c, .int .i64 x1.y.s, .slice x1.y.A x1.y.n x1.y.c, .int .i64 x1.y.t, .slice x1.y.B x1.y.m x1.y.d] 45⟩⟩
        | with_reducible exact ⟨_, x1, rfl, rfl, hx1, (HR0 _ _).2 ⟨_, K.set5Z (u0 := .slice x1.A x1.n x1.c) (u1 := .int .i64 x1.y.s) (u2 := .slice x1.y.A x1.y.n x1.y.c) (u3 := .int .i64 x1.y.t) (u4 := .slice x1.y.B x1.y.m x1.y.d) (by repeat (first | with_reducible exact Upd.head _ | with_reducible apply Upd.tail))⟩⟩
        | exact ⟨_, x1, rfl, rfl, hx1, (HR0 _ _).2 ⟨_, K.new #[.slice x1.A x1.n x1.c, .int .i64 x1.y.s, .slice x1.y.A x1.y.n x1.y.c, .int .i64 x1.y.t, .slice x1.y.B x1.y.m x1.y.d] 45⟩⟩
        | exact ⟨_, x1, rfl, rfl, hx1, (HR0 _ _).2 ⟨_, K.set5Z (u0 := .slice x1.A x1.n x1.c) (u1 := .int .i64 x1.y.s) (u2 := .slice x1.y.A x1.y.n x1.y.c) (u3 := .int .i64 x1.y.t) (u4 := .slice x1.y.B x1.y.m x1.y.d) (by repeat (first | with_reducible exact Upd.head _ | with_reducible apply Upd.tail))⟩⟩
  obtain ⟨g20, xt1, rfl, rfl, hx20, hk20⟩ := hcut
  obtain ⟨S20, K⟩ := (HR0 _ _).1 hk20
  clear hk20 HR0
  have b18 := K.blk (b := g18) (cs := #[.slice xs1.A xs1.n xs1.c, .int .i64 xs1.y.s, .slice xs1.y.A xs1.y.n xs1.y.c, .int .i64 xs1.y.t, .slice xs1.y.B xs1.y.m xs1.y.d]) (t := 45) (by repeat (first | with_reducible exact List.mem_cons_self | with_reducible apply List.mem_cons_of_mem))
  have u0 := b18.cell (j := 0) rfl
  have u1 := b18.cell (j := 1) rfl
  have u2 := b18.cell (j := 2) rfl
  have u3 := b18.cell (j := 3) rfl
  have u4 := b18.cell (j := 4) rfl
  clear b18
  go_upto_region 18 with (refine K.storeRR rfl rfl _ _ _ rfl gs a n xs1 rfl rfl ha (by repeat (first | with_reducible exact Upd.head _ | with_reducible apply Upd.tail)) row_size ?_; intro W6 K6)
  have K6 := K6.rrPut (u := v) (S := fun _ => oldS w) (by repeat (first | with_reducible exact List.mem_cons_self | with_reducible apply List.mem_cons_of_mem)) a xs1 S18 (K6.okAt (by repeat (first | with_reducible exact List.mem_cons_self | with_reducible apply List.mem_cons_of_mem)))
  clear u0 u1 u2 u3 u4 K HTim HPlu HCl
  have HV := Lib.hid hlv
  have hE6 : (E != 6) = true := by rw [bne_iff_ne]; exact p6
  have hEE : (E != E) = false := by simp
  obtain ⟨ls, hls⟩ : ∃ ls, ls = ofF n (putF (fun i => (v i).rv) a ⟨(v a).a.map fun y : Fv => fvQ (y.rat * f), fvQ ((v a).y.fv.rat * f)⟩) := ⟨_, rfl⟩
  obtain ⟨lt, hlt⟩ : ∃ lt, lt = ofF n (putF (putF (fun i => (v i).rv) a (v b).rv) b (v a).rv) := ⟨_, rfl⟩
  have Q1 := Lib.hid (show (∃ ys, solL (n : Int) ls = (ys, 6)) ∨ solL (n : Int) ls = (xs, E) from by
    rw [hls]
    rcases P1.out with h | h
    · left
      rw [← h]
      exact ⟨_, rfl⟩
    · exact Or.inr h)
  have p3 : solL (n : Int) lt = (xs, E) := by rw [hlt]; exact P3.out
  by_cases hab : a = b
  case pos =>
    have hd : ((a : Int) != (b : Int)) = false := by simp [hab]
    obtain ⟨la, hla⟩ : ∃ la, la = l := ⟨_, rfl⟩
    have Q2 := Lib.hid (show (∃ ys, solL (n : Int) la = (ys, 6)) ∨ solL (n : Int) la = (xs, E) from by rw [hla]; exact Or.inr hS)
    go_upto_region 20 with fail
    have rs := K6.rdRR (g := gs) (cap := gsc) (u := putF v a xs1) (by repeat (first | with_reducible exact List.mem_cons_self | with_reducible apply List.mem_cons_of_mem)) (by repeat (first | with_reducible exact List.mem_cons_self | with_reducible apply List.mem_cons_of_mem)) (by omega) hgs
    have ra := K6.rdRR (g := ga) (cap := gac) (u := v) (S := fun _ => oldS w) (by repeat (first | with_reducible exact List.mem_cons_self | with_reducible apply List.mem_cons_of_mem)) (by repeat (first | with_reducible exact List.mem_cons_self | with_reducible apply List.mem_cons_of_mem)) (by omega) hga
    have rt := K6.rdRR (g := gt) (cap := gtc) (u := putF (putF v a (v b)) b (v a)) (by repeat (first | with_reducible exact List.mem_cons_self | with_reducible apply List.mem_cons_of_mem)) (by repeat (first | with_reducible exact List.mem_cons_self | with_reducible apply List.mem_cons_of_mem)) (by omega) hgt
    have hla2 : (ofF n fun i => (v i).rv) = la := by
      rw [hla]
      apply List.ext_getElem?
      intro j
      by_cases hj : j < n
      · rw [ofF_get hj]; exact (HV.out j hj).symm
      · rw [List.getElem?_eq_none (by rw [ofF_len]; omega), List.getElem?_eq_none (by omega)]
    rw [hla2] at ra
    rw [putF_rvF, hx18, ← hls] at rs
    rw [putF_rvF, putF_rvF, ← hlt] at rt
    have rx := K6.getQ (A := A1) (n := xs.length) (cap := c1) (l := xs) (by repeat (first | with_reducible exact List.mem_cons_self | with_reducible apply List.mem_cons_of_mem))
    have Hbl := Lib.hid K6.1
    have K := ((((St.start _).addR rs).addR ra).addR rt).addF rx
    clear rs ra rt rx K6 P1 P2 P3 hls hlt hla HV hlv
    rcases Q1.out with ⟨y1, h1s⟩ | h1s
    · rcases Q2.out with ⟨y2, h2s⟩ | h2s
      · go_wp2_with fail
        refine (solve_is h1s _ _ _ _ ?qa).mono ?_
        case qa => exact K.gR
        rintro e W ⟨A21, c21, rfl, hr, hb⟩
        have hcap21 := hr.caps
        replace K := (K.keep hb).addF hr
        clear hb hr
        go_wp2_with fail
        refine (solve_is h2s _ _ _ _ ?qa).mono ?_
        case qa => exact K.gR
        rintro e W ⟨A22, c22, rfl, hr, hb⟩
        have hcap22 := hr.caps
        replace K := (K.keep hb).addF hr
        clear hb hr
        go_wp2_with fail
        refine (solve_is p3 _ _ _ _ ?qa).mono ?_
        case qa => exact K.gR
        rintro e W ⟨A23, c23, rfl, hr, hb⟩
        have hcap23 := hr.caps
        replace K := (K.keep hb).addF hr
        clear hb hr
        go_wp2_with fail
        refine (same_is (a := xs) (b := xs) (decide_eq_true rfl) _ _ _ _ _ _ _ ?qa ?qb).mono ?_
        case qa => exact K.gQ
        case qb => exact K.gQ
        rintro e W ⟨rfl, hb⟩
        replace K := K.keep hb; clear hb
        (go_wp2_with fail; go_ret; exact ⟨rfl, Hbl.out.trans (K.1.mono Hbl.out.size)⟩)
      · go_wp2_with fail
        refine (solve_is h1s _ _ _ _ ?qa).mono ?_
        case qa => exact K.gR
        rintro e W ⟨A21, c21, rfl, hr, hb⟩
        have hcap21 := hr.caps
        replace K := (K.keep hb).addF hr
        clear hb hr
        go_wp2_with fail
        refine (solve_is h2s _ _ _ _ ?qa).mono ?_
        case qa => exact K.gR
        rintro e W ⟨A22, c22, rfl, hr, hb⟩
        have hcap22 := hr.caps
        replace K := (K.keep hb).addF hr
        clear hb hr
        go_wp2_with fail
        refine (solve_is p3 _ _ _ _ ?qa).mono ?_
        case qa => exact K.gR
        rintro e W ⟨A23, c23, rfl, hr, hb⟩
        have hcap23 := hr.caps
        replace K := (K.keep hb).addF hr
        clear hb hr
        go_wp2_with fail
        refine (same_is (a := xs) (b := xs) (decide_eq_true rfl) _ _ _ _ _ _ _ ?qa ?qb).mono ?_
        case qa => exact K.gQ
        case qb => exact K.gQ
        rintro e W ⟨rfl, hb⟩
        replace K := K.keep hb; clear hb
        go_wp2_with fail
        refine (same_is (a := xs) (b := xs) (decide_eq_true rfl) _ _ _ _ _ _ _ ?qa ?qb).mono ?_
        case qa => exact K.gQ
        case qb => exact K.gQ
        rintro e W ⟨rfl, hb⟩
        replace K := K.keep hb; clear hb
        (go_wp2_with fail; go_ret; exact ⟨rfl, Hbl.out.trans (K.1.mono Hbl.out.size)⟩)
    · rcases Q2.out with ⟨y2, h2s⟩ | h2s
      · go_wp2_with fail
        refine (solve_is h1s _ _ _ _ ?qa).mono ?_
        case qa => exact K.gR
        rintro e W ⟨A21, c21, rfl, hr, hb⟩
        have hcap21 := hr.caps
        replace K := (K.keep hb).addF hr
        clear hb hr
        go_wp2_with fail
        refine (solve_is h2s _ _ _ _ ?qa).mono ?_
        case qa => exact K.gR
        rintro e W ⟨A22, c22, rfl, hr, hb⟩
        have hcap22 := hr.caps
        replace K := (K.keep hb).addF hr
        clear hb hr
        go_wp2_with fail
        refine (solve_is p3 _ _ _ _ ?qa).mono ?_
        case qa => exact K.gR
        rintro e W ⟨A23, c23, rfl, hr, hb⟩
        have hcap23 := hr.caps
        replace K := (K.keep hb).addF hr
        clear hb hr
        go_wp2_with fail
        refine (same_is (a := xs) (b := xs) (decide_eq_true rfl) _ _ _ _ _ _ _ ?qa ?qb).mono ?_
        case qa => exact K.gQ
        case qb => exact K.gQ
        rintro e W ⟨rfl, hb⟩
        replace K := K.keep hb; clear hb
        go_wp2_with fail
        refine (same_is (a := xs) (b := xs) (decide_eq_true rfl) _ _ _ _ _ _ _ ?qa ?qb).mono ?_
        case qa => exact K.gQ
        case qb => exact K.gQ
        rintro e W ⟨rfl, hb⟩
        replace K := K.keep hb; clear hb
        (go_wp2_with fail; go_ret; exact ⟨rfl, Hbl.out.trans (K.1.mono Hbl.out.size)⟩)
      · go_wp2_with fail
        refine (solve_is h1s _ _ _ _ ?qa).mono ?_
        case qa => exact K.gR
        rintro e W ⟨A21, c21, rfl, hr, hb⟩
        have hcap21 := hr.caps
        replace K := (K.keep hb).addF hr
        clear hb hr
        go_wp2_with fail
        refine (solve_is h2s _ _ _ _ ?qa).mono ?_
        case qa => exact K.gR
        rintro e W ⟨A22, c22, rfl, hr, hb⟩
        have hcap22 := hr.caps
        replace K := (K.keep hb).addF hr
        clear hb hr
        go_wp2_with fail
        refine (solve_is p3 _ _ _ _ ?qa).mono ?_
        case qa => exact K.gR
        rintro e W ⟨A23, c23, rfl, hr, hb⟩
        have hcap23 := hr.caps
        replace K := (K.keep hb).addF hr
        clear hb hr
        go_wp2_with fail
        refine (same_is (a := xs) (b := xs) (decide_eq_true rfl) _ _ _ _ _ _ _ ?qa ?qb).mono ?_
        case qa => exact K.gQ
        case qb => exact K.gQ
        rintro e W ⟨rfl, hb⟩
        replace K := K.keep hb; clear hb
        go_wp2_with fail
        refine (same_is (a := xs) (b := xs) (decide_eq_true rfl) _ _ _ _ _ _ _ ?qa ?qb).mono ?_
        case qa => exact K.gQ
        case qb => exact K.gQ
        rintro e W ⟨rfl, hb⟩
        replace K := K.keep hb; clear hb
        go_wp2_with fail
        refine (same_is (a := xs) (b := xs) (decide_eq_true rfl) _ _ _ _ _ _ _ ?qa ?qb).mono ?_
        case qa => exact K.gQ
        case qb => exact K.gQ
        rintro e W ⟨rfl, hb⟩
        replace K := K.keep hb; clear hb
        (go_wp2_with fail; go_ret; exact ⟨rfl, Hbl.out.trans (K.1.mono Hbl.out.size)⟩)
  have hd : ((a : Int) != (b : Int)) = true := by simp; omega
  obtain ⟨la, hla⟩ : ∃ la, la = ofF n (putF (fun i => (v i).rv) a ⟨ofF n fun i => fvQ (vcL (v a).a i + vcL (v b).a i), fvQ ((v a).y.fv.rat + (v b).y.fv.rat)⟩) := ⟨_, rfl⟩
  have Q2 := Lib.hid (show (∃ ys, solL (n : Int) la = (ys, 6)) ∨ solL (n : Int) la = (xs, E) from by
    rw [hla]
    rcases P2.out hab with h | h
    · left
      rw [← h]
      exact ⟨_, rfl⟩
    · exact Or.inr h)
  have b20 := K6.blk (b := g20) (cs := #[.slice xt1.A xt1.n xt1.c, .int .i64 xt1.y.s, .slice xt1.y.A xt1.y.n xt1.y.c, .int .i64 xt1.y.t, .slice xt1.y.B xt1.y.m xt1.y.d]) (t := 45) (by repeat (first | with_reducible exact List.mem_cons_self | with_reducible apply List.mem_cons_of_mem))
  have u0 := b20.cell (j := 0) rfl
  have u1 := b20.cell (j := 1) rfl
  have u2 := b20.cell (j := 2) rfl
  have u3 := b20.cell (j := 3) rfl
  have u4 := b20.cell (j := 4) rfl
  clear b20
  have Kd6 := Lib.hid K6
  clear K6
  go_upto_region 20 with (refine Kd6.out.storeRR rfl rfl _ _ _ rfl ga a n xt1 rfl rfl ha (by repeat (first | with_reducible exact Upd.head _ | with_reducible apply Upd.tail)) row_size ?_; intro W7 K6)
  have K6 := K6.rrPut (u := v) (S := fun _ => oldS w) (by repeat (first | with_reducible exact List.mem_cons_self | with_reducible apply List.mem_cons_of_mem)) a xt1 S20 (K6.okAt (by repeat (first | with_reducible exact List.mem_cons_self | with_reducible apply List.mem_cons_of_mem)))
  clear u0 u1 u2 u3 u4 Kd6
  have rs := K6.rdRR (g := gs) (cap := gsc) (u := putF v a xs1) (by repeat (first | with_reducible exact List.mem_cons_self | with_reducible apply List.mem_cons_of_mem)) (by repeat (first | with_reducible exact List.mem_cons_self | with_reducible apply List.mem_cons_of_mem)) (by omega) hgs
  have ra := K6.rdRR (g := ga) (cap := gac) (u := putF v a xt1) (by repeat (first | with_reducible exact List.mem_cons_self | with_reducible apply List.mem_cons_of_mem)) (by repeat (first | with_reducible exact List.mem_cons_self | with_reducible apply List.mem_cons_of_mem)) (by omega) hga
  have rt := K6.rdRR (g := gt) (cap := gtc) (u := putF (putF v a (v b)) b (v a)) (by repeat (first | with_reducible exact List.mem_cons_self | with_reducible apply List.mem_cons_of_mem)) (by repeat (first | with_reducible exact List.mem_cons_self | with_reducible apply List.mem_cons_of_mem)) (by omega) hgt
  rw [putF_rvF, hx20, ← hla] at ra
  rw [putF_rvF, hx18, ← hls] at rs
  rw [putF_rvF, putF_rvF, ← hlt] at rt
  have rx := K6.getQ (A := A1) (n := xs.length) (cap := c1) (l := xs) (by repeat (first | with_reducible exact List.mem_cons_self | with_reducible apply List.mem_cons_of_mem))
  have Hbl := Lib.hid K6.1
  have K := ((((St.start _).addR rs).addR ra).addR rt).addF rx
  clear rs ra rt rx K6 P1 P2 P3 hls hlt hla HV hlv
  rcases Q1.out with ⟨y1, h1s⟩ | h1s
  · rcases Q2.out with ⟨y2, h2s⟩ | h2s
    · go_wp2_with fail
      refine (solve_is h1s _ _ _ _ ?qa).mono ?_
      case qa => exact K.gR
      rintro e W ⟨A21, c21, rfl, hr, hb⟩
      have hcap21 := hr.caps
      replace K := (K.keep hb).addF hr
      clear hb hr
      go_wp2_with fail
      refine (solve_is h2s _ _ _ _ ?qa).mono ?_
      case qa => exact K.gR
      rintro e W ⟨A22, c22, rfl, hr, hb⟩
      have hcap22 := hr.caps
      replace K := (K.keep hb).addF hr
      clear hb hr
      go_wp2_with fail
      refine (solve_is p3 _ _ _ _ ?qa).mono ?_
      case qa => exact K.gR
      rintro e W ⟨A23, c23, rfl, hr, hb⟩
      have hcap23 := hr.caps
      replace K := (K.keep hb).addF hr
      clear hb hr
      go_wp2_with fail
      refine (same_is (a := xs) (b := xs) (decide_eq_true rfl) _ _ _ _ _ _ _ ?qa ?qb).mono ?_
      case qa => exact K.gQ
      case qb => exact K.gQ
      rintro e W ⟨rfl, hb⟩
      replace K := K.keep hb; clear hb
      (go_wp2_with fail; go_ret; exact ⟨rfl, Hbl.out.trans (K.1.mono Hbl.out.size)⟩)
    · go_wp2_with fail
      refine (solve_is h1s _ _ _ _ ?qa).mono ?_
      case qa => exact K.gR
      rintro e W ⟨A21, c21, rfl, hr, hb⟩
      have hcap21 := hr.caps
      replace K := (K.keep hb).addF hr
      clear hb hr
      go_wp2_with fail
      refine (solve_is h2s _ _ _ _ ?qa).mono ?_
      case qa => exact K.gR
      rintro e W ⟨A22, c22, rfl, hr, hb⟩
      have hcap22 := hr.caps
      replace K := (K.keep hb).addF hr
      clear hb hr
      go_wp2_with fail
      refine (solve_is p3 _ _ _ _ ?qa).mono ?_
      case qa => exact K.gR
      rintro e W ⟨A23, c23, rfl, hr, hb⟩
      have hcap23 := hr.caps
      replace K := (K.keep hb).addF hr
      clear hb hr
      go_wp2_with fail
      refine (same_is (a := xs) (b := xs) (decide_eq_true rfl) _ _ _ _ _ _ _ ?qa ?qb).mono ?_
      case qa => exact K.gQ
      case qb => exact K.gQ
      rintro e W ⟨rfl, hb⟩
      replace K := K.keep hb; clear hb
      go_wp2_with fail
      refine (same_is (a := xs) (b := xs) (decide_eq_true rfl) _ _ _ _ _ _ _ ?qa ?qb).mono ?_
      case qa => exact K.gQ
      case qb => exact K.gQ
      rintro e W ⟨rfl, hb⟩
      replace K := K.keep hb; clear hb
      (go_wp2_with fail; go_ret; exact ⟨rfl, Hbl.out.trans (K.1.mono Hbl.out.size)⟩)
  · rcases Q2.out with ⟨y2, h2s⟩ | h2s
    · go_wp2_with fail
      refine (solve_is h1s _ _ _ _ ?qa).mono ?_
      case qa => exact K.gR
      rintro e W ⟨A21, c21, rfl, hr, hb⟩
      have hcap21 := hr.caps
      replace K := (K.keep hb).addF hr
      clear hb hr
      go_wp2_with fail
      refine (solve_is h2s _ _ _ _ ?qa).mono ?_
      case qa => exact K.gR
      rintro e W ⟨A22, c22, rfl, hr, hb⟩
      have hcap22 := hr.caps
      replace K := (K.keep hb).addF hr
      clear hb hr
      go_wp2_with fail
      refine (solve_is p3 _ _ _ _ ?qa).mono ?_
      case qa => exact K.gR
      rintro e W ⟨A23, c23, rfl, hr, hb⟩
      have hcap23 := hr.caps
      replace K := (K.keep hb).addF hr
      clear hb hr
      go_wp2_with fail
      refine (same_is (a := xs) (b := xs) (decide_eq_true rfl) _ _ _ _ _ _ _ ?qa ?qb).mono ?_
      case qa => exact K.gQ
      case qb => exact K.gQ
      rintro e W ⟨rfl, hb⟩
      replace K := K.keep hb; clear hb
      go_wp2_with fail
      refine (same_is (a := xs) (b := xs) (decide_eq_true rfl) _ _ _ _ _ _ _ ?qa ?qb).mono ?_
      case qa => exact K.gQ
      case qb => exact K.gQ
      rintro e W ⟨rfl, hb⟩
      replace K := K.keep hb; clear hb
      (go_wp2_with fail; go_ret; exact ⟨rfl, Hbl.out.trans (K.1.mono Hbl.out.size)⟩)
    · go_wp2_with fail
      refine (solve_is h1s _ _ _ _ ?qa).mono ?_
      case qa => exact K.gR
      rintro e W ⟨A21, c21, rfl, hr, hb⟩
      have hcap21 := hr.caps
      replace K := (K.keep hb).addF hr
      clear hb hr
      go_wp2_with fail
      refine (solve_is h2s _ _ _ _ ?qa).mono ?_
      case qa => exact K.gR
      rintro e W ⟨A22, c22, rfl, hr, hb⟩
      have hcap22 := hr.caps
      replace K := (K.keep hb).addF hr
      clear hb hr
      go_wp2_with fail
      refine (solve_is p3 _ _ _ _ ?qa).mono ?_
      case qa => exact K.gR
      rintro e W ⟨A23, c23, rfl, hr, hb⟩
      have hcap23 := hr.caps
      replace K := (K.keep hb).addF hr
      clear hb hr
      go_wp2_with fail
      refine (same_is (a := xs) (b := xs) (decide_eq_true rfl) _ _ _ _ _ _ _ ?qa ?qb).mono ?_
      case qa => exact K.gQ
      case qb => exact K.gQ
      rintro e W ⟨rfl, hb⟩
      replace K := K.keep hb; clear hb
      go_wp2_with fail
      refine (same_is (a := xs) (b := xs) (decide_eq_true rfl) _ _ _ _ _ _ _ ?qa ?qb).mono ?_
      case qa => exact K.gQ
      case qb => exact K.gQ
      rintro e W ⟨rfl, hb⟩
      replace K := K.keep hb; clear hb
      go_wp2_with fail
      refine (same_is (a := xs) (b := xs) (decide_eq_true rfl) _ _ _ _ _ _ _ ?qa ?qb).mono ?_
      case qa => exact K.gQ
      case qb => exact K.gQ
      rintro e W ⟨rfl, hb⟩
      replace K := K.keep hb; clear hb
      (go_wp2_with fail; go_ret; exact ⟨rfl, Hbl.out.trans (K.1.mono Hbl.out.size)⟩)
end Go.Proofs.Ytdlcglndhhndpaa
