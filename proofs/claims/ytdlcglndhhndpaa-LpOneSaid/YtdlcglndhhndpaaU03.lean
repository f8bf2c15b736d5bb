/- Laws and walks laid together; the conditions stand in each theorem. -/
import Derived.Deep.RegionHeld3
import Derived.Outline
import Derived.OrdersHeld
import Derived.BigRegion
import Derived.Maps.RangeWalk
import Derived.Deep.QuietTactic
import Derived.BigQuiet
import Derived.Test.YtdlcglndhhndpaaU02
import Derived.Test.YtdlcglndhhndpaaU01
import Derived.Test.YtdlcglndhhndpaaT12
import Derived.Test.YtdlcglndhhndpaaT20
import Derived.Test.YtdlcglndhhndpaaT21
set_option linter.unusedSimpArgs false
set_option linter.unusedVariables false
namespace Go.Proofs.Ytdlcglndhhndpaa
open Go.RowKit
section
variable {w0 W : World} {L : List Blk} {D : List Hl}
end
theorem prd_step {x y : Nat → Rat} {k : Nat} {b b1 b2 b3 p : Bool} {z m v : Rat} (hp : p = prdK x y k) (h1 : b1 = (b || !p)) (h2 : b2 = (b1 || !mulK (x k) (y k))) (h3 : b3 = (b2 || !addK z m)) (hz : p = true → z = smQ (fun i => x i * y i) k) (hm : mulK (x k) (y k) = true → m = x k * y k) (hv : addK z m = true → v = z + m) :
    b3 = (b || !prdK x y (k + 1)) ∧ (prdK x y (k + 1) = true → v = smQ (fun i => x i * y i) (k + 1)) := by
  rw [prdK_succ, ← hp, smQ]
  subst h1 h2 h3
  generalize hM : mulK (x k) (y k) = M at hm ⊢
  cases p
  · simp
  · rw [hz rfl] at hv ⊢
    cases M
    · simp
    · rw [hm rfl] at hv ⊢
      generalize addK (smQ (fun i => x i * y i) k) (x k * y k) = C at hv ⊢
      cases C
      · simp
      · exact ⟨by simp, fun _ => hv rfl⟩
end Go.Proofs.Ytdlcglndhhndpaa
namespace Go.Proofs.Ytdlcglndhhndpaa
open Go.RowKit
set_option maxRecDepth 100000 in
set_option maxHeartbeats 4000000 in
theorem product_any (w0 W : World) (L L' : List Blk) (D : List Hl) (mb : Nat) (b b' : Bool) (R : List Value) (T : TypeId) (A B : Option Addr) (n cap n' cap' : Nat) (u v : Nat → Rw) (x y : Nat → Rat)
    (K : St w0 L D W) (m1 : (⟨fxP A n cap u, fxS A n u⟩ : Hl) ∈ D) (m2 : (⟨fxP B n' cap' v, fxS B n' v⟩ : Hl) ∈ D) (hn : n ≤ n' ∧ n ≤ 1000000) (hx : ∀ i, i < n → isQ (u i) (x i)) (hy : ∀ i, i < n → isQ (v i) (y i))
    (hb : b' = (b || !prdK x y n)) (hU : Upd mb (Value.bool b :: R).toArray T (Value.bool b' :: R).toArray L L') :
    Calls Try.prog 80 #[.pointer (some ⟨mb, 0, none⟩), .slice A n cap, .slice B n' cap'] W (FrG w0 L' D fun z => prdK x y n = true → z = smQ (fun i => x i * y i) n) := by
  have HU := Lib.hid hU
  have HX := Lib.hid hx
  have HY := Lib.hid hy
  have M1 := Lib.hid m1
  have M2 := Lib.hid m2
  have HB := Lib.hid hb
  have HZ := Lib.hid pzero_any
  have hcap := K.fxCap m1
  have hcbp := K.fxCap m2
  clear hU hx hy m1 m2 hb
  have r := K.raw
  go_enter Try.func80, Try.ntmps80
  go_wp2_with (first | (refine ZAL ?_; clear K r; (first | ((fail_if_success revert b0); intro W b0 K r) | ((fail_if_success revert b1); intro W b1 K r) | ((fail_if_success revert b2); intro W b2 K r) | ((fail_if_success revert b3); intro W b3 K r) | intro W b K r)) | (refine ZST ?_; clear K r; intro W K r))
  refine (HZ.out _).mono ?_
  rintro e W' ⟨s7, A7, n7, c7, l7, t7, B7, m7, d7, k7, rfl, ⟨hra, hrb⟩, ho, ⟨hfa, hfb⟩, hb⟩
  have hf7 := Lib.hid (hfa.mono K.1.size)
  have hg7 := Lib.hid (hfb.mono K.1.size)
  replace K := K.retF hb hra hrb hfa hfb
  clear r
  have r := K.rawS
  clear hra hrb hfa hfb hb
  clear hf7 hg7
  have HO := Lib.hid ho
  clear ho
  go_wp2_with (first | (refine ZAL ?_; clear K r; (first | ((fail_if_success revert b0); intro W b0 K r) | ((fail_if_success revert b1); intro W b1 K r) | ((fail_if_success revert b2); intro W b2 K r) | ((fail_if_success revert b3); intro W b3 K r) | intro W b K r)) | (refine ZST ?_; clear K r; intro W K r))
  go_loopg [12] n (fun gk s12 wr => ∃ (k : Nat) (bk : Bool) (Lk : List Blk) (z : Rw) (zq : Rat), k ≤ n ∧ gk = n - k ∧ s12 = .int .i64 k ∧ Hid (bk = (b || !prdK x y k)) ∧ Hid (Upd mb (Value.bool bk :: R).toArray T (Value.bool b' :: R).toArray Lk L') ∧ Hid (isQ z zq ∧ (prdK x y k = true → zq = smQ (fun i => x i * y i) k)) ∧ St w0 ((b1, #[.int .i64 z.s, .slice z.A z.n z.c, .int .i64 z.t, .slice z.B z.m z.d], 40) :: (b0, #[.int .i64 0, .slice none 0 0, .int .i64 0, .slice none 0 0], 40) :: Lk) (⟨rdP z.B z.m z.d z.k, rdS z.B z.m⟩ :: ⟨rdP z.A z.n z.c z.l, rdS z.A z.n⟩ :: D) wr)
  case atStart => exact ⟨0, b, L, ⟨s7, A7, n7, c7, l7, t7, B7, m7, d7, k7⟩, 0, Nat.zero_le _, rfl, rfl, Lib.hid (by simp [prdK]), HU, Lib.hid ⟨⟨HO.out, fitsF_zero⟩, fun _ => rfl⟩, K⟩
  case round =>
    clear K r HU HO
    obtain ⟨k, bk, Lk, z, zq, hk, rfl, rfl, HBk, HU, HQ, K⟩ := hrel
    by_cases hlt : k < n
    · have hki : (k : Int) < (n : Int) := by omega
      have hkj : (k : Int) < (n' : Int) := by omega
      have hk0 : (0 : Int) ≤ (k : Int) := by omega
      have hkn : k < n' := by omega
      obtain ⟨ab, ao, hA⟩ := K.fxAt (List.mem_cons_of_mem _ (List.mem_cons_of_mem _ M1.out)) (by omega)
      obtain ⟨bb, bo, hBB⟩ := K.fxAt (List.mem_cons_of_mem _ (List.mem_cons_of_mem _ M2.out)) (by omega)
      subst hA hBB
      have K := (K.fxRd (List.mem_cons_of_mem _ (List.mem_cons_of_mem _ M1.out)) hlt).fxRd (List.mem_cons_of_mem _ (List.mem_cons_of_mem _ (List.mem_cons_of_mem _ (List.mem_cons_of_mem _ M2.out)))) hkn
      obtain ⟨bm, hbm⟩ : ∃ bm, bm = (bk || !mulK (x k) (y k)) := ⟨_, rfl⟩
      obtain ⟨bn, hbn⟩ : ∃ bn, bn = (b || !prdK x y (k + 1)) := ⟨_, rfl⟩
      obtain ⟨L1, hU1, hU2⟩ := HU.out.mid (Value.bool bm :: R).toArray
      obtain ⟨L2, hU3, hU4⟩ := hU2.mid (Value.bool bn :: R).toArray
      have HU1 := Lib.hid hU1
      have HU3 := Lib.hid hU3
      have HU4 := Lib.hid hU4
      have HBn := Lib.hid hbn
      have HB1 := Lib.hid (fun (t : Rw) (er : Int) (h : MulS (x k) (y k) t er) => (by rw [h.2]; exact hbm : bm = (bk || er != 0)))
      have HB2 := Lib.hid (fun (t : Rw) (er : Int) (m : Rat) (hm : mulK (x k) (y k) = true → m = x k * y k) (h : AddS zq m t er) => (by
        rw [h.2, hbn]
        exact (prd_step rfl HBk.out hbm rfl HQ.out.2 hm (fun _ => rfl)).1.symm : bn = (bm || er != 0)))
      have HV := Lib.hid (fun (t : Rw) (er : Int) (m g : Rat) (hm : mulK (x k) (y k) = true → m = x k * y k) (h : AddS zq m t er) (hv : er = 0 → g = zq + m) => (by
        refine (prd_step (b3 := bm || !addK zq m) rfl HBk.out hbm rfl HQ.out.2 hm (fun hk2 => hv ?_)).2
        have e2 := h.2
        rw [hk2] at e2
        simpa using e2 : prdK x y (k + 1) = true → g = smQ (fun i => x i * y i) (k + 1)))
      have HSA := Lib.hid (fun V L2 D2 (m3 : (⟨fxP (some ⟨ab, ao, none⟩) n cap u, fxS (some ⟨ab, ao, none⟩) n u⟩ : Hl) ∈ D2) (m4 : (⟨fxP (some ⟨bb, bo, none⟩) n' cap' v, fxS (some ⟨bb, bo, none⟩) n' v⟩ : Hl) ∈ D2) (h : St w0 ((b1, #[.int .i64 z.s, .slice z.A z.n z.c, .int .i64 z.t, .slice z.B z.m z.d], 40) :: (b0, #[.int .i64 0, .slice none 0 0, .int .i64 0, .slice none 0 0], 40) :: L2) D2 V) => (show (V.cell? ⟨b1, 0, none⟩ = some (.int .i64 z.s) ∧ V.cell? ⟨b1, 1, none⟩ = some (.slice z.A z.n z.c) ∧ V.cell? ⟨b1, 2, none⟩ = some (.int .i64 z.t) ∧ V.cell? ⟨b1, 3, none⟩ = some (.slice z.B z.m z.d)) ∧ (V.cell? ⟨ab, ao + k * 4, none⟩ = some (.int .i64 (u k).s) ∧ V.cell? ⟨ab, ao + k * 4 + 1, none⟩ = some (.slice (u k).A (u k).n (u k).c) ∧ V.cell? ⟨ab, ao + k * 4 + 2, none⟩ = some (.int .i64 (u k).t) ∧ V.cell? ⟨ab, ao + k * 4 + 3, none⟩ = some (.slice (u k).B (u k).m (u k).d)) ∧ (V.cell? ⟨bb, bo + k * 4, none⟩ = some (.int .i64 (v k).s) ∧ V.cell? ⟨bb, bo + k * 4 + 1, none⟩ = some (.slice (v k).A (v k).n (v k).c) ∧ V.cell? ⟨bb, bo + k * 4 + 2, none⟩ = some (.int .i64 (v k).t) ∧ V.cell? ⟨bb, bo + k * 4 + 3, none⟩ = some (.slice (v k).B (v k).m (v k).d)) from by
        have r := h.rawS
        exact ⟨r.1, h.fxCell m3 hlt, h.fxCell m4 hkn⟩))
      have HMu1 := Lib.hid (fun V (h : St w0 ((b1, #[.int .i64 z.s, .slice z.A z.n z.c, .int .i64 z.t, .slice z.B z.m z.d], 40) :: (b0, #[.int .i64 0, .slice none 0 0, .int .i64 0, .slice none 0 0], 40) :: Lk) (⟨rdP (v k).B (v k).m (v k).d (v k).k, rdS (v k).B (v k).m⟩ :: ⟨rdP (v k).A (v k).n (v k).c (v k).l, rdS (v k).A (v k).n⟩ :: ⟨rdP (u k).B (u k).m (u k).d (u k).k, rdS (u k).B (u k).m⟩ :: ⟨rdP (u k).A (u k).n (u k).c (u k).l, rdS (u k).A (u k).n⟩ :: ⟨rdP z.B z.m z.d z.k, rdS z.B z.m⟩ :: ⟨rdP z.A z.n z.c z.l, rdS z.A z.n⟩ :: D) V) => callMul h (HX.out k hlt) (HY.out k hlt) ZMB ZMB ZMB ZMB)
      have HNo1 := Lib.hid (fun V (t : Rw) (er : Int) (G : Hid (MulS (x k) (y k) t er)) (h : St w0 ((b1, #[.int .i64 z.s, .slice z.A z.n z.c, .int .i64 z.t, .slice z.B z.m z.d], 40) :: (b0, #[.int .i64 0, .slice none 0 0, .int .i64 0, .slice none 0 0], 40) :: Lk) (⟨rdP t.B t.m t.d t.k, rdS t.B t.m⟩ :: ⟨rdP t.A t.n t.c t.l, rdS t.A t.n⟩ :: (⟨rdP (v k).B (v k).m (v k).d (v k).k, rdS (v k).B (v k).m⟩ :: ⟨rdP (v k).A (v k).n (v k).c (v k).l, rdS (v k).A (v k).n⟩ :: ⟨rdP (u k).B (u k).m (u k).d (u k).k, rdS (u k).B (u k).m⟩ :: ⟨rdP (u k).A (u k).n (u k).c (u k).l, rdS (u k).A (u k).n⟩ :: ⟨rdP z.B z.m z.d z.k, rdS z.B z.m⟩ :: ⟨rdP z.A z.n z.c z.l, rdS z.A z.n⟩ :: D)) V) => callGot (L' := ((b1, #[.int .i64 z.s, .slice z.A z.n z.c, .int .i64 z.t, .slice z.B z.m z.d], 40) :: (b0, #[.int .i64 0, .slice none 0 0, .int .i64 0, .slice none 0 0], 40) :: L1)) h G.out.1 (HB1.out t er G.out) (.tail _ (.tail _ HU1.out)))
      have HAd1 := Lib.hid (fun V (t : Rw) (m : Rat) (hm : isQ t m) (h : St w0 ((b1, #[.int .i64 z.s, .slice z.A z.n z.c, .int .i64 z.t, .slice z.B z.m z.d], 40) :: (b0, #[.int .i64 0, .slice none 0 0, .int .i64 0, .slice none 0 0], 40) :: L1) (⟨rdP t.B t.m t.d t.k, rdS t.B t.m⟩ :: ⟨rdP t.A t.n t.c t.l, rdS t.A t.n⟩ :: (⟨rdP (v k).B (v k).m (v k).d (v k).k, rdS (v k).B (v k).m⟩ :: ⟨rdP (v k).A (v k).n (v k).c (v k).l, rdS (v k).A (v k).n⟩ :: ⟨rdP (u k).B (u k).m (u k).d (u k).k, rdS (u k).B (u k).m⟩ :: ⟨rdP (u k).A (u k).n (u k).c (u k).l, rdS (u k).A (u k).n⟩ :: ⟨rdP z.B z.m z.d z.k, rdS z.B z.m⟩ :: ⟨rdP z.A z.n z.c z.l, rdS z.A z.n⟩ :: D)) V) => callAdd h HQ.out.1 hm ZMB ZMB ZMB ZMB)
      have HNo2 := Lib.hid (fun V (t g : Rw) (er : Int) (m : Rat) (hm : mulK (x k) (y k) = true → m = x k * y k) (G : Hid (AddS zq m g er)) (h : St w0 ((b1, #[.int .i64 z.s, .slice z.A z.n z.c, .int .i64 z.t, .slice z.B z.m z.d], 40) :: (b0, #[.int .i64 0, .slice none 0 0, .int .i64 0, .slice none 0 0], 40) :: L1) (⟨rdP g.B g.m g.d g.k, rdS g.B g.m⟩ :: ⟨rdP g.A g.n g.c g.l, rdS g.A g.n⟩ :: ⟨rdP t.B t.m t.d t.k, rdS t.B t.m⟩ :: ⟨rdP t.A t.n t.c t.l, rdS t.A t.n⟩ :: (⟨rdP (v k).B (v k).m (v k).d (v k).k, rdS (v k).B (v k).m⟩ :: ⟨rdP (v k).A (v k).n (v k).c (v k).l, rdS (v k).A (v k).n⟩ :: ⟨rdP (u k).B (u k).m (u k).d (u k).k, rdS (u k).B (u k).m⟩ :: ⟨rdP (u k).A (u k).n (u k).c (u k).l, rdS (u k).A (u k).n⟩ :: ⟨rdP z.B z.m z.d z.k, rdS z.B z.m⟩ :: ⟨rdP z.A z.n z.c z.l, rdS z.A z.n⟩ :: D)) V) => callGot (L' := ((b1, #[.int .i64 z.s, .slice z.A z.n z.c, .int .i64 z.t, .slice z.B z.m z.d], 40) :: (b0, #[.int .i64 0, .slice none 0 0, .int .i64 0, .slice none 0 0], 40) :: L2)) h G.out.1 (HB2.out g er m hm G.out) (.tail _ (.tail _ HU3.out)))
      go_upto_region 5 with fail
      have K0 := K.drew
      have s0 := HSA.out _ _ _ (by repeat (first | exact M1.out | with_reducible apply List.mem_cons_of_mem)) (by repeat (first | exact M2.out | with_reducible apply List.mem_cons_of_mem)) K0
      clear K hU1 hU2 hU3 hU4 hbm hbn HU HU1 HU3 HB1 HB2 HQ HBk
      refine wp_region_T 19 (fun V => (V.cell? ⟨b1, 0, none⟩ = some (.int .i64 z.s) ∧ V.cell? ⟨b1, 1, none⟩ = some (.slice z.A z.n z.c) ∧ V.cell? ⟨b1, 2, none⟩ = some (.int .i64 z.t) ∧ V.cell? ⟨b1, 3, none⟩ = some (.slice z.B z.m z.d)) ∧ (V.cell? ⟨ab, ao + k * 4, none⟩ = some (.int .i64 (u k).s) ∧ V.cell? ⟨ab, ao + k * 4 + 1, none⟩ = some (.slice (u k).A (u k).n (u k).c) ∧ V.cell? ⟨ab, ao + k * 4 + 2, none⟩ = some (.int .i64 (u k).t) ∧ V.cell? ⟨ab, ao + k * 4 + 3, none⟩ = some (.slice (u k).B (u k).m (u k).d)) ∧ (V.cell? ⟨bb, bo + k * 4, none⟩ = some (.int .i64 (v k).s) ∧ V.cell? ⟨bb, bo + k * 4 + 1, none⟩ = some (.slice (v k).A (v k).n (v k).c) ∧ V.cell? ⟨bb, bo + k * 4 + 2, none⟩ = some (.int .i64 (v k).t) ∧ V.cell? ⟨bb, bo + k * 4 + 3, none⟩ = some (.slice (v k).B (v k).m (v k).d))) (by kernel_rfl) s0 (fun hSh => ?_)
      clear s0
      refine wpAnyT.tk 0 rfl ?_
      refine wpAnyT.tk 1 rfl ?_
      refine wpAnyT.tk 2 rfl ?_
      refine wpAnyT.tk 3 rfl ?_
      refine wpAnyT.tk 4 rfl ?_
      refine wpAnyT.tk 5 rfl ?_
      refine wpAnyT.tk 6 rfl ?_
      refine wpAnyT.tk 7 rfl ?_
      refine wpAnyT.tk 8 rfl ?_
      refine wpAnyT.tk 9 rfl ?_
      refine wpAnyT.tk 10 rfl ?_
      refine wpAnyT.on 11 rfl fun KK hKK => ?_
      go_simp
      go_at_call 36; refine (HMu1.out _ K0).mono ?_; rintro e w5 ⟨y1, em, rfl, gy, k5⟩
      go_wp2_with fail
      refine hKK.out _ _ ?_ (fun hSh => ?_)
      · exact HSA.out _ _ _ (by repeat (first | exact M1.out | with_reducible apply List.mem_cons_of_mem)) (by repeat (first | exact M2.out | with_reducible apply List.mem_cons_of_mem)) k5
      clear hKK KK
      refine ZPT ?_
      refine wpAnyT.tk 12 rfl ?_
      refine wpAnyT.tk 13 rfl ?_
      refine wpAnyT.on 14 rfl fun KK hKK => ?_
      go_simp
      go_at_call 107; refine (HNo1.out _ _ _ gy k5).mono ?_; rintro e w6 ⟨y2, z2, rfl, g2, k6⟩
      go_wp2_with fail
      refine hKK.out _ _ ?_ (fun hSh => ?_)
      · exact HSA.out _ _ _ (by repeat (first | exact M1.out | with_reducible apply List.mem_cons_of_mem)) (by repeat (first | exact M2.out | with_reducible apply List.mem_cons_of_mem)) k6
      clear hKK KK
      refine ZPT ?_
      have hm2 := Lib.hid (fun hk : mulK (x k) (y k) = true => g2.out.2 (by
        have := gy.out.2
        rw [hk] at this
        simpa using this))
      refine wpAnyT.on 15 rfl fun KK hKK => ?_
      go_simp
      go_at_call 24; refine (HAd1.out _ _ _ g2.out.1 k6).mono ?_; rintro e w7 ⟨y3, es, rfl, g3, k7⟩
      go_wp2_with fail
      refine hKK.out _ _ ?_ (fun hSh => ?_)
      · exact HSA.out _ _ _ (by repeat (first | exact M1.out | with_reducible apply List.mem_cons_of_mem)) (by repeat (first | exact M2.out | with_reducible apply List.mem_cons_of_mem)) k7
      clear hKK KK
      refine ZPT ?_
      refine wpAnyT.tk 16 rfl ?_
      refine wpAnyT.tk 17 rfl ?_
      refine wpAnyT.on 18 rfl fun KK hKK => ?_
      go_simp
      go_at_call 107; refine (HNo2.out _ _ _ _ _ hm2.out g3 k7).mono ?_; rintro e w8 ⟨y4, z4, rfl, g4, k8⟩
      go_wp2_with fail
      refine hKK.out _ _ ?_ (fun hSh => ?_)
      · exact HSA.out _ _ _ (by repeat (first | exact M1.out | with_reducible apply List.mem_cons_of_mem)) (by repeat (first | exact M2.out | with_reducible apply List.mem_cons_of_mem)) k8
      clear hKK KK
      refine ZPT ?_
      refine wpAnyT.last rfl (by kernel_rfl) ?_
      have HQ := Lib.hid (⟨g4.out.1, HV.out _ _ _ _ hm2.out g3.out g4.out.2⟩ : isQ y4 z4 ∧ (prdK x y (k + 1) = true → z4 = smQ (fun i => x i * y i) (k + 1)))
      clear k7 k6 k5 K0 HSA HMu1 HAd1 HNo1 HNo2 hSh gy g2 hm2 g3 g4 HV
      refine k8.storeA (b := b1) (cs := #[.int .i64 z.s, .slice z.A z.n z.c, .int .i64 z.t, .slice z.B z.m z.d]) (cs' := #[.int .i64 y4.s, .slice y4.A y4.n y4.c, .int .i64 y4.t, .slice y4.B y4.m y4.d]) (t := 40) rfl rfl _ _ _ rfl rfl rfl ZUA frac_size rfl rfl rfl ?_
      intro W8 K
      clear k8
      have HK := Lib.hid (K.lessS (D' := ⟨rdP y4.B y4.m y4.d y4.k, rdS y4.B y4.m⟩ :: ⟨rdP y4.A y4.n y4.c y4.l, rdS y4.A y4.n⟩ :: D) (by repeat (first | with_reducible exact List.Sublist.refl _ | with_reducible apply List.Sublist.cons_cons | with_reducible apply List.Sublist.cons)))
      clear K
      go_wp2_with fail
      go_roundg (n - (k + 1))
      case rel => exact ⟨k + 1, bn, L2, y4, z4, hlt, rfl, by go_num, HBn, HU4, HQ, HK.out⟩
      case measure => omega
    · have e : k = n := by omega
      subst e
      have hL : Lk = L' := Upd.none (HU.out) (by rw [HBk.out, HB.out])
      subst hL
      have r := K.rawS
      have HQ2 := Lib.hid HQ.out
      clear HQ HU HBk
      go_wp2_with (first | (refine ZAL ?_; clear K r; (first | ((fail_if_success revert b0); intro W b0 K r) | ((fail_if_success revert b1); intro W b1 K r) | ((fail_if_success revert b2); intro W b2 K r) | ((fail_if_success revert b3); intro W b3 K r) | intro W b K r)) | (refine ZST ?_; clear K r; intro W K r))
      have HE := Lib.hid (⟨z, zq, rfl, HQ2, (K.part (List.sublist_append_right [_, _] Lk)).lessS (by repeat (first | with_reducible exact List.Sublist.refl _ | with_reducible apply List.Sublist.cons_cons | with_reducible apply List.Sublist.cons))⟩ : FrG w0 Lk D (fun z => prdK x y k = true → z = smQ (fun i => x i * y i) k) (.returned (.agg #[.int .i64 z.s, .slice z.A z.n z.c, .int .i64 z.t, .slice z.B z.m z.d])) W)
      exact bodyPost_ret (v := .agg #[.int .i64 z.s, .slice z.A z.n z.c, .int .i64 z.t, .slice z.B z.m z.d]) (by simp [results, Try.results80, go_sem, r]) rfl HE.out
end Go.Proofs.Ytdlcglndhhndpaa
namespace Go.Proofs.Ytdlcglndhhndpaa
open Go.RowKit
theorem ZU5 {p : Prop} (h : p := by
  first
    | (go_enter Try.func115, Try.ntmps115
       go_wp2_with (first | (first | (refine ZAL ?_; clear K r; intro W b K r) | (refine ZST ?_; clear K r; intro W K r)) | (go_at_call 63; refine (HR.out _ ZRD ZRD).mono ?_; rintro e W' ⟨rfl, hb⟩; replace K := K.keep hb; clear hb r; have r := K.rawS))
       go_ret
       exact ⟨rfl, K.1⟩)
    | fail) : p := h
def fnF (x : Fv) : Bool := x.ok && !decide (x.s < 0)
set_option maxRecDepth 100000 in
set_option maxHeartbeats 1000000 in
theorem fine1_any (s t : Int) (A A' : Option Addr) (n cap n' cap' : Nat) (l m : List Int) (w : World) (hl : RdI w w.heap.size A n cap l) (hm : RdI w w.heap.size A' n' cap' m) :
    Calls Try.prog 115 #[.agg #[.int .i64 s, .slice A n cap, .int .i64 t, .slice A' n' cap']] w fun e w' => e = .returned (.bool (!fnF ⟨s, l, t, m⟩)) ∧ Below w.heap.size w w' := by
  have K := ((St.start w).oldRd hl).oldRd hm
  have r := K.raw
  have HR := Lib.hid (fun W h g => pwrong_any s t A A' n cap n' cap' l m W h g)
  have e0 : fnF ⟨s, l, t, m⟩ = (rightF s l t m && !decide (s < 0)) := rfl
  rw [e0]
  clear hl hm e0
  generalize rightF s l t m = R at *
  cases R
  · exact ZU5
  · rw [Bool.true_and]
    by_cases hs : s < 0
    · have hd : decide (s < 0) = true := decide_eq_true hs
      rw [hd]
      exact ZU5
    · have hd : decide (s < 0) = false := decide_eq_false hs
      rw [hd]
      exact ZU5
set_option maxRecDepth 100000 in
set_option maxHeartbeats 1000000 in
theorem idxN_any (A : Option Addr) (n cap : Nat) (l : List Fv) (w : World) (hl : RdF w w.heap.size A n cap l) :
    Calls Try.prog 84 #[.slice A n cap, .func (.func 115) #[] #[]] w (IdxF w (l.all fnF)) := by
  have hcaps := hl.caps
  have hlen := hl.len
  have eg := enters_of Try.func115 (by kernel_rfl) rfl
  have Hlen := Lib.hid hlen; clear hlen
  have HL := Lib.hid (fun W (h : Below w.heap.size w W) => hl.up fE_lasts h)
  go_enter Try.func84, Try.ntmps84
  go_wp2
  go_loopg [8] n (fun gk i wr => ∃ k : Nat, k ≤ n ∧ gk = n - k ∧ i = .int .i64 k ∧ (∀ j x, j < k → l[j]? = some x → fnF x = true) ∧ Below w.heap.size w wr)
  case atStart => exact ⟨0, Nat.zero_le _, rfl, rfl, (fun j x h => absurd h (by omega)), Below.refl _ _⟩
  case round =>
    obtain ⟨k, hk, rfl, rfl, hall, hb⟩ := hrel
    have Hall := Lib.hid hall; clear hall
    have HB := Lib.hid hb
    by_cases hlt : k < n
    · obtain ⟨b, off, A1, n1, c1, A2, n2, c2, x, rfl, hbB, hx, ⟨d0, d1, d2, d3⟩, r1, r2⟩ := (HL.out wr hb).atF hlt
      have hki : (k : Int) < (n : Int) := by omega
      have hk0 : (0 : Int) ≤ (k : Int) := by omega
      have Hx := Lib.hid hx; clear hx
      have HW := Lib.hid (fine1_any x.s x.t A1 A2 n1 c1 n2 c2 x.l x.m wr r1 r2)
      have hcap1 := r1.caps
      have hcap2 := r2.caps
      have hok : fnF ⟨x.s, x.l, x.t, x.m⟩ = fnF x := rfl
      rw [hok] at HW
      clear hok r1 r2 hb hl
      cases hin : fnF x
      · rw [hin] at HW
        have Hno := Lib.hid (show l.all fnF = false by
          rw [List.all_eq_false]; exact ⟨x, List.mem_of_getElem? Hx.out, by simp [hin]⟩)
        clear hin
        go_wp2_with (go_at_call 115; refine HW.out.mono ?_; rintro e w1 ⟨rfl, hb1⟩)
        go_ret
        exact ⟨(k : Int), rfl, by omega, by omega, by rw [Hno.out]; simp, HB.out.trans (hb1.mono HB.out.size)⟩
      · rw [hin] at HW
        have Hin := Lib.hid hin
        clear hin
        go_wp2_with (go_at_call 115; refine HW.out.mono ?_; rintro e w1 ⟨rfl, hb1⟩)
        go_roundg (n - (k + 1))
        case rel => exact ⟨k + 1, by omega, rfl, by go_num, (fun j y hj hy => by
          by_cases e : j = k
          · subst e; rw [Hx.out] at hy; cases hy; exact Hin.out
          · exact Hall.out j y (by omega) hy), HB.out.trans (hb1.mono HB.out.size)⟩
        case measure => omega
    · have e : k = n := by omega
      subst e
      have Hyes := Lib.hid (show l.all fnF = true by
        rw [List.all_eq_true]
        intro x hx
        obtain ⟨j, hj, rfl⟩ := List.mem_iff_getElem.1 hx
        exact Hall.out j _ (by rw [Hlen.out] at hj; exact hj) (List.getElem?_eq_getElem hj))
      clear hb hl
      go_wp2
      go_ret
      exact ⟨-1, rfl, by omega, by omega, by rw [Hyes.out]; rfl, HB.out⟩
set_option maxRecDepth 100000 in
set_option maxHeartbeats 1000000 in
theorem conN_any (A : Option Addr) (n cap : Nat) (l : List Fv) (w : World) (hl : RdF w w.heap.size A n cap l) :
    Calls Try.prog 46 #[.slice A n cap, .func (.func 115) #[] #[]] w fun e w' => e = .returned (.bool (!l.all fnF)) ∧ Below w.heap.size w w' := by
  have Hidx := Lib.hid (idxN_any A n cap l w hl)
  clear hl
  generalize l.all fnF = b at *
  go_enter Try.func46, Try.ntmps46
  go_wp2_with (go_at_call 84; refine Hidx.out.mono ?_; rintro e w1 ⟨i, rfl, hi1, hi2, hi3, hb⟩)
  go_ret
  exact ⟨rfl, hb⟩
set_option maxRecDepth 100000 in
set_option maxHeartbeats 1000000 in
theorem fine_any (A : Option Addr) (n cap k : Nat) (l : List Fv) (w : World) (hl : RdF w w.heap.size A n cap l) :
    Calls Try.prog 77 #[.slice A n cap, .int .i64 k] w fun e w' => e = .returned (.bool (decide (n = k) && l.all fnF)) ∧ Below w.heap.size w w' := by
  have HC := Lib.hid (fun W (h : Below w.heap.size w W) => conN_any A n cap l W (hl.up fE_lasts h))
  have hcaps := hl.caps
  clear hl
  generalize l.all fnF = R at *
  have K := St.start w
  by_cases hk : n = k
  · subst hk
    rw [decide_eq_true rfl, Bool.true_and]
    go_enter Try.func77, Try.ntmps77
    go_wp2_with (go_at_call 46; refine (HC.out _ K.1).mono ?_; rintro e W' ⟨rfl, hb⟩)
    go_ret
    exact ⟨rfl, hb⟩
  · rw [decide_eq_false hk, Bool.false_and]
    have hk2 : ¬ (n : Int) = (k : Int) := by omega
    have hk3 : decide ((n : Int) = (k : Int)) = false := decide_eq_false hk2
    have hk4 : ((n : Int) == (k : Int)) = false := by simp; omega
    go_enter Try.func77, Try.ntmps77
    go_wp2_with fail
    go_ret
    exact ⟨rfl, K.1⟩
end Go.Proofs.Ytdlcglndhhndpaa
namespace Go.Proofs.Ytdlcglndhhndpaa
open Go.RowKit
section
variable {m n : Nat} {A : Nat → Nat → Rat} {b c : Nat → Rat}
theorem one_none {E : LpEnd} {y : Nat → Rat} (h : LpSays m n A b c E) (hE : E ≠ .full) (hy : CerN m n A b y) : ∃ z, E = .none z := by
  cases E with
  | full => exact absurd rfl hE
  | none z => exact ⟨z, rfl⟩
  | ray x => obtain ⟨x0, h0⟩ := h.rayF; exact (cerN_no hy h0).elim
  | best x y2 => exact (cerN_no hy h.isB.1).elim
theorem one_ray {x u y : Nat → Rat} (h : LpSays m n A b c (.best u y)) (hx : CerR m n A c x) : False := cerR_no hx h.isB.2.1
theorem one_best {E : LpEnd} {x y : Nat → Rat} (h : LpSays m n A b c E) (hE : E ≠ .full) (hx : CerB m n A b c x y) : ∃ u w, E = .best u w := by
  cases E with
  | full => exact absurd rfl hE
  | none z => exact (cerN_no h.isN hx.1).elim
  | ray z => exact (cerR_no h.isR hx.2.1).elim
  | best u w => exact ⟨u, w, rfl⟩
end
end Go.Proofs.Ytdlcglndhhndpaa
namespace Go.Proofs.Ytdlcglndhhndpaa
open Go.RowKit
section
variable {w0 W : World} {L : List Blk} {D : List Hl}
theorem callCmp {Y Z : Rw} {f q : Rat} (K : St w0 L D W) (hY : isQ Y f) (hZ : isQ Z q) (m1 : (⟨rdP Y.A Y.n Y.c Y.l, rdS Y.A Y.n⟩ : Hl) ∈ D) (m2 : (⟨rdP Y.B Y.m Y.d Y.k, rdS Y.B Y.m⟩ : Hl) ∈ D) (m3 : (⟨rdP Z.A Z.n Z.c Z.l, rdS Z.A Z.n⟩ : Hl) ∈ D) (m4 : (⟨rdP Z.B Z.m Z.d Z.k, rdS Z.B Z.m⟩ : Hl) ∈ D) :
    Calls Try.prog 52 #[.agg #[.int .i64 Y.s, .slice Y.A Y.n Y.c, .int .i64 Y.t, .slice Y.B Y.m Y.d], .agg #[.int .i64 Z.s, .slice Z.A Z.n Z.c, .int .i64 Z.t, .slice Z.B Z.m Z.d]] W fun e W' => e = .returned (.int .i64 (cmpQ f q)) ∧ St w0 L D W' := by
  have h := fCompare_any Y.s Y.t Z.s Z.t Y.A Y.B Z.A Z.B Y.n Y.c Y.m Y.d Z.n Z.c Z.m Z.d Y.l Y.k Z.l Z.k W (K.rd m1) (K.rd m2) (K.rd m3) (K.rd m4)
  rw [hY.1.right hY.2, hZ.1.right hZ.2, hY.1.rat, hZ.1.rat] at h
  exact h.mono fun e W' ⟨he, hb⟩ => ⟨he, K.keep hb⟩
end
def sumsB (t : Nat → Bool) (p : Nat → Bool) : Nat → Bool
  | 0 => true
  | k + 1 => sumsB t p k && (t k && p k)
theorem sumsB_iff {t p : Nat → Bool} : ∀ {m : Nat}, sumsB t p m = true ↔ ∀ i, i < m → t i = true ∧ p i = true
  | 0 => ⟨fun _ i hi => absurd hi (by omega), fun _ => rfl⟩
  | m + 1 => by
    rw [sumsB, Bool.and_eq_true, Bool.and_eq_true, sumsB_iff]
    constructor
    · intro ⟨h1, h2, h3⟩ i hi
      by_cases e : i = m
      · rw [e]; exact ⟨h2, h3⟩
      · exact h1 i (by omega)
    · intro h
      exact ⟨fun i hi => h i (by omega), h m (by omega)⟩
theorem sumsB_bad {t p : Nat → Bool} {m k : Nat} (hk : k < m) (h : sumsB t p (k + 1) = false) : sumsB t p m = false := by
  cases e : sumsB t p m
  · rfl
  · have : sumsB t p (k + 1) = true := sumsB_iff.2 fun i hi => sumsB_iff.1 e i (by omega)
    rw [this] at h
    cases h
theorem sums_step {t p : Nat → Bool} {k : Nat} {b bk b1 q : Bool} (h : (!bk) = (!b && sumsB t p k)) (h1 : b1 = (bk || !t k)) (hq : t k = true → q = p k) :
    (q = true → (!b1) = (!b && sumsB t p (k + 1))) ∧ (q = false → (!b && sumsB t p (k + 1)) = false) := by
  subst h1
  rw [sumsB]
  cases ht : t k
  · simp
  · rw [hq ht]
    refine ⟨fun e => ?_, fun e => ?_⟩
    · rw [e]
      simpa using h
    · rw [e]
      simp
def belB (m n : Nat) (A : Nat → Nat → Rat) (b x : Nat → Rat) : Bool := sumsB (fun i => prdK (A i) x n) (fun i => decide (smQ (fun j => A i j * x j) n ≤ b i)) m
def covB (m n : Nat) (A : Nat → Nat → Rat) (c y : Nat → Rat) : Bool := sumsB (fun k => prdK y (fun i => A i k) m) (fun k => decide (c k ≤ smQ (fun i => y i * A i k) m)) n
theorem belB_sol {m n : Nat} {A : Nat → Nat → Rat} {b x : Nat → Rat} (h : belB m n A b x = true) (hx : ∀ u, u < n → 0 ≤ x u) : Sol m n A b x :=
  ⟨hx, fun i hi => of_decide_eq_true (sumsB_iff.1 h i hi).2⟩
theorem covB_pri {m n : Nat} {A : Nat → Nat → Rat} {c y : Nat → Rat} (h : covB m n A c y = true) (hy : ∀ i, i < m → 0 ≤ y i) : Pri m n A c y :=
  ⟨hy, fun k hk => of_decide_eq_true (sumsB_iff.1 h k hk).2⟩
end Go.Proofs.Ytdlcglndhhndpaa
namespace Go.Proofs.Ytdlcglndhhndpaa
open Go.RowKit
def SumP (w0 : World) (mb : Nat) (R : List Value) (T : TypeId) (b : Bool) (L : List Blk) (D : List Hl) (S : Bool) (e : Ending) (W' : World) : Prop :=
  ∃ (o b' : Bool) (L' : List Blk), e = .returned (.bool o) ∧ Hid (Upd mb (Value.bool b :: R).toArray T (Value.bool b' :: R).toArray L L') ∧ Hid ((o && !b') = (!b && S)) ∧ St w0 L' D W'
theorem St.nodup {w W : World} {L : List Blk} {D : List Hl} (K : St w L D W) : (L.map (·.1)).Nodup := by
  rw [List.nodup_iff_pairwise_ne, List.pairwise_map]
  exact K.2.2.1
end Go.Proofs.Ytdlcglndhhndpaa
