/- Laws and walks; conditions stand in each theorem. -/
import Derived.BigRegion
import Derived.Maps.RangeWalk
import Derived.Test.YtdlcglndhhndpaaGreatP11
import Derived.Test.YtdlcglndhhndpaaGreatP10
import Derived.Test.YtdlcglndhhndpaaGreatP08
set_option linter.unusedSimpArgs false
set_option linter.unusedVariables false
set_option maxHeartbeats 4000000
set_option maxRecDepth 100000
namespace Go.Proofs.YtdlcglndhhndpaaGreat
open Go.RowKit
theorem Upd.none {b : Nat} {c c' : Bool} {R : List Value} {t : TypeId} {L L' : List Blk} (h : Upd b (Value.bool c :: R).toArray t (Value.bool c' :: R).toArray L L') (e : c = c') : L = L' := by
 subst e
 revert h
 generalize (Value.bool c :: R).toArray = cs
 intro h
 induction h with
 | head L => rfl
 | tail x h ih => rw [ih]
theorem product_any (w0 W : World) (L L' : List Blk) (D : List Hl) (mb : Nat) (b b' : Bool) (R : List Value) (T : TypeId) (A B : Option Addr) (n cap n' cap' : Nat) (u v : Nat → Rw) (x y : Nat → Rat)
 (K : St w0 L D W) (m1 : (⟨fxP A n cap u, fxS A n u⟩ : Hl) ∈ D) (m2 : (⟨fxP B n' cap' v, fxS B n' v⟩ : Hl) ∈ D) (hn : n ≤ n' ∧ n ≤ 1000000) (hx : ∀ i, i < n → isQ (u i) (x i)) (hy : ∀ i, i < n → isQ (v i) (y i))
 (hb : b' = (b || !prdK x y n)) (hU : Upd mb (Value.bool b :: R).toArray T (Value.bool b' :: R).toArray L L') :
 Calls Tryz.prog 76 #[.pointer (some ⟨mb, 0, none⟩), .slice A n cap, .slice B n' cap'] W (FrG w0 L' D fun z => prdK x y n = true → z = smQ (fun i => x i * y i) n) := by
 have HU := Lib.hid hU
 have HX := Lib.hid hx
 have HY := Lib.hid hy
 have M1 := Lib.hid m1
 have M2 := Lib.hid m2
 have HB := Lib.hid hb
 have HZ := Lib.hid pzero_any
 have hcap := K.fxCap m1
 have hcbp := K.fxCap m2
 clear hU hx hy m1 m2 hb
 have r := K.raw
 go_enter Tryz.func76, Tryz.ntmps76
 go_wp2_with (first | (refine ZAL ?_; clear K r; (first | ((fail_if_success revert b0); intro W b0 K r) | ((fail_if_success revert b1); intro W b1 K r) | ((fail_if_success revert b2); intro W b2 K r) | ((fail_if_success revert b3); intro W b3 K r) | intro W b K r)) | (refine ZST ?_; clear K r; intro W K r))
 refine (HZ.out _).mono ?_
 rintro e W' ⟨s7, A7, n7, c7, l7, t7, B7, m7, d7, k7, rfl, ⟨hra, hrb⟩, ho, ⟨hfa, hfb⟩, hb⟩
 have hf7 := Lib.hid (hfa.mono K.1.size)
 have hg7 := Lib.hid (hfb.mono K.1.size)
 replace K := K.retF hb hra hrb hfa hfb
 clear r
 have r := K.rawS
 clear hra hrb hfa hfb hb
 clear hf7 hg7
 have HO := Lib.hid ho
 clear ho
 go_wp2_with (first | (refine ZAL ?_; clear K r; (first | ((fail_if_success revert b0); intro W b0 K r) | ((fail_if_success revert b1); intro W b1 K r) | ((fail_if_success revert b2); intro W b2 K r) | ((fail_if_success revert b3); intro W b3 K r) | intro W b K r)) | (refine ZST ?_; clear K r; intro W K r))
 go_loopg [12] n (fun gk s12 wr => ∃ (k : Nat) (bk : Bool) (Lk : List Blk) (z : Rw) (zq : Rat), k ≤ n ∧ gk = n - k ∧ s12 = .int .i64 k ∧ Hid (bk = (b || !prdK x y k)) ∧ Hid (Upd mb (Value.bool bk :: R).toArray T (Value.bool b' :: R).toArray Lk L') ∧ Hid (isQ z zq ∧ (prdK x y k = true → zq = smQ (fun i => x i * y i) k)) ∧ St w0 ((b1, #[.int .i64 z.s, .slice z.A z.n z.c, .int .i64 z.t, .slice z.B z.m z.d], 50) :: (b0, #[.int .i64 0, .slice none 0 0, .int .i64 0, .slice none 0 0], 50) :: Lk) (⟨rdP z.B z.m z.d z.k, rdS z.B z.m⟩ :: ⟨rdP z.A z.n z.c z.l, rdS z.A z.n⟩ :: D) wr)
 case atStart => exact ⟨0, b, L, ⟨s7, A7, n7, c7, l7, t7, B7, m7, d7, k7⟩, 0, Nat.zero_le _, rfl, rfl, Lib.hid (by simp [prdK]), HU, Lib.hid ⟨⟨HO.out, fitsF_zero⟩, fun _ => rfl⟩, K⟩
 case round =>
  clear K r HU HO
  obtain ⟨k, bk, Lk, z, zq, hk, rfl, rfl, HBk, HU, HQ, K⟩ := hrel
  by_cases hlt : k < n
  · have hki : (k : Int) < (n : Int) := by omega
    have hkj : (k : Int) < (n' : Int) := by omega
    have hk0 : (0 : Int) ≤ (k : Int) := by omega
    have hkn : k < n' := by omega
    obtain ⟨ab, ao, hA⟩ := K.fxAt (List.mem_cons_of_mem _ (List.mem_cons_of_mem _ M1.out)) (by omega)
    obtain ⟨bb, bo, hBB⟩ := K.fxAt (List.mem_cons_of_mem _ (List.mem_cons_of_mem _ M2.out)) (by omega)
    subst hA hBB
    have K := (K.fxRd (List.mem_cons_of_mem _ (List.mem_cons_of_mem _ M1.out)) hlt).fxRd (List.mem_cons_of_mem _ (List.mem_cons_of_mem _ (List.mem_cons_of_mem _ (List.mem_cons_of_mem _ M2.out)))) hkn
    obtain ⟨bm, hbm⟩ : ∃ bm, bm = (bk || !mulK (x k) (y k)) := ⟨_, rfl⟩
    obtain ⟨bn, hbn⟩ : ∃ bn, bn = (b || !prdK x y (k + 1)) := ⟨_, rfl⟩
    obtain ⟨L1, hU1, hU2⟩ := HU.out.mid (Value.bool bm :: R).toArray
    obtain ⟨L2, hU3, hU4⟩ := hU2.mid (Value.bool bn :: R).toArray
    have HU1 := Lib.hid hU1
    have HU3 := Lib.hid hU3
    have HU4 := Lib.hid hU4
    have HBn := Lib.hid hbn
    have HB1 := Lib.hid (fun (t : Rw) (er : Int) (h : MulS (x k) (y k) t er) => (by rw [h.2]; exact hbm : bm = (bk || er != 0)))
    have HB2 := Lib.hid (fun (t : Rw) (er : Int) (m : Rat) (hm : mulK (x k) (y k) = true → m = x k * y k) (h : AddS zq m t er) => (by
     rw [h.2, hbn]
     exact (prd_step rfl HBk.out hbm rfl HQ.out.2 hm (fun _ => rfl)).1.symm : bn = (bm || er != 0)))
    have HV := Lib.hid (fun (t : Rw) (er : Int) (m g : Rat) (hm : mulK (x k) (y k) = true → m = x k * y k) (h : AddS zq m t er) (hv : er = 0 → g = zq + m) => (by
     refine (prd_step (b3 := bm || !addK zq m) rfl HBk.out hbm rfl HQ.out.2 hm (fun hk2 => hv ?_)).2
     have e2 := h.2
     rw [hk2] at e2
     simpa using e2 : prdK x y (k + 1) = true → g = smQ (fun i => x i * y i) (k + 1)))
    have HSA := Lib.hid (fun V L2 D2 (m3 : (⟨fxP (some ⟨ab, ao, none⟩) n cap u, fxS (some ⟨ab, ao, none⟩) n u⟩ : Hl) ∈ D2) (m4 : (⟨fxP (some ⟨bb, bo, none⟩) n' cap' v, fxS (some ⟨bb, bo, none⟩) n' v⟩ : Hl) ∈ D2) (h : St w0 ((b1, #[.int .i64 z.s, .slice z.A z.n z.c, .int .i64 z.t, .slice z.B z.m z.d], 50) :: (b0, #[.int .i64 0, .slice none 0 0, .int .i64 0, .slice none 0 0], 50) :: L2) D2 V) => (show (V.cell? ⟨b1, 0, none⟩ = some (.int .i64 z.s) ∧ V.cell? ⟨b1, 1, none⟩ = some (.slice z.A z.n z.c) ∧ V.cell? ⟨b1, 2, none⟩ = some (.int .i64 z.t) ∧ V.cell? ⟨b1, 3, none⟩ = some (.slice z.B z.m z.d)) ∧ (V.cell? ⟨ab, ao + k * 4, none⟩ = some (.int .i64 (u k).s) ∧ V.cell? ⟨ab, ao + k * 4 + 1, none⟩ = some (.slice (u k).A (u k).n (u k).c) ∧ V.cell? ⟨ab, ao + k * 4 + 2, none⟩ = some (.int .i64 (u k).t) ∧ V.cell? ⟨ab, ao + k * 4 + 3, none⟩ = some (.slice (u k).B (u k).m (u k).d)) ∧ (V.cell? ⟨bb, bo + k * 4, none⟩ = some (.int .i64 (v k).s) ∧ V.cell? ⟨bb, bo + k * 4 + 1, none⟩ = some (.slice (v k).A (v k).n (v k).c) ∧ V.cell? ⟨bb, bo + k * 4 + 2, none⟩ = some (.int .i64 (v k).t) ∧ V.cell? ⟨bb, bo + k * 4 + 3, none⟩ = some (.slice (v k).B (v k).m (v k).d)) from by
     have r := h.rawS
     exact ⟨r.1, h.fxCell m3 hlt, h.fxCell m4 hkn⟩))
    have HMu1 := Lib.hid (fun V (h : St w0 ((b1, #[.int .i64 z.s, .slice z.A z.n z.c, .int .i64 z.t, .slice z.B z.m z.d], 50) :: (b0, #[.int .i64 0, .slice none 0 0, .int .i64 0, .slice none 0 0], 50) :: Lk) (⟨rdP (v k).B (v k).m (v k).d (v k).k, rdS (v k).B (v k).m⟩ :: ⟨rdP (v k).A (v k).n (v k).c (v k).l, rdS (v k).A (v k).n⟩ :: ⟨rdP (u k).B (u k).m (u k).d (u k).k, rdS (u k).B (u k).m⟩ :: ⟨rdP (u k).A (u k).n (u k).c (u k).l, rdS (u k).A (u k).n⟩ :: ⟨rdP z.B z.m z.d z.k, rdS z.B z.m⟩ :: ⟨rdP z.A z.n z.c z.l, rdS z.A z.n⟩ :: D) V) => callMul h (HX.out k hlt) (HY.out k hlt) ZMB ZMB ZMB ZMB)
    have HNo1 := Lib.hid (fun V (t : Rw) (er : Int) (G : Hid (MulS (x k) (y k) t er)) (h : St w0 ((b1, #[.int .i64 z.s, .slice z.A z.n z.c, .int .i64 z.t, .slice z.B z.m z.d], 50) :: (b0, #[.int .i64 0, .slice none 0 0, .int .i64 0, .slice none 0 0], 50) :: Lk) (⟨rdP t.B t.m t.d t.k, rdS t.B t.m⟩ :: ⟨rdP t.A t.n t.c t.l, rdS t.A t.n⟩ :: (⟨rdP (v k).B (v k).m (v k).d (v k).k, rdS (v k).B (v k).m⟩ :: ⟨rdP (v k).A (v k).n (v k).c (v k).l, rdS (v k).A (v k).n⟩ :: ⟨rdP (u k).B (u k).m (u k).d (u k).k, rdS (u k).B (u k).m⟩ :: ⟨rdP (u k).A (u k).n (u k).c (u k).l, rdS (u k).A (u k).n⟩ :: ⟨rdP z.B z.m z.d z.k, rdS z.B z.m⟩ :: ⟨rdP z.A z.n z.c z.l, rdS z.A z.n⟩ :: D)) V) => callGot (L' := ((b1, #[.int .i64 z.s, .slice z.A z.n z.c, .int .i64 z.t, .slice z.B z.m z.d], 50) :: (b0, #[.int .i64 0, .slice none 0 0, .int .i64 0, .slice none 0 0], 50) :: L1)) h G.out.1 (HB1.out t er G.out) (.tail _ (.tail _ HU1.out)))
    have HAd1 := Lib.hid (fun V (t : Rw) (m : Rat) (hm : isQ t m) (h : St w0 ((b1, #[.int .i64 z.s, .slice z.A z.n z.c, .int .i64 z.t, .slice z.B z.m z.d], 50) :: (b0, #[.int .i64 0, .slice none 0 0, .int .i64 0, .slice none 0 0], 50) :: L1) (⟨rdP t.B t.m t.d t.k, rdS t.B t.m⟩ :: ⟨rdP t.A t.n t.c t.l, rdS t.A t.n⟩ :: (⟨rdP (v k).B (v k).m (v k).d (v k).k, rdS (v k).B (v k).m⟩ :: ⟨rdP (v k).A (v k).n (v k).c (v k).l, rdS (v k).A (v k).n⟩ :: ⟨rdP (u k).B (u k).m (u k).d (u k).k, rdS (u k).B (u k).m⟩ :: ⟨rdP (u k).A (u k).n (u k).c (u k).l, rdS (u k).A (u k).n⟩ :: ⟨rdP z.B z.m z.d z.k, rdS z.B z.m⟩ :: ⟨rdP z.A z.n z.c z.l, rdS z.A z.n⟩ :: D)) V) => callAdd h HQ.out.1 hm ZMB ZMB ZMB ZMB)
    have HNo2 := Lib.hid (fun V (t g : Rw) (er : Int) (m : Rat) (hm : mulK (x k) (y k) = true → m = x k * y k) (G : Hid (AddS zq m g er)) (h : St w0 ((b1, #[.int .i64 z.s, .slice z.A z.n z.c, .int .i64 z.t, .slice z.B z.m z.d], 50) :: (b0, #[.int .i64 0, .slice none 0 0, .int .i64 0, .slice none 0 0], 50) :: L1) (⟨rdP g.B g.m g.d g.k, rdS g.B g.m⟩ :: ⟨rdP g.A g.n g.c g.l, rdS g.A g.n⟩ :: ⟨rdP t.B t.m t.d t.k, rdS t.B t.m⟩ :: ⟨rdP t.A t.n t.c t.l, rdS t.A t.n⟩ :: (⟨rdP (v k).B (v k).m (v k).d (v k).k, rdS (v k).B (v k).m⟩ :: ⟨rdP (v k).A (v k).n (v k).c (v k).l, rdS (v k).A (v k).n⟩ :: ⟨rdP (u k).B (u k).m (u k).d (u k).k, rdS (u k).B (u k).m⟩ :: ⟨rdP (u k).A (u k).n (u k).c (u k).l, rdS (u k).A (u k).n⟩ :: ⟨rdP z.B z.m z.d z.k, rdS z.B z.m⟩ :: ⟨rdP z.A z.n z.c z.l, rdS z.A z.n⟩ :: D)) V) => callGot (L' := ((b1, #[.int .i64 z.s, .slice z.A z.n z.c, .int .i64 z.t, .slice z.B z.m z.d], 50) :: (b0, #[.int .i64 0, .slice none 0 0, .int .i64 0, .slice none 0 0], 50) :: L2)) h G.out.1 (HB2.out g er m hm G.out) (.tail _ (.tail _ HU3.out)))
    go_upto_region 5 with fail
    have K0 := K.drew
    have s0 := HSA.out _ _ _ (by repeat (first | exact M1.out | with_reducible apply List.mem_cons_of_mem)) (by repeat (first | exact M2.out | with_reducible apply List.mem_cons_of_mem)) K0
    clear K hU1 hU2 hU3 hU4 hbm hbn HU HU1 HU3 HB1 HB2 HQ HBk
    refine wp_region_T 19 (fun V => (V.cell? ⟨b1, 0, none⟩ = some (.int .i64 z.s) ∧ V.cell? ⟨b1, 1, none⟩ = some (.slice z.A z.n z.c) ∧ V.cell? ⟨b1, 2, none⟩ = some (.int .i64 z.t) ∧ V.cell? ⟨b1, 3, none⟩ = some (.slice z.B z.m z.d)) ∧ (V.cell? ⟨ab, ao + k * 4, none⟩ = some (.int .i64 (u k).s) ∧ V.cell? ⟨ab, ao + k * 4 + 1, none⟩ = some (.slice (u k).A (u k).n (u k).c) ∧ V.cell? ⟨ab, ao + k * 4 + 2, none⟩ = some (.int .i64 (u k).t) ∧ V.cell? ⟨ab, ao + k * 4 + 3, none⟩ = some (.slice (u k).B (u k).m (u k).d)) ∧ (V.cell? ⟨bb, bo + k * 4, none⟩ = some (.int .i64 (v k).s) ∧ V.cell? ⟨bb, bo + k * 4 + 1, none⟩ = some (.slice (v k).A (v k).n (v k).c) ∧ V.cell? ⟨bb, bo + k * 4 + 2, none⟩ = some (.int .i64 (v k).t) ∧ V.cell? ⟨bb, bo + k * 4 + 3, none⟩ = some (.slice (v k).B (v k).m (v k).d))) (by kernel_rfl) s0 (fun hSh => ?_)
    clear s0
    refine wpAnyT.tk 0 rfl ?_
    refine wpAnyT.tk 1 rfl ?_
    refine wpAnyT.tk 2 rfl ?_
    refine wpAnyT.tk 3 rfl ?_
    refine wpAnyT.tk 4 rfl ?_
    refine wpAnyT.tk 5 rfl ?_
    refine wpAnyT.tk 6 rfl ?_
    refine wpAnyT.tk 7 rfl ?_
    refine wpAnyT.tk 8 rfl ?_
    refine wpAnyT.tk 9 rfl ?_
    refine wpAnyT.tk 10 rfl ?_
    refine wpAnyT.on 11 rfl fun KK hKK => ?_
    go_simp
    go_at_call 52; refine (HMu1.out _ K0).mono ?_; rintro e w5 ⟨y1, em, rfl, gy, k5⟩
    go_wp2_with fail
    refine hKK.out _ _ ?_ (fun hSh => ?_)
    · exact HSA.out _ _ _ (by repeat (first | exact M1.out | with_reducible apply List.mem_cons_of_mem)) (by repeat (first | exact M2.out | with_reducible apply List.mem_cons_of_mem)) k5
    clear hKK KK
    refine ZPT ?_
    refine wpAnyT.tk 12 rfl ?_
    refine wpAnyT.tk 13 rfl ?_
    refine wpAnyT.on 14 rfl fun KK hKK => ?_
    go_simp
    go_at_call 119; refine (HNo1.out _ _ _ gy k5).mono ?_; rintro e w6 ⟨y2, z2, rfl, g2, k6⟩
    go_wp2_with fail
    refine hKK.out _ _ ?_ (fun hSh => ?_)
    · exact HSA.out _ _ _ (by repeat (first | exact M1.out | with_reducible apply List.mem_cons_of_mem)) (by repeat (first | exact M2.out | with_reducible apply List.mem_cons_of_mem)) k6
    clear hKK KK
    refine ZPT ?_
    have hm2 := Lib.hid (fun hk : mulK (x k) (y k) = true => g2.out.2 (by
     have := gy.out.2
     rw [hk] at this
     simpa using this))
    refine wpAnyT.on 15 rfl fun KK hKK => ?_
    go_simp
    go_at_call 53; refine (HAd1.out _ _ _ g2.out.1 k6).mono ?_; rintro e w7 ⟨y3, es, rfl, g3, k7⟩
    go_wp2_with fail
    refine hKK.out _ _ ?_ (fun hSh => ?_)
    · exact HSA.out _ _ _ (by repeat (first | exact M1.out | with_reducible apply List.mem_cons_of_mem)) (by repeat (first | exact M2.out | with_reducible apply List.mem_cons_of_mem)) k7
    clear hKK KK
    refine ZPT ?_
    refine wpAnyT.tk 16 rfl ?_
    refine wpAnyT.tk 17 rfl ?_
    refine wpAnyT.on 18 rfl fun KK hKK => ?_
    go_simp
    go_at_call 119; refine (HNo2.out _ _ _ _ _ hm2.out g3 k7).mono ?_; rintro e w8 ⟨y4, z4, rfl, g4, k8⟩
    go_wp2_with fail
    refine hKK.out _ _ ?_ (fun hSh => ?_)
    · exact HSA.out _ _ _ (by repeat (first | exact M1.out | with_reducible apply List.mem_cons_of_mem)) (by repeat (first | exact M2.out | with_reducible apply List.mem_cons_of_mem)) k8
    clear hKK KK
    refine ZPT ?_
    refine wpAnyT.last rfl (by kernel_rfl) ?_
    have HQ := Lib.hid (⟨g4.out.1, HV.out _ _ _ _ hm2.out g3.out g4.out.2⟩ : isQ y4 z4 ∧ (prdK x y (k + 1) = true → z4 = smQ (fun i => x i * y i) (k + 1)))
    clear k7 k6 k5 K0 HSA HMu1 HAd1 HNo1 HNo2 hSh gy g2 hm2 g3 g4 HV
    refine k8.storeA (b := b1) (cs := #[.int .i64 z.s, .slice z.A z.n z.c, .int .i64 z.t, .slice z.B z.m z.d]) (cs' := #[.int .i64 y4.s, .slice y4.A y4.n y4.c, .int .i64 y4.t, .slice y4.B y4.m y4.d]) (t := 50) rfl rfl _ _ _ rfl rfl rfl ZUA frac_size rfl rfl rfl ?_
    intro W8 K
    clear k8
    have HK := Lib.hid (K.lessS (D' := ⟨rdP y4.B y4.m y4.d y4.k, rdS y4.B y4.m⟩ :: ⟨rdP y4.A y4.n y4.c y4.l, rdS y4.A y4.n⟩ :: D) (by repeat (first | with_reducible exact List.Sublist.refl _ | with_reducible apply List.Sublist.cons_cons | with_reducible apply List.Sublist.cons)))
    clear K
    go_wp2_with fail
    go_roundg (n - (k + 1))
    case rel => exact ⟨k + 1, bn, L2, y4, z4, hlt, rfl, by go_num, HBn, HU4, HQ, HK.out⟩
    case measure => omega
  · have e : k = n := by omega
    subst e
    have hL : Lk = L' := Upd.none (HU.out) (by rw [HBk.out, HB.out])
    subst hL
    have r := K.rawS
    have HQ2 := Lib.hid HQ.out
    clear HQ HU HBk
    go_wp2_with (first | (refine ZAL ?_; clear K r; (first | ((fail_if_success revert b0); intro W b0 K r) | ((fail_if_success revert b1); intro W b1 K r) | ((fail_if_success revert b2); intro W b2 K r) | ((fail_if_success revert b3); intro W b3 K r) | intro W b K r)) | (refine ZST ?_; clear K r; intro W K r))
    have HE := Lib.hid (⟨z, zq, rfl, HQ2, (K.part (List.sublist_append_right [_, _] Lk)).lessS (by repeat (first | with_reducible exact List.Sublist.refl _ | with_reducible apply List.Sublist.cons_cons | with_reducible apply List.Sublist.cons))⟩ : FrG w0 Lk D (fun z => prdK x y k = true → z = smQ (fun i => x i * y i) k) (.returned (.agg #[.int .i64 z.s, .slice z.A z.n z.c, .int .i64 z.t, .slice z.B z.m z.d])) W)
    exact bodyPost_ret (v := .agg #[.int .i64 z.s, .slice z.A z.n z.c, .int .i64 z.t, .slice z.B z.m z.d]) (by simp [results, Tryz.results76, go_sem, r]) rfl HE.out
def ZrP (w0 : World) (L : List Blk) (D : List Hl) (n : Nat) (x : Nat → Rat) (e : Ending) (W' : World) : Prop :=
 ∃ (g : Nat) (v : Nat → Rw), e = Ending.returned (.slice (some ⟨g, 0, none⟩) n n) ∧ Hid (∀ j, j < n → isQ (v j) (x j)) ∧ St w0 ((g, rwA n v [], 50) :: L) (⟨rwP n v, rwS n v⟩ :: D) W'
theorem zeros_any (n : Nat) (w0 W : World) (L : List Blk) (D : List Hl) (K : St w0 L D W) (hn : n ≤ 1000) :
 Calls Tryz.prog 61 #[.int .i64 n] W (ZrP w0 L D n fun _ => 0) := by
 have HZ := Lib.hid pzero_any
 have hn0 : (0 : Int) ≤ (n : Int) := by omega
 have r := K.raw
 go_enter Tryz.func61, Tryz.ntmps61
 go_wp2_with (at_make; refine K.make rfl _ _ _ _ rfl _ _ _ Tryz.underlying23 frac_made n rfl rfl _ (made_fracs n) (by omega) (by omega) ?_; clear K r; intro W0 g K; have r := K.rawS)
 go_loopg [9] n (fun gk s9 wr => ∃ (k : Nat) (v : Nat → Rw), k ≤ n ∧ gk = n - k ∧ s9 = .int .i64 k ∧ Hid (∀ j, j < k → isQ (v j) 0) ∧ St w0 ((g, rwA n v [], 50) :: L) (⟨rwP n v, rwS n v⟩ :: D) wr)
 case atStart => exact ⟨0, fun _ => Rw.zero, Nat.zero_le _, rfl, rfl, Lib.hid (fun j h => absurd h (by omega)), K.rwNew n⟩
 case round =>
  clear K r
  obtain ⟨k, v, hk, rfl, rfl, HV, K⟩ := hrel
  by_cases hlt : k < n
  · have hki : (k : Int) < (n : Int) := by omega
    have hk0 : (0 : Int) ≤ (k : Int) := by omega
    have r := K.rawS
    go_wp2_with (first
     | (go_at_call 112; refine (HZ.out _).mono ?_; rintro e W' ⟨s7, A7, n7, c7, l7, t7, B7, m7, d7, k7, rfl, ⟨hra, hrb⟩, ho, ⟨hfa, hfb⟩, hb⟩; replace K := K.retF hb hra hrb hfa hfb; clear hra hrb hfa hfb hb r; have HO := Lib.hid ho; clear ho; have r := K.rawS)
     | (refine K.storeR rfl rfl _ _ _ rfl g k n (⟨s7, A7, n7, c7, l7, t7, B7, m7, d7, k7⟩ : Rw) rfl rfl hlt ZUA frac_size ?_; clear K r; intro W8 K))
    have HK := Lib.hid ((K.rwPut (v := v) (⟨s7, A7, n7, c7, l7, t7, B7, m7, d7, k7⟩ : Rw) k ZMB ZMB ZMB).less (D' := ⟨rwP n (putF v k (⟨s7, A7, n7, c7, l7, t7, B7, m7, d7, k7⟩ : Rw)), rwS n (putF v k (⟨s7, A7, n7, c7, l7, t7, B7, m7, d7, k7⟩ : Rw))⟩ :: D) fun x hx => by
     simp only [List.mem_cons] at hx ⊢
     rcases hx with h | h
     · exact Or.inl h
     · exact Or.inr (Or.inr (Or.inr (Or.inr h))))
    have HV2 := Lib.hid (show ∀ j, j < k + 1 → isQ (putF v k (⟨s7, A7, n7, c7, l7, t7, B7, m7, d7, k7⟩ : Rw) j) 0 from fun j hj => by
     by_cases e : j = k
     · subst e; rw [putF_same]; exact ⟨HO.out, fitsF_zero⟩
     · rw [putF_other e]; exact HV.out j (by omega))
    clear K HO HV
    go_wp2_with fail
    go_roundg (n - (k + 1))
    case rel => exact ⟨k + 1, _, hlt, rfl, by go_num, HV2, HK.out⟩
    case measure => omega
  · have e : n = k := by omega
    subst e
    have HE := Lib.hid (⟨g, v, rfl, HV, K⟩ : ZrP w0 L D n (fun _ => 0) (.returned (.slice (some ⟨g, 0, none⟩) n n)) wr)
    clear K HV hlt
    go_wp2_with fail
    go_ret
    exact HE.out
section
variable {P : Program} {o : Oper} {a : Act} {KK : Act → World → Prop} {Q : Exit → Act → World → Prop} {w W : World} {L X : List Blk} {D : List Hl}
theorem St.appOp {α : Type} {sz : Nat} {enc : α → List Value} {e : TypeId} {v : Value} {l : List α} (K : St w (X ++ L) D W) (ho : OwL sz enc e v l X) (hs : Sized sz enc) (s x : Operand) (t : TypeId)
 (hop : o.op = .call { callee := .builtin .append, args := #[s, x], argTypes := #[t, t] }) (z : Array Value) (bytes : Nat) (ht : P.underlying t = some (.slice e)) (hi : (P.info? e).map (fun i => (i.zero.map (·.cells), i.size, i.bytes)) = some (some z, sz, bytes)) (hz : z.size = sz)
 (hv : a.eval s = v) (y : α) (b : Nat) (e' : TypeId) (hb : ((b, (enc y).toArray, e') : Blk) ∈ L) (hx : a.eval x = .slice (some ⟨b, 0, none⟩) 1 1) (hlen : l.length ≤ 1000000) (hbb : bytes ≤ 1000)
 (h : ∀ v' X' W', OwL sz enc e v' (l ++ [y]) X' → St w (X' ++ L) D W' → KK (a.put o.dst v') W') : o.wp P a W KK Q := by
 obtain ⟨i, h1, h2⟩ := Option.map_eq_some_iff.1 hi
 simp only [Prod.mk.injEq] at h2
 obtain ⟨h2, h3, h4⟩ := h2
 obtain ⟨zv, h5, h6⟩ := Option.map_eq_some_iff.1 h2
 have hB := K.blk (List.mem_append_right X hb)
 have hr : Rd sz (flat enc) W W.heap.size (some ⟨b, 0, none⟩) 1 1 [y] := ⟨rfl, Nat.le_refl _, ⟨by omega, by omega⟩, fun _ => ⟨b, 0, rfl, hB.lt, fun k hk => by
  have hk0 : k = 0 := by simp at hk; exact hk
  subst hk0
  exact ⟨enc y, rfl, (hs.2 y).1, fun j u hu => by
   rw [Nat.zero_add, Nat.zero_mul, Nat.zero_add]
   exact hB.cell (by rw [List.getElem?_toArray]; exact hu)⟩⟩⟩
 have hbyt : (l.length + 1) * bytes ≤ (1000000 + 1) * 1000 := Nat.mul_le_mul (by omega) hbb
 obtain ⟨v', W', hrun, g1, g2, g3⟩ := run_app (P := P) W hs w.heap.size t o.type e i zv bytes ht h1 h5 h3 h4 (by rw [h6, hz]) v l (ho.own hs K) W.heap.size (some ⟨b, 0, none⟩) 1 1 [y] hr (by unfold maxLen; omega) (by omega) K.1.size
 obtain ⟨X', hX, K'⟩ := ho.of hs K g1 (grown_kept g2) (fun g hg => by
  rcases g3 with g3 | g3
  · exact Or.inl (g3 ▸ hg)
  · rw [g3] at hg
    injection hg with hg
    right
    omega)
 unfold Oper.wp execOp
 simp only [hop, resolve, invoke, builtin, Sem.run_bind, Sem.run_pure, Result.andThen_ok, List.map_toArray, List.map_cons, List.map_nil, hv, hx, hrun]
 exact h v' X' W' hX K'
theorem St.setOp1 {L' : List Blk} (K : St w L D W) (hd : o.dst = none) (ty : TypeId) (x y : Operand) (ho : o.op = .store ty x y) {b off : Nat} {cs cs' : Array Value} {t : TypeId} (u : Value) (hx : a.eval x = .pointer (some ⟨b, off, none⟩)) (hy : a.eval y = u) (hu : u.cells = #[u])
 (hU : Upd b cs t cs' L L') (hcs : cs.setIfInBounds off u = cs') (hi : (P.info? ty).map (·.size) = some 1) (hfit : off < cs.size) (h1 : u.oneCell' = true) (h : ∀ W', St w L' D W' → KK a W') : o.wp P a W KK Q := by
 obtain ⟨W', r1, r2, r3⟩ := run_storeVar_any (P := P) (off := off) ty u (K.blk hU.mem) (by rw [hi, hu]; rfl) (by rw [hu]; simpa using Nat.succ_le_of_lt hfit) (fun z hz => by rw [hu] at hz; simp at hz; rw [hz]; exact h1)
 have e : spl cs off u.cells.toList = cs' := by rw [hu]; exact hcs
 rw [e] at r2
 unfold Oper.wp execOp
 simp only [ho, hx, hy, Instr.storeAt, Instr.sureAddr, Sem.run_bind, Sem.run_pure, Result.andThen_ok, r1]
 have := h W' (K.upd hU r3 r2)
 have e : a.put o.dst undef = a := by rw [hd]; rfl
 first | exact this | (rw [e]; exact this) | (simp only [Oper.upon]; first | exact this | (rw [e]; exact this))
end
theorem wpAnyT.two {P : Program} {ops : Array Oper} {Q : Exit → Act → World → Prop} {md : Region.Mode} {S : World → Prop} {n i j : Nat} {oi oj : Oper} {fuel : Nat} {listed : Array Bool} {a : Act} {w : World} (hi : ops[i]? = some oi) (hj : ops[j]? = some oj) (hg : oi.guard = none) (hg' : oj.guard = none) (hB : (decide (i ≠ n) && decide (j ≠ n) && decide (Region.ready md ops listed = [i, j])) = true)
 (h : ∀ K : Act → World → Prop, Hid (∀ a' w', S w' → (S w' → wpAnyT P md ops Q S n fuel (listed.setIfInBounds i true) a' w') → K a' w') → oi.wp P a w K Q)
 (h' : ∀ K : Act → World → Prop, Hid (∀ a' w', S w' → (S w' → wpAnyT P md ops Q S n fuel (listed.setIfInBounds j true) a' w') → K a' w') → oj.wp P a w K Q) : wpAnyT P md ops Q S n (fuel + 1) listed a w := by
 simp only [Bool.and_eq_true, decide_eq_true_eq] at hB
 refine ⟨(fun h0 => by rw [hB.2] at h0; cases h0), fun k hk => ?_⟩
 rw [hB.2] at hk
 have hw : ∀ o : Oper, o.guard = none → Region.wanted o (yielded ops a.tmps) = true := fun o hg => by simp [Region.wanted, hg]
 rcases List.mem_cons.1 hk with rfl | hk
 · unfold wpOp
   simp only [hi, hw oi hg, if_true]
   exact Or.inl (h _ (Lib.hid fun a' w' hS hW => ⟨fun _ => hS, hW hS⟩))
 · rw [List.mem_singleton] at hk
   subst hk
   unfold wpOp
   simp only [hj, hw oj hg', if_true]
   exact Or.inl (h' _ (Lib.hid fun a' w' hS hW => ⟨fun _ => hS, hW hS⟩))
theorem row_zero : (Tryz.prog.info? 56).map (fun i => i.zero.map (·.cells)) = some (some #[.slice none 0 0, .int .i64 0, .slice none 0 0, .int .i64 0, .slice none 0 0]) := by kernel_rfl
theorem row_size : (Tryz.prog.info? 56).map (·.size) = some 5 := by kernel_rfl
section
variable {w W W' : World} {L L' A B X : List Blk} {D : List Hl}
theorem St.mid {x : Blk} (K : St w (x :: (A ++ B)) D W) : St w (A ++ (x :: B)) D W := K.perm List.perm_middle
theorem St.cutm {x : Blk} (K : St w (A ++ (x :: B)) D W) : St w (A ++ B) D W := K.part (List.Sublist.append_left (List.sublist_cons_self _ _) _)
end
theorem OwL.shapeL {α : Type} {sz : Nat} {enc : α → List Value} {e : TypeId} {v : Value} {l : List α} {X : List Blk} (h : OwL sz enc e v l X) : ∃ A c, v = .slice A l.length c := by
 rcases h with ⟨rfl, rfl, _⟩ | ⟨g, cap, J, rfl, _⟩
 · exact ⟨_, _, rfl⟩
 · exact ⟨_, _, rfl⟩
def sfE : Enc (List Fv) := fun w B x cs => ∃ A n c, cs = [.slice A n c] ∧ RdF w B A n c x
abbrev RdFF := Rd 1 sfE
def ElimO (w : World) (n : Nat) (stop : Bool) (m0 : Mx) (e : Ending) (w' : World) : Prop :=
 ∃ (mb : Nat) (A : Option Addr) (cc : Nat) (Af : Option Addr) (cf : Nat) (b : Bool) (fr : List Nat) (m' : Mx), e = .returned (.tuple #[.pointer (some ⟨mb, 0, none⟩), .slice Af (List.length fr) cf]) ∧ Below w.heap.size w w' ∧ (w'.cell? ⟨mb, 0, none⟩ = some (.slice A n cc) ∧ w'.cell? ⟨mb, 2, none⟩ = some (.bool b)) ∧ RdI w' w'.heap.size Af fr.length cf (fr.map fun c : Nat => (c : Int)) ∧
  (b = true → elimF n stop n m0 [] = none) ∧ (b = false → elimF n stop n m0 [] = some (m', fr) ∧ (∀ i k, i < n → k < n + 1 → fitsF (m' i k) = true) ∧ RdFF w' w'.heap.size A n cc (ofF n fun i => ofF (n + 1) fun k => fvQ (m' i k)))
theorem Mm.rdRow {w W : World} {L : List Blk} {D : List Hl} {M : Mm} {n i : Nat} {m : Mx} (K : St w L D W) (hm : M.fam n ∈ D) (hi : i < n) (hb : ((M.rb i, rwA M.N (M.V i) (M.J i), 50) : Blk) ∈ L) (hg : M.good n m) (hN : M.N = n + 1) (hc : M.N ≤ M.cp i ∧ M.cp i ≤ 9223372036854775807) (hn : n ≤ 1000) :
 RdF W W.heap.size (some ⟨M.rb i, 0, none⟩) M.N (M.cp i) (ofF (n + 1) fun k => fvQ (m i k)) := by
 have hB := K.blk hb
 refine ⟨by rw [ofF_len, hN], hc.1, ⟨hc.2, by omega⟩, fun _ => ⟨M.rb i, 0, rfl, hB.lt, fun k hk => ?_⟩⟩
 rw [ofF_len] at hk
 refine ⟨(M.V i k).cs, ?_, rfl, fun j u hu => ?_⟩
 · have e : (ofF (n + 1) fun k => fvQ (m i k))[k]'(by rw [ofF_len]; exact hk) = (M.V i k).fv := by
    have := ofF_get (f := fun k => fvQ (m i k)) hk
    rw [List.getElem?_eq_getElem (by rw [ofF_len]; exact hk)] at this
    rw [Option.some.inj this]
    exact ((hg i k hi (by omega)).1.fv).symm
   rw [e]
   have := K.famOn (M := M) hm hi (j := k) (by omega)
   exact ⟨_, _, _, _, _, _, rfl, this.1, this.2⟩
 · have hj : j < 4 := (List.getElem?_eq_some_iff.1 hu).1
   rw [Nat.zero_add]
   exact hB.cell ((rwA_get (by omega) hj).trans hu)
theorem ElimO.mk {w W : World} {n mb hb hc : Nat} {HJ : List Value} {stop b : Bool} {m0 m' : Mx} {M : Mm} {fr : List Nat} {Xf : List Blk} {vf : Value} (K : St w ((mb, #[.slice (some ⟨hb, 0, none⟩) n hc, .int .i64 n, .bool b], 67) :: (hb, recA Hd.cs n (M.hd n) HJ, 23) :: (M.rows n ++ Xf)) [M.fam n] W) (hcp : M.caps n) (hn : n ≤ 1000) (hfr : fr.length ≤ n) (ho : OwL 1 iEnc 3 vf (fr.map fun c : Nat => (c : Int)) Xf) (hcc : n ≤ hc ∧ hc ≤ 9223372036854775807)
 (h1 : b = true → elimF n stop n m0 [] = none) (h2 : b = false → elimF n stop n m0 [] = some (m', fr) ∧ M.good n m') : ElimO w n stop m0 (.returned (.tuple #[.pointer (some ⟨mb, 0, none⟩), vf])) W := by
 have K3 : St w (Xf ++ (_ :: _ :: M.rows n)) [M.fam n] W := K.perm List.perm_append_comm
 obtain ⟨Af, cf, hv, hr⟩ := (ho.own iSized K3).rd iSized (by rw [List.length_map]; omega)
 rw [List.length_map] at hv hr
 subst hv
 have hB := K.blk (b := mb) ZMB
 have hH := K.blk (b := hb) ZMB
 refine ⟨mb, some ⟨hb, 0, none⟩, hc, Af, cf, b, fr, m', rfl, K.1, ⟨hB.cell rfl, hB.cell rfl⟩, hr, h1, fun hb0 => ?_⟩
 obtain ⟨g1, g2⟩ := h2 hb0
 refine ⟨g1, fun i k hi hk => (g2 i k hi (by have := hcp.1; omega)).2, ofF_len, hcc.1, ⟨hcc.2, by omega⟩, fun _ => ⟨hb, 0, rfl, hH.lt, fun k hk => ?_⟩⟩
 rw [ofF_len] at hk
 refine ⟨[.slice (some ⟨M.rb k, 0, none⟩) M.N (M.cp k)], ?_, rfl, fun j u hu => ?_⟩
 · have e : (ofF n fun i => ofF (n + 1) fun k => fvQ (m' i k))[k]'(by rw [ofF_len]; exact hk) = ofF (n + 1) fun j => fvQ (m' k j) := by
    have := ofF_get (f := fun i => ofF (n + 1) fun k => fvQ (m' i k)) hk
    exact ZQ38
   rw [e]
   exact ⟨_, _, _, rfl, Mm.rdRow K List.mem_cons_self hk (List.mem_cons_of_mem _ (List.mem_cons_of_mem _ (Mm.mem hk))) g2 hcp.1 (hcp.2 k hk) hn⟩
 · have hj : j = 0 := by
    have : j < 1 := (List.getElem?_eq_some_iff.1 hu).1
    omega
   subst hj
   rw [Nat.zero_add, Nat.mul_one, Nat.add_zero]
   exact (hH.cell (hdA_get hk)).trans hu
end Go.Proofs.YtdlcglndhhndpaaGreat
