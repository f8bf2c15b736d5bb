/- Laws and walks; conditions stand in each theorem. -/
import Derived.Test.YtdlcglndhhndpaaGreatP35
import Derived.Test.YtdlcglndhhndpaaGreatP42
import Derived.Test.YtdlcglndhhndpaaGreatP40
import Derived.Test.YtdlcglndhhndpaaGreatP22
import Derived.Test.YtdlcglndhhndpaaGreatP36
set_option linter.unusedSimpArgs false
set_option linter.unusedVariables false
set_option maxHeartbeats 8000000
set_option maxRecDepth 100000
namespace Go.Proofs.YtdlcglndhhndpaaGreat
open Go.RowKit
section
variable {w0 W : World} {L : List Blk} {D : List Hl}
theorem callMulG {Y Z : Rw} {f q : Rat} (K : St w0 L D W) (hY : isQ Y f) (hZ : isQ Z q) (m1 : (⟨rdP Y.A Y.n Y.c Y.l, rdS Y.A Y.n⟩ : Hl) ∈ D) (m2 : (⟨rdP Y.B Y.m Y.d Y.k, rdS Y.B Y.m⟩ : Hl) ∈ D) (m3 : (⟨rdP Z.A Z.n Z.c Z.l, rdS Z.A Z.n⟩ : Hl) ∈ D) (m4 : (⟨rdP Z.B Z.m Z.d Z.k, rdS Z.B Z.m⟩ : Hl) ∈ D) :
 Calls Tryz.prog 55 #[.agg #[.int .i64 Y.s, .slice Y.A Y.n Y.c, .int .i64 Y.t, .slice Y.B Y.m Y.d], .agg #[.int .i64 Z.s, .slice Z.A Z.n Z.c, .int .i64 Z.t, .slice Z.B Z.m Z.d]] W (FrT w0 L D (MulS f q)) := by
 obtain ⟨o, ho⟩ : ∃ o, o = mulO1 f q := ⟨_, rfl⟩
 obtain ⟨er, her⟩ : ∃ er, er = mulE1 f q := ⟨_, rfl⟩
 have h := gMul_any Y.s Y.t Z.s Z.t Y.A Y.B Z.A Z.B Y.n Y.c Y.m Y.d Z.n Z.c Z.m Z.d Y.l Y.k Z.l Z.k W (K.rd m1) (K.rd m2) (K.rd m3) (K.rd m4)
 rw [hY.1.right hY.2, hZ.1.right hZ.2, hY.1.rat, hZ.1.rat] at h
 have e1 : binO (true && true) (mulK f q) (f * q) = o := by
  rw [ho]
  unfold mulO1 binO
  simp
 have e2 : binE (true && true) (mulK f q) = er := by
  rw [her]
  unfold mulE1 binE
  simp
 rw [e1, e2] at h
 have HS := fun y : Rw => mulS (y := y) ho her
 clear ho her e1 e2
 exact h.mono fun e W' ⟨s31, A31, n31, c31, l31, t31, B31, m31, d31, k31, he, ⟨hra, hrb⟩, hop, ⟨hfa, hfb⟩, hbb⟩ => ⟨⟨s31, A31, n31, c31, l31, t31, B31, m31, d31, k31⟩, er, he, Lib.hid (HS _ hop), K.retF hbb hra hrb hfa hfb⟩
theorem callAddG {Y Z : Rw} {f q : Rat} (K : St w0 L D W) (hY : isQ Y f) (hZ : isQ Z q) (m1 : (⟨rdP Y.A Y.n Y.c Y.l, rdS Y.A Y.n⟩ : Hl) ∈ D) (m2 : (⟨rdP Y.B Y.m Y.d Y.k, rdS Y.B Y.m⟩ : Hl) ∈ D) (m3 : (⟨rdP Z.A Z.n Z.c Z.l, rdS Z.A Z.n⟩ : Hl) ∈ D) (m4 : (⟨rdP Z.B Z.m Z.d Z.k, rdS Z.B Z.m⟩ : Hl) ∈ D) :
 Calls Tryz.prog 56 #[.agg #[.int .i64 Y.s, .slice Y.A Y.n Y.c, .int .i64 Y.t, .slice Y.B Y.m Y.d], .agg #[.int .i64 Z.s, .slice Z.A Z.n Z.c, .int .i64 Z.t, .slice Z.B Z.m Z.d]] W (fun e W' => ∃ y er, e = Ending.returned (.tuple #[.agg #[.int .i64 y.s, .slice y.A y.n y.c, .int .i64 y.t, .slice y.B y.m y.d], .int .i64 er]) ∧ Hid (AddS f q y er ∧ FrA w0.heap.size y.A ∧ FrA w0.heap.size y.B) ∧ St w0 L (⟨rdP y.B y.m y.d y.k, rdS y.B y.m⟩ :: ⟨rdP y.A y.n y.c y.l, rdS y.A y.n⟩ :: D) W') := by
 obtain ⟨o, ho⟩ : ∃ o, o = binO true (addK f q) (f + q) := ⟨_, rfl⟩
 obtain ⟨er, her⟩ : ∃ er, er = binE true (addK f q) := ⟨_, rfl⟩
 have h := gAdd_any Y.s Y.t Z.s Z.t Y.A Y.B Z.A Z.B Y.n Y.c Y.m Y.d Z.n Z.c Z.m Z.d Y.l Y.k Z.l Z.k W (K.rd m1) (K.rd m2) (K.rd m3) (K.rd m4)
 rw [hY.1.right hY.2, hZ.1.right hZ.2, hY.1.rat, hZ.1.rat, Bool.and_true, ← ho, ← her] at h
 have HS := fun y : Rw => addS (y := y) ho her
 clear ho her
 exact h.mono fun e W' ⟨s31, A31, n31, c31, l31, t31, B31, m31, d31, k31, he, ⟨hra, hrb⟩, hop, ⟨hfa, hfb⟩, hbb⟩ => ⟨⟨s31, A31, n31, c31, l31, t31, B31, m31, d31, k31⟩, er, he, Lib.hid ⟨HS _ hop, fun a ha => Nat.le_trans K.1.size (hfa a ha), fun a ha => Nat.le_trans K.1.size (hfb a ha)⟩, K.retF hbb hra hrb hfa hfb⟩
theorem callOfN (p : Int) (hp : -9223372036854775808 ≤ p ∧ p ≤ 9223372036854775807) (hf : fitsF ((p : Int) : Rat) = true) (h : St w0 L D W) : Calls Tryz.prog 66 #[.int .i64 p] W fun e W6 => ∃ z : Rw, e = Ending.returned (.agg #[.int .i64 z.s, .slice z.A z.n z.c, .int .i64 z.t, .slice z.B z.m z.d]) ∧ Hid (isQ z ((p : Int) : Rat) ∧ FrA w0.heap.size z.A ∧ FrA w0.heap.size z.B) ∧ St w0 L (⟨rdP z.B z.m z.d z.k, rdS z.B z.m⟩ :: ⟨rdP z.A z.n z.c z.l, rdS z.A z.n⟩ :: D) W6 :=
 (of9_any p W hp).mono fun e W6 ⟨s7, A7, n7, c7, l7, t7, B7, m7, d7, k7, he, ⟨hra, hrb⟩, ho, ⟨hfa, hfb⟩, hbl⟩ => ⟨⟨s7, A7, n7, c7, l7, t7, B7, m7, d7, k7⟩, he, Lib.hid ⟨(⟨ho, hf⟩ : isQ ⟨s7, A7, n7, c7, l7, t7, B7, m7, d7, k7⟩ _), fun a ha => Nat.le_trans h.1.size (hfa a ha), fun a ha => Nat.le_trans h.1.size (hfb a ha)⟩, h.retF hbl hra hrb hfa hfb⟩
end
def SumR (w : World) (n : Nat) (x y : Nat → Rat) (e : Ending) (w' : World) : Prop :=
 ∃ (z : Rw) (ok : Bool), e = .returned (.tuple #[.agg #[.int .i64 z.s, .slice z.A z.n z.c, .int .i64 z.t, .slice z.B z.m z.d], .bool ok]) ∧ ok = prdK x y n ∧ (ok = true → isQ z (smQ (fun i => x i * y i) n)) ∧ (RdI w' w'.heap.size z.A z.n z.c z.l ∧ RdI w' w'.heap.size z.B z.m z.d z.k) ∧ (FrA w.heap.size z.A ∧ FrA w.heap.size z.B) ∧ Below w.heap.size w w'
theorem sum9_any (A B : Option Addr) (n cap cap' : Nat) (a b : List Fv) (w : World) (ha : RdF w w.heap.size A n cap a) (hb : RdF w w.heap.size B n cap' b) (hn : n ≤ 1000) (hoa : a.all Fv.ok = true) (hob : b.all Fv.ok = true) :
 Calls Tryz.prog 31 #[.slice A n cap, .slice B n cap'] w (SumR w n (fvR a) (fvR b)) := by
 have hcap := ha.caps
 have hcap2 := hb.caps
 obtain ⟨v, hv, K0⟩ := (St.start w).fxOld hb
 obtain ⟨u, hu, K⟩ := K0.fxOld ha
 have HQu := Lib.hid (show ∀ j, j < n → isQ (u j) (fvR a j) from fun j hj => by
  have h1 := hu j hj
  have h2 : (u j).fv.ok = true := List.all_eq_true.1 hoa _ (List.mem_of_getElem? h1)
  unfold fvR
  rw [h1, Option.map_some, Option.getD_some]
  exact fv_std h2)
 have HQv := Lib.hid (show ∀ j, j < n → isQ (v j) (fvR b j) from fun j hj => by
  have h1 := hv j hj
  have h2 : (v j).fv.ok = true := List.all_eq_true.1 hob _ (List.mem_of_getElem? h1)
  unfold fvR
  rw [h1, Option.map_some, Option.getD_some]
  exact fv_std h2)
 clear ha hb hoa hob hu hv K0
 obtain ⟨x, hx⟩ : ∃ x, x = fvR a := ⟨_, rfl⟩
 obtain ⟨y, hy⟩ : ∃ y, y = fvR b := ⟨_, rfl⟩
 rw [← hx] at HQu
 rw [← hy] at HQv
 rw [← hx, ← hy]
 clear hx hy
 have r := K.raw
 go_enter Tryz.func31, Tryz.ntmps31
 go_wp2_with (first | (refine ZAL ?_; clear K r; (first | ((fail_if_success revert b0); intro W b0 K r) | ((fail_if_success revert b1); intro W b1 K r) | intro W b K r)) | (refine ZST ?_; clear K r; intro W K r))
 refine (callOfN 0 (by decide) (by decide +kernel) K).mono ?_
 rintro e V1 ⟨z, rfl, gz, k1⟩
 replace K := k1
 clear k1 r
 have r := K.rawS
 go_wp2_with (first | (refine ZAL ?_; clear K r; (first | ((fail_if_success revert b0); intro W b0 K r) | ((fail_if_success revert b1); intro W b1 K r) | intro W b K r)) | (refine ZST ?_; clear K r; intro W K r))
 go_loopg [7] n (fun gk s7 wr => ∃ (k : Nat) (z : Rw), k ≤ n ∧ gk = n - k ∧ s7 = .int .i64 k ∧ Hid (prdK x y k = true) ∧ Hid (isQ z (smQ (fun i => x i * y i) k) ∧ FrA w.heap.size z.A ∧ FrA w.heap.size z.B) ∧ St w [((b1, #[.int .i64 z.s, .slice z.A z.n z.c, .int .i64 z.t, .slice z.B z.m z.d], 50) : Blk), (b0, #[.int .i64 0, .slice none 0 0, .int .i64 0, .slice none 0 0], 50)] (⟨rdP z.B z.m z.d z.k, rdS z.B z.m⟩ :: ⟨rdP z.A z.n z.c z.l, rdS z.A z.n⟩ :: [(⟨fxP A n cap u, fxS A n u⟩ : Hl), ⟨fxP B n cap' v, fxS B n v⟩]) wr)
 case atStart => exact ⟨0, z, Nat.zero_le _, rfl, rfl, Lib.hid rfl, Lib.hid (by rw [smQ]; exact gz.out), K⟩
 case round =>
  clear K r gz
  obtain ⟨k, z, hk, rfl, rfl, HP, HZ, K⟩ := hrel
  have r := K.rawS
  by_cases hlt : k < n
  · have hki : (k : Int) < (n : Int) := by omega
    have hk0 : (0 : Int) ≤ (k : Int) := by omega
    have hltd : decide (k < n) = true := decide_eq_true hlt
    obtain ⟨ab, ao, hA⟩ := K.fxAt (A := A) (n := n) (cap := cap) (v := u) ZMB (by omega)
    obtain ⟨bb, bo, hB⟩ := K.fxAt (A := B) (n := n) (cap := cap') (v := v) ZMB (by omega)
    subst hA hB
    have K := (K.fxRd (n := n) (v := u) (i := k) ZMB hlt).fxRd (n := n) (v := v) (i := k) ZMB hlt
    go_upto_region 5 with fail
    have HS := Lib.hid (fun V L5 D5 (h : St w L5 D5 V) (m5 : (⟨fxP (some ⟨ab, ao, none⟩) n cap u, fxS (some ⟨ab, ao, none⟩) n u⟩ : Hl) ∈ D5) (m6 : (⟨fxP (some ⟨bb, bo, none⟩) n cap' v, fxS (some ⟨bb, bo, none⟩) n v⟩ : Hl) ∈ D5) => (show (V.cell? ⟨ab, ao + k * 4, none⟩ = some (.int .i64 (u k).s) ∧ V.cell? ⟨ab, ao + k * 4 + 1, none⟩ = some (.slice (u k).A (u k).n (u k).c) ∧ V.cell? ⟨ab, ao + k * 4 + 2, none⟩ = some (.int .i64 (u k).t) ∧ V.cell? ⟨ab, ao + k * 4 + 3, none⟩ = some (.slice (u k).B (u k).m (u k).d)) ∧ (V.cell? ⟨bb, bo + k * 4, none⟩ = some (.int .i64 (v k).s) ∧ V.cell? ⟨bb, bo + k * 4 + 1, none⟩ = some (.slice (v k).A (v k).n (v k).c) ∧ V.cell? ⟨bb, bo + k * 4 + 2, none⟩ = some (.int .i64 (v k).t) ∧ V.cell? ⟨bb, bo + k * 4 + 3, none⟩ = some (.slice (v k).B (v k).m (v k).d)) from ⟨h.fxCell m5 hlt, h.fxCell m6 hlt⟩))
    have HMu := Lib.hid (fun V L5 D5 (h : St w L5 D5 V) (m1 : (⟨rdP (u k).A (u k).n (u k).c (u k).l, rdS (u k).A (u k).n⟩ : Hl) ∈ D5) (m2 : (⟨rdP (u k).B (u k).m (u k).d (u k).k, rdS (u k).B (u k).m⟩ : Hl) ∈ D5) (m3 : (⟨rdP (v k).A (v k).n (v k).c (v k).l, rdS (v k).A (v k).n⟩ : Hl) ∈ D5) (m4 : (⟨rdP (v k).B (v k).m (v k).d (v k).k, rdS (v k).B (v k).m⟩ : Hl) ∈ D5) => callMulG h (HQu.out k hlt) (HQv.out k hlt) m1 m2 m3 m4)
    have K0 := K.drew
    have s0 := HS.out _ _ _ K0 ZMB ZMB
    clear K r
    refine wp_region_P 13 (fun V => (V.cell? ⟨ab, ao + k * 4, none⟩ = some (.int .i64 (u k).s) ∧ V.cell? ⟨ab, ao + k * 4 + 1, none⟩ = some (.slice (u k).A (u k).n (u k).c) ∧ V.cell? ⟨ab, ao + k * 4 + 2, none⟩ = some (.int .i64 (u k).t) ∧ V.cell? ⟨ab, ao + k * 4 + 3, none⟩ = some (.slice (u k).B (u k).m (u k).d)) ∧ (V.cell? ⟨bb, bo + k * 4, none⟩ = some (.int .i64 (v k).s) ∧ V.cell? ⟨bb, bo + k * 4 + 1, none⟩ = some (.slice (v k).A (v k).n (v k).c) ∧ V.cell? ⟨bb, bo + k * 4 + 2, none⟩ = some (.int .i64 (v k).t) ∧ V.cell? ⟨bb, bo + k * 4 + 3, none⟩ = some (.slice (v k).B (v k).m (v k).d))) (by kernel_rfl) s0 (fun hSh => ?_)
    clear s0
    generalize World.drew wr = V0 at K0 hSh ⊢
    refine wpAnyP.tkU 0 rfl ?_
    refine wpAnyP.tkU 1 rfl ?_
    refine wpAnyP.tkU 2 rfl ?_
    refine wpAnyP.tk 3 rfl ?_
    refine wpAnyP.tkU 4 rfl ?_
    refine wpAnyP.tkU 5 rfl ?_
    refine wpAnyP.tkU 6 rfl ?_
    refine wpAnyP.tk 7 rfl ?_
    refine wpAnyP.two (i := 8) (j := 12) rfl rfl rfl rfl (by kernel_rfl) (fun KK hKK => ?_) (fun KK hKK => ?_)
    focus
     go_simp
     go_at_call 55
     refine (HMu.out _ _ _ K0 ZMB ZMB ZMB ZMB).mono ?_
     rintro e V1 ⟨y1, er1, rfl, gy1, k1⟩
     go_wp2_with fail
     refine hKK.out _ _ (fun _ => HS.out _ _ _ k1 ZMB ZMB) (fun hSq => ?_)
     have hSh := HS.out _ _ _ k1 ZMB ZMB
     clear hKK KK hSq
     refine ZPT ?_
     refine wpAnyP.tkU 9 rfl ?_
     refine wpAnyP.tkU 10 rfl ?_
     refine wpAnyP.tkU 11 rfl ?_
     refine wpAnyP.on 12 rfl fun KK hKK => ?_
     go_simp
     have k2 := k1.new #[.int .i64 0, .slice none 0 0, .int .i64 0, .slice none 0 0] 50
     generalize V1.alloc (.cells #[.int .i64 0, .slice none 0 0, .int .i64 0, .slice none 0 0] 50) = V2 at k2 ⊢
     generalize V1.heap.size = g at k2 ⊢
     refine hKK.out _ _ (fun _ => HS.out _ _ _ k2 ZMB ZMB) (fun hSq => ?_)
     have hSh := HS.out _ _ _ k2 ZMB ZMB
     clear hKK KK hSq
     refine ZPT ?_
    rotate_right
    focus
     go_simp
     have k1 := K0.new #[.int .i64 0, .slice none 0 0, .int .i64 0, .slice none 0 0] 50
     generalize V0.alloc (.cells #[.int .i64 0, .slice none 0 0, .int .i64 0, .slice none 0 0] 50) = V1 at k1 ⊢
     generalize V0.heap.size = g at k1 ⊢
     refine hKK.out _ _ (fun _ => HS.out _ _ _ k1 ZMB ZMB) (fun hSq => ?_)
     have hSh := HS.out _ _ _ k1 ZMB ZMB
     clear hKK KK hSq
     refine ZPT ?_
     refine wpAnyP.on 8 rfl fun KK hKK => ?_
     go_simp
     go_at_call 55
     refine (HMu.out _ _ _ k1 ZMB ZMB ZMB ZMB).mono ?_
     rintro e V2 ⟨y1, er1, rfl, gy1, k2⟩
     go_wp2_with fail
     refine hKK.out _ _ (fun _ => HS.out _ _ _ k2 ZMB ZMB) (fun hSq => ?_)
     have hSh := HS.out _ _ _ k2 ZMB ZMB
     clear hKK KK hSq
     refine ZPT ?_
     refine wpAnyP.tkU 9 rfl ?_
     refine wpAnyP.tkU 10 rfl ?_
     refine wpAnyP.tkU 11 rfl ?_
    all_goals
     refine wpAnyP.onF 13 rfl fun KK hKK => ?_
     have r := k2.rawS
     have zz := k2.thaw (g := g) (cs := #[.int .i64 0, .slice none 0 0, .int .i64 0, .slice none 0 0]) (t := 50) ZMB
     go_simp
     have K9 := k2.set4Z (b := g) (t := 50) (x0 := .int .i64 0) (x1 := .slice none 0 0) (x2 := .int .i64 0) (x3 := .slice none 0 0) (u0 := .int .i64 y1.s) (u1 := .slice y1.A y1.n y1.c) (u2 := .int .i64 y1.t) (u3 := .slice y1.B y1.m y1.d) (Upd.head _)
     refine hKK.out _ _ ?_
     clear hKK KK r zz
     refine ZPT ?_
     refine wpAnyP.tkF 14 rfl ?_
     refine ⟨by kernel_rfl, ?_⟩
     generalize ((((V2.setCell ⟨g, 0, none⟩ (.int .i64 y1.s)).setCell ⟨g, 1, none⟩ (.slice y1.A y1.n y1.c)).setCell ⟨g, 2, none⟩ (.int .i64 y1.t)).setCell ⟨g, 3, none⟩ (.slice y1.B y1.m y1.d)) = W9 at K9 ⊢
     clear k2 hSh HS HMu
     have K := K9
     clear K9
     have r := K.rawS
     by_cases he : er1 = 0
     · subst he
       have gz1 := Lib.hid (gy1.out.1 rfl)
       have HM := Lib.hid (show mulK (x k) (y k) = true from by simpa using gy1.out.2)
       clear gy1
       go_wp2_with (first | (refine ZAL ?_; clear K r; (first | ((fail_if_success revert b0); intro W b0 K r) | ((fail_if_success revert b1); intro W b1 K r) | intro W b K r)) | (refine ZST ?_; clear K r; intro W K r))
       refine (callAddG K HZ.out.1 gz1.out ZMB ZMB ZMB ZMB).mono ?_
       rintro e V8 ⟨y2, er2, rfl, gy2, k8⟩
       replace K := k8
       clear k8 r gz1
       have r := K.rawS
       by_cases he2 : er2 = 0
       · subst he2
         have HZ2 := Lib.hid (show isQ y2 (smQ (fun i => x i * y i) (k + 1)) ∧ FrA w.heap.size y2.A ∧ FrA w.heap.size y2.B from ⟨by rw [smQ]; exact gy2.out.1.1 rfl, gy2.out.2⟩)
         have HP2 := Lib.hid (show prdK x y (k + 1) = true from by
          have h := gy2.out.1.2
          rw [prdK_succ, HP.out, HM.out]
          simpa using h)
         clear gy2 HZ HP HM
         go_wp2_with (first | (refine ZAL ?_; clear K r; (first | ((fail_if_success revert b0); intro W b0 K r) | ((fail_if_success revert b1); intro W b1 K r) | intro W b K r)) | (refine ZST ?_; clear K r; intro W K r))
         go_roundg (n - (k + 1))
         case rel => exact ⟨k + 1, y2, hlt, rfl, by go_num, HP2, HZ2, (K.lessS (D' := ⟨rdP y2.B y2.m y2.d y2.k, rdS y2.B y2.m⟩ :: ⟨rdP y2.A y2.n y2.c y2.l, rdS y2.A y2.n⟩ :: [(⟨fxP (some ⟨ab, ao, none⟩) n cap u, fxS (some ⟨ab, ao, none⟩) n u⟩ : Hl), ⟨fxP (some ⟨bb, bo, none⟩) n cap' v, fxS (some ⟨bb, bo, none⟩) n v⟩]) (by repeat (first | with_reducible exact List.Sublist.refl _ | with_reducible apply List.Sublist.cons_cons | with_reducible apply List.Sublist.cons))).part (L' := [((b1, #[.int .i64 y2.s, .slice y2.A y2.n y2.c, .int .i64 y2.t, .slice y2.B y2.m y2.d], 50) : Blk), (b0, #[.int .i64 0, .slice none 0 0, .int .i64 0, .slice none 0 0], 50)]) (by repeat (first | with_reducible exact List.Sublist.refl _ | with_reducible apply List.Sublist.cons_cons | with_reducible apply List.Sublist.cons))⟩
         case measure => omega
       · have hx : (er2 != 0) = true := by simpa using he2
         have HN := Lib.hid (show prdK x y n = false from Bool.eq_false_iff.2 fun hp => by
          have h := prdK_pre hp hlt
          rw [prdK_succ, Bool.and_eq_true, Bool.and_eq_true] at h
          have h2 := gy2.out.1.2
          rw [h.2.2, hx] at h2
          cases h2)
         clear gy2 HP HM
         go_wp2_with (first | (refine ZAL ?_; clear K r; (first | ((fail_if_success revert b0); intro W b0 K r) | ((fail_if_success revert b1); intro W b1 K r) | intro W b K r)) | (refine ZST ?_; clear K r; intro W K r))
         have HX := Lib.hid (show SumR w n x y (.returned (.tuple #[.agg #[.int .i64 z.s, .slice z.A z.n z.c, .int .i64 z.t, .slice z.B z.m z.d], .bool false])) _ from ⟨z, false, rfl, HN.out.symm, (fun h => by cases h), ⟨K.rd ZMB, K.rd ZMB⟩, HZ.out.2, K.1⟩)
         have r := K.rawS
         exact bodyPost_ret (v := .tuple #[.agg #[.int .i64 z.s, .slice z.A z.n z.c, .int .i64 z.t, .slice z.B z.m z.d], .bool false]) (by simp [results, Tryz.results31, go_sem, r]) rfl HX.out
     · have hx : (er1 != 0) = true := by simpa using he
       have HN := Lib.hid (show prdK x y n = false from Bool.eq_false_iff.2 fun hp => by
        have h := prdK_pre hp hlt
        rw [prdK_succ, Bool.and_eq_true, Bool.and_eq_true] at h
        have h2 := gy1.out.2
        rw [h.2.1, hx] at h2
        cases h2)
       clear gy1 HP
       go_wp2_with (first | (refine ZAL ?_; clear K r; (first | ((fail_if_success revert b0); intro W b0 K r) | ((fail_if_success revert b1); intro W b1 K r) | intro W b K r)) | (refine ZST ?_; clear K r; intro W K r))
       have HX := Lib.hid (show SumR w n x y (.returned (.tuple #[.agg #[.int .i64 z.s, .slice z.A z.n z.c, .int .i64 z.t, .slice z.B z.m z.d], .bool false])) _ from ⟨z, false, rfl, HN.out.symm, (fun h => by cases h), ⟨K.rd ZMB, K.rd ZMB⟩, HZ.out.2, K.1⟩)
       have r := K.rawS
       exact bodyPost_ret (v := .tuple #[.agg #[.int .i64 z.s, .slice z.A z.n z.c, .int .i64 z.t, .slice z.B z.m z.d], .bool false]) (by simp [results, Tryz.results31, go_sem, r]) rfl HX.out
  · have e : n = k := by omega
    subst e
    have hltd : decide (n < n) = false := decide_eq_false hlt
    clear hlt
    go_wp2_with (first | (refine ZAL ?_; clear K r; (first | ((fail_if_success revert b0); intro W b0 K r) | ((fail_if_success revert b1); intro W b1 K r) | intro W b K r)) | (refine ZST ?_; clear K r; intro W K r))
    have HX := Lib.hid (show SumR w n x y (.returned (.tuple #[.agg #[.int .i64 z.s, .slice z.A z.n z.c, .int .i64 z.t, .slice z.B z.m z.d], .bool true])) _ from ⟨z, true, rfl, HP.out.symm, (fun _ => HZ.out.1), ⟨K.rd ZMB, K.rd ZMB⟩, HZ.out.2, K.1⟩)
    have r := K.rawS
    exact bodyPost_ret (v := .tuple #[.agg #[.int .i64 z.s, .slice z.A z.n z.c, .int .i64 z.t, .slice z.B z.m z.d], .bool true]) (by simp [results, Tryz.results31, go_sem, r]) rfl HX.out
theorem ZQ27 {p : Prop} (h : p := by
 first
  | (go_enter Tryz.func30, Tryz.ntmps30
     go_wp2_with (first
      | (apply K.box; rfl; rfl; rfl; clear K; intro W b0 K; have c0 := (K.blk (b := b0) (cs := #[.slice A n cap, .slice A' m cap']) (t := 38) ZMB).cell (j := 0) rfl; have c1 := (K.blk (b := b0) (cs := #[.slice A n cap, .slice A' m cap']) (t := 38) ZMB).cell (j := 1) rfl)
      | (go_at_call 77; refine (HLe.out _ K.1).mono ?_; rintro e W ⟨rfl, hb1⟩; replace K := K.keep hb1; clear c0 c1 hb1; have c0 := (K.blk (b := b0) (cs := #[.slice A n cap, .slice A' m cap']) (t := 38) ZMB).cell (j := 0) rfl; have c1 := (K.blk (b := b0) (cs := #[.slice A n cap, .slice A' m cap']) (t := 38) ZMB).cell (j := 1) rfl)
      | (go_at_call 78; refine (HBe.out _ K.1).mono ?_; rintro e W ⟨rfl, hb1⟩; replace K := K.keep hb1; clear c0 c1 hb1))
     go_ret
     exact ⟨by rw [HV.out]; first | done | rfl, K.1⟩)
  | fail) : p := h
theorem ZQ90 {p : Prop} (h : p := by
 first
  | (have HN := Lib.hid (show belB m n (rwA2 ls) (rwB2 ls false) (fvR x) = false from sumsB_bad hlt HBad.out)
     clear HBad HS
     go_wp2_with fail
     go_ret
     exact ⟨by rw [HN.out]; rfl, K.1⟩)
  | fail) : p := h
def solW (n m : Nat) (ls : List Rv) (o : List Fv) : Bool := (decide (o.length = n) && o.all fnF) && belB m n (rwA2 ls) (rwB2 ls false) (fvR o)
theorem callCmpG {w0 W : World} {L : List Blk} {D : List Hl} {Y Z : Rw} {f q : Rat} (K : St w0 L D W) (hY : isQ Y f) (hZ : isQ Z q) (m1 : (⟨rdP Y.A Y.n Y.c Y.l, rdS Y.A Y.n⟩ : Hl) ∈ D) (m2 : (⟨rdP Y.B Y.m Y.d Y.k, rdS Y.B Y.m⟩ : Hl) ∈ D) (m3 : (⟨rdP Z.A Z.n Z.c Z.l, rdS Z.A Z.n⟩ : Hl) ∈ D) (m4 : (⟨rdP Z.B Z.m Z.d Z.k, rdS Z.B Z.m⟩ : Hl) ∈ D) :
 Calls Tryz.prog 32 #[.agg #[.int .i64 Y.s, .slice Y.A Y.n Y.c, .int .i64 Y.t, .slice Y.B Y.m Y.d], .agg #[.int .i64 Z.s, .slice Z.A Z.n Z.c, .int .i64 Z.t, .slice Z.B Z.m Z.d]] W fun e W' => e = .returned (.int .i64 (cmpQ f q)) ∧ St w0 L D W' := by
 have h := gCompare_any Y.s Y.t Z.s Z.t Y.A Y.B Z.A Z.B Y.n Y.c Y.m Y.d Z.n Z.c Z.m Z.d Y.l Y.k Z.l Z.k W (K.rd m1) (K.rd m2) (K.rd m3) (K.rd m4)
 rw [hY.1.right hY.2, hZ.1.right hZ.2, hY.1.rat, hZ.1.rat] at h
 exact h.mono fun e W' ⟨he, hb⟩ => ⟨he, K.keep hb⟩
theorem below9_any (A A' B : Option Addr) (n cap m cap' cx : Nat) (ls : List Rv) (x : List Fv) (w : World)
 (hr : RdR w w.heap.size A' m cap' ls) (hx : RdF w w.heap.size B n cx x) (hrow : ∀ (k : Nat) (X : Rv), ls[k]? = some X → rowF n X = true) (hox : x.all Fv.ok = true) (hn : n ≤ 1000) :
 Calls Tryz.prog 78 #[.agg #[.slice A n cap, .slice A' m cap'], .slice B n cx, .bool false] w fun e w' => e = .returned (.bool (belB m n (rwA2 ls) (rwB2 ls false) (fvR x))) ∧ Below w.heap.size w w' := by
 have HL := Lib.hid hr
 have HX := Lib.hid (fun W (h : Below w.heap.size w W) => hx.up fE_lasts h)
 have HRow := Lib.hid hrow
 have HOx := Lib.hid hox
 have hcap' := hr.caps
 have hcx := hx.caps
 have K := St.start w
 have r := K.raw
 clear hr hx hrow hox
 go_enter Tryz.func78, Tryz.ntmps78
 go_wp2_with (first | (apply K.box; rfl; rfl; rfl; clear K r; intro W b0 K; have r := K.rawS) | (apply K.alloc; rfl; rfl; exact frac_zero; clear K r; intro W b1 K; have r := K.rawS) | (apply K.storeA; rfl; rfl; rfl; rfl; rfl; (exact ZUP); exact frac_size; rfl; rfl; rfl; clear K r; intro W K; have r := K.rawS))
 go_loopg [7] m (fun gk s7 wr => ∃ (k : Nat), k ≤ m ∧ gk = m - k ∧ s7 = .int .i64 k ∧ Hid (sumsB (fun i => prdK (rwA2 ls i) (fvR x) n) (fun i => decide (smQ (fun j => rwA2 ls i j * fvR x j) n ≤ rwB2 ls false i)) k = true) ∧ St w [((b0, #[.slice A n cap, .slice A' m cap'], 38) : Blk)] [] wr)
 case atStart => exact ⟨0, Nat.zero_le _, rfl, rfl, Lib.hid rfl, K⟩
 case round =>
  clear K r
  obtain ⟨k, hk, rfl, rfl, HS, K⟩ := hrel
  by_cases hlt : k < m
  · obtain ⟨eb, eo, A0, n0, c0, A1, n1, c1, A2, n2, c2, X, hA, hbB, hX, ⟨z0, z1, z2, z3, z4⟩, r0, r1, r2⟩ := HL.out.atR hlt
    subst hA
    have hki : (k : Int) < (m : Int) := by omega
    have hk0 : (0 : Int) ≤ (k : Int) := by omega
    have y0 := (K.1.cell (p := ⟨eb, eo + k * 5, none⟩) hbB).trans z0
    have y1 := (K.1.cell (p := ⟨eb, eo + k * 5 + 1, none⟩) hbB).trans z1
    have y2 := (K.1.cell (p := ⟨eb, eo + k * 5 + 2, none⟩) hbB).trans z2
    have y3 := (K.1.cell (p := ⟨eb, eo + k * 5 + 3, none⟩) hbB).trans z3
    have y4 := (K.1.cell (p := ⟨eb, eo + k * 5 + 4, none⟩) hbB).trans z4
    have hc0 := r0.caps
    have hc1 := r1.caps
    have hc2 := r2.caps
    have hF := rowF_parts (HRow.out k X hX)
    have hn0 : n = n0 := by have := hF.1; have := r0.len; omega
    subst hn0
    have hQ := fv_std hF.2.1
    have HOk := Lib.hid hF.2.2
    have HA := Lib.hid (show rwA2 ls k = fvR X.a from funext fun j => rwA2_at hX j)
    have HQ := Lib.hid (show isQ (⟨X.b.s, A1, n1, c1, X.b.l, X.b.t, A2, n2, c2, X.b.m⟩ : Rw) (rwB2 ls false k) from by rw [rwB2_at hX]; exact hQ)
    have HR0 := Lib.hid (fun W (h : Below w.heap.size w W) => r0.up fE_lasts h)
    have HZ0 := Lib.hid (show w.cell? ⟨eb, eo + k * 5, none⟩ = _ from z0)
    have HBB := Lib.hid hbB
    replace K := (K.rdOld r1).rdOld r2
    clear hX z0 z1 z2 z3 z4 r0 r1 r2 hF hQ hbB
    have r := K.rawS
    go_upto_region 7 with (first | (apply K.box; rfl; rfl; rfl; clear K r; intro W b0 K; have r := K.rawS) | (apply K.alloc; rfl; rfl; exact frac_zero; clear K r; intro W b1 K; have r := K.rawS) | (apply K.storeA; rfl; rfl; rfl; rfl; rfl; (exact ZUP); exact frac_size; rfl; rfl; rfl; clear K r; intro W K; have r := K.rawS))
    clear y0 y1 y2 y3 y4
    have y0 := (K.1.cell (p := ⟨eb, eo + k * 5, none⟩) HBB.out).trans HZ0.out
    go_wp2_with fail
    refine (sum9_any A0 B n c0 cx X.a x _ (HR0.out _ K.1) (HX.out _ K.1) hn HOk.out HOx.out).mono ?_
    rintro e W5 ⟨q1, o1, rfl, ho1, hq1, ⟨ra, rb⟩, ⟨fa, fb⟩, hb5⟩
    replace K := K.retF hb5 ra rb fa fb
    have HP := Lib.hid (show o1 = prdK (rwA2 ls k) (fvR x) n by rw [HA.out]; exact ho1)
    have HQ1 := Lib.hid (show o1 = true → isQ q1 (smQ (fun j => rwA2 ls k j * fvR x j) n) by rw [HA.out]; exact hq1)
    clear ra rb fa fb hb5 y0 r ho1 hq1
    have r := K.rawS
    go_upto_region 8 with (first | (apply K.alloc; rfl; rfl; exact frac_zero; clear K r; intro W b2 K; have r := K.rawS) | (apply K.storeA; rfl; rfl; rfl; rfl; rfl; (exact ZUP); exact frac_size; rfl; rfl; rfl; clear K r; intro W K; have r := K.rawS))
    cases o1
    case false =>
     have HBad := Lib.hid (show sumsB (fun i => prdK (rwA2 ls i) (fvR x) n) (fun i => decide (smQ (fun j => rwA2 ls i j * fvR x j) n ≤ rwB2 ls false i)) (k + 1) = false by
      rw [sumsB, ← HP.out]
      simp)
     clear HQ HQ1 HP HA
     exact ZQ90
    have HQ2 := Lib.hid (HQ1.out rfl)
    clear HQ1
    go_wp2_with fail
    refine (callCmpG K HQ2.out HQ.out ZMB ZMB ZMB ZMB).mono ?_
    rintro e W6 ⟨rfl, k6⟩
    replace K := k6
    clear k6 r HQ HA
    have r := K.rawS
    by_cases hle : smQ (fun j => rwA2 ls k j * fvR x j) n ≤ rwB2 ls false k
    · have hc : ¬ cmpQ (smQ (fun j => rwA2 ls k j * fvR x j) n) (rwB2 ls false k) > 0 := by have := cmpQ_le.2 hle; omega
      have HN := Lib.hid (show sumsB (fun i => prdK (rwA2 ls i) (fvR x) n) (fun i => decide (smQ (fun j => rwA2 ls i j * fvR x j) n ≤ rwB2 ls false i)) (k + 1) = true by
       rw [sumsB, ← HP.out, HS.out, decide_eq_true hle]
       rfl)
      clear HP HQ2 HS hle
      generalize cmpQ _ _ = cq at hc ⊢
      have hcd : decide (cq > 0) = false := decide_eq_false hc
      go_wp2_with fail
      go_roundg (m - (k + 1))
      case rel => exact ⟨k + 1, hlt, rfl, by go_num, HN, (K.less (fun _ h => by cases h)).part (List.sublist_append_right [_, _] _)⟩
      case measure => omega
    · have hc : cmpQ (smQ (fun j => rwA2 ls k j * fvR x j) n) (rwB2 ls false k) > 0 := by
       have : ¬ cmpQ (smQ (fun j => rwA2 ls k j * fvR x j) n) (rwB2 ls false k) ≤ 0 := fun h => hle (cmpQ_le.1 h)
       omega
      have HBad := Lib.hid (show sumsB (fun i => prdK (rwA2 ls i) (fvR x) n) (fun i => decide (smQ (fun j => rwA2 ls i j * fvR x j) n ≤ rwB2 ls false i)) (k + 1) = false by
       rw [sumsB, decide_eq_false hle]
       simp)
      clear HP HQ2 hle
      generalize cmpQ _ _ = cq at hc ⊢
      have hcd : decide (cq > 0) = true := decide_eq_true hc
      exact ZQ90
  · have e : k = m := by omega
    subst e
    have HE := Lib.hid (show belB k n (rwA2 ls) (rwB2 ls false) (fvR x) = true from HS.out)
    have hltd : decide (k < k) = false := decide_eq_false hlt
    have r := K.rawS
    clear HS hlt
    go_wp2_with fail
    go_ret
    exact ⟨by rw [HE.out]; rfl, K.1⟩
theorem solves9_any (A A' B : Option Addr) (n cap m cap' nx cx : Nat) (l : List Fv) (ls : List Rv) (x : List Fv) (w : World) (hl : RdF w w.heap.size A n cap l)
 (hr : RdR w w.heap.size A' m cap' ls) (hx : RdF w w.heap.size B nx cx x) (hrow : ∀ (k : Nat) (X : Rv), ls[k]? = some X → rowF n X = true) (hn : n ≤ 1000) :
 Calls Tryz.prog 30 #[.agg #[.slice A n cap, .slice A' m cap'], .slice B nx cx] w fun e w' => e = .returned (.bool (solW n m ls x)) ∧ Below w.heap.size w w' := by
 have HLe := Lib.hid (fun W (h : Below w.heap.size w W) => least9_any B nx cx n x W (hx.up fE_lasts h))
 have hcap := hl.caps
 have hcx := hx.caps
 have hlx := hx.len
 have K := St.start w
 cases h1 : decide (x.length = n) && x.all fnF
 · rw [h1] at HLe
   have HV := Lib.hid (show solW n m ls x = false by unfold solW; rw [h1]; rfl)
   clear h1 hl hr hx hrow hlx
   exact ZQ27
 · have hxn : n = nx := by
    rw [Bool.and_eq_true, decide_eq_true_eq] at h1
    omega
   subst hxn
   have hall := (Bool.and_eq_true _ _ ▸ h1 : _ ∧ _).2
   have HBe := Lib.hid (fun W (h : Below w.heap.size w W) => below9_any A A' B n cap m cap' cx ls x W (hr.up rE_lasts h) (hx.up fE_lasts h) hrow (fnF_all hall) hn)
   have HV := Lib.hid (show solW n m ls x = belB m n (rwA2 ls) (rwB2 ls false) (fvR x) by unfold solW; rw [h1, Bool.true_and])
   rw [h1] at HLe
   clear h1 hl hr hx hrow hlx hall
   generalize belB m n (rwA2 ls) (rwB2 ls false) (fvR x) = bv at HBe HV
   exact ZQ27
end Go.Proofs.YtdlcglndhhndpaaGreat
