/- Laws and walks; conditions stand in each theorem. -/
import Derived.Test.YtdlcglndhhndpaaGreatP38
import Derived.Test.YtdlcglndhhndpaaGreatP39
import Derived.Test.YtdlcglndhhndpaaGreatP43
import Derived.Test.YtdlcglndhhndpaaGreatP36
import Derived.Test.YtdlcglndhhndpaaGreatP35
import Derived.Test.YtdlcglndhhndpaaGreatP33
set_option linter.unusedSimpArgs false
set_option linter.unusedVariables false
set_option maxHeartbeats 8000000
set_option maxRecDepth 100000
namespace Go.Proofs.YtdlcglndhhndpaaGreat
open Go.RowKit
def lpC2 : LpEnd → Int
 | .full => 6
 | .none _ => 4
 | .ray _ => 3
 | .best _ _ => 0
theorem fewP_len2 {l : List Fv} {ls : List Rv} (h : fewP l ls = true) : l.length ≤ 4 ∧ ls.length ≤ 4 := by
 unfold fewP few6L at h
 rw [Bool.and_eq_true, Bool.and_eq_true, Bool.and_eq_true, decide_eq_true_eq, decide_eq_true_eq] at h
 exact ⟨by omega, h.1⟩
def solX : LpEnd → Option (Nat → Rat)
 | .full => none
 | .none _ => none
 | .ray x => some x
 | .best x _ => some x
section
variable {m n : Nat} {l : List Fv} {ls : List Rv}
theorem solO.chk {w' : World} {e : Ending} {E : LpEnd} (hS : SmP m n (rwA2 ls) (rwB2 ls false) (fvR l)) (hE : LpSays m n (rwA2 ls) (rwB2 ls false) (fvR l) E) (hne : E ≠ .full) (h : solO w' m n e E) :
 ∃ A1 n1 c1 A2 n2 c2 x y, e = .returned (.tuple #[.slice A1 n1 c1, .slice A2 n2 c2, .int .i64 (lpC2 E)]) ∧ RdF w' w'.heap.size A1 n1 c1 x ∧ RdF w' w'.heap.size A2 n2 c2 y ∧ chkF n m l ls x y (lpC2 E) = true ∧ ∀ x0, solX E = some x0 → n1 = n ∧ x = ofF n (fun i => fvQ (x0 i)) ∧ ∀ i, i < n → fitsF (x0 i) = true := by
 cases E with
 | full => exact absurd rfl hne
 | none y =>
  obtain ⟨A, c, he, hr, hf⟩ := h
  exact ⟨_, _, _, _, _, _, [], _, he, Rd.nil, hr, (chk_none hS hE hf : chkN _ _ _ _ _ = true), fun x0 e => by cases e⟩
 | ray x =>
  obtain ⟨A, c, he, hr, hf⟩ := h
  exact ⟨_, _, _, _, _, _, _, [], he, hr, Rd.nil, (chk_ray hS hE hf : chkR _ _ _ _ _ _ = true), fun x0 e => by cases e; exact ⟨rfl, rfl, hf⟩⟩
 | best x y =>
  obtain ⟨A, c, A', c', he, hr, hr', hf, hg⟩ := h
  exact ⟨_, _, _, _, _, _, _, _, he, hr, hr', (chk_best hS hE hf hg : chkO _ _ _ _ _ _ = true), fun x0 e => by cases e; exact ⟨rfl, rfl, hf⟩⟩
theorem solW_parts {o : List Fv} (h : solW n m ls o = true) : o.length = n ∧ o.all fnF = true ∧ Sol m n (rwA2 ls) (rwB2 ls false) (fvR o) := by
 unfold solW at h
 rw [Bool.and_eq_true, Bool.and_eq_true, decide_eq_true_eq] at h
 exact ⟨h.1.1, h.1.2, belB_sol h.2 fun u hu => (fnF_pos h.1.2 u (by omega)).1⟩
theorem prov_none {o : List Fv} {y : Nat → Rat} (hE : LpSays m n (rwA2 ls) (rwB2 ls false) (fvR l) (.none y)) (h : solW n m ls o = true) : False := none_all hE (solW_parts h).2.2
theorem prov_best {o : List Fv} {x y : Nat → Rat} (hE : LpSays m n (rwA2 ls) (rwB2 ls false) (fvR l) (.best x y)) (h : solW n m ls o = true) : smQ (fun i => fvR l i * fvR o i) n ≤ smQ (fun i => fvR l i * fvR (ofF n fun i => fvQ (x i)) i) n := by
 rw [smQ_congr (f := fun i => fvR l i * fvR (ofF n fun i => fvQ (x i)) i) (g := fun i => fvR l i * x i) fun i hi => by rw [fvR_ofF hi, fvQ_rat]]
 exact best_all hE (solW_parts h).2.2
theorem prov_ray {o : List Fv} {x : Nat → Rat} (hS : SmP m n (rwA2 ls) (rwB2 ls false) (fvR l)) (hE : LpSays m n (rwA2 ls) (rwB2 ls false) (fvR l) (.ray x)) (hf : few6L 4 1 o = true) (h : solW n m ls o = true) :
 (∀ j, j < n → addK (fvR o j) (fvR (ofF n fun i => fvQ (x i)) j) = true) ∧ solW n m ls (ofF n fun i => fvQ (fvR o i + fvR (ofF n fun i => fvQ (x i)) i)) = true ∧ smQ (fun i => fvR l i * fvR o i) n < smQ (fun i => fvR l i * fvR (ofF n fun i => fvQ (fvR o i + fvR (ofF n fun i => fvQ (x i)) i)) i) n := by
 obtain ⟨h1, h2, h3⟩ := solW_parts h
 have hf2 : ∀ x ∈ o, fewV 1 x = true := by
  unfold few6L at hf
  rw [Bool.and_eq_true, List.all_eq_true] at hf
  exact hf.2
 have hp := fvR_pt hf2 (fnF_all h2) h1
 have hd : Cd 21 n x := hE.cd hS
 have ha := add_fit hd hp
 obtain ⟨q1, -, q3⟩ := more_all hS hE hp h3
 have e0 : ∀ j, j < n → fvR (ofF n fun i => fvQ (x i)) j = x j := fun j hj => by rw [fvR_ofF hj, fvQ_rat]
 have e1 : (ofF n fun i => fvQ (fvR o i + fvR (ofF n fun i => fvQ (x i)) i)) = ofF n fun i => fvQ (fvR o i + x i) := ofF_congr fun i hi => by rw [e0 i hi]
 have e2 : ∀ j, j < n → fvR (ofF n fun i => fvQ (fvR o i + x i)) j = fvR o j + x j := fun j hj => by rw [fvR_ofF hj, fvQ_rat]
 have hm := more_sol hE.isR h3
 have hd2 := hd.addS hS.n4 hp
 rw [e1]
 refine ⟨fun j hj => by rw [e0 j hj]; exact (ha j hj).1, ?_, ?_⟩
 · unfold solW
   rw [ofF_len, decide_eq_true rfl, fnF_list hm.1.1 fun j hj => (ha j hj).2, bel_fit (b' := rwB2 ls false) hS (hd2.congr e2) (by omega) fun i hi => by rw [smQ_congr (g := fun j => rwA2 ls i j * (fvR o j + x j)) fun j hj => by rw [e2 j hj]]; exact hm.1.2 i hi]
   rfl
 · rw [smQ_congr (f := fun i => fvR l i * fvR (ofF n fun i => fvQ (fvR o i + x i)) i) (g := fun i => fvR l i * (fvR o i + x i)) fun i hi => by rw [e2 i hi]]
   exact q3
end
theorem callAddP {w0 : World} {L : List Blk} {D : List Hl} {V : World} {Y Z : Rw} {f q : Rat} (K : St w0 L D V) (hY : isQ Y f) (hZ : isQ Z q) (hk : addK f q = true) (m1 : (⟨rdP Y.A Y.n Y.c Y.l, rdS Y.A Y.n⟩ : Hl) ∈ D) (m2 : (⟨rdP Y.B Y.m Y.d Y.k, rdS Y.B Y.m⟩ : Hl) ∈ D) (m3 : (⟨rdP Z.A Z.n Z.c Z.l, rdS Z.A Z.n⟩ : Hl) ∈ D) (m4 : (⟨rdP Z.B Z.m Z.d Z.k, rdS Z.B Z.m⟩ : Hl) ∈ D) :
 Calls Tryz.prog 53 #[.agg #[.int .i64 Y.s, .slice Y.A Y.n Y.c, .int .i64 Y.t, .slice Y.B Y.m Y.d], .agg #[.int .i64 Z.s, .slice Z.A Z.n Z.c, .int .i64 Z.t, .slice Z.B Z.m Z.d]] V (FrN w0 L D (f + q)) := by
 have h := fAdd_any Y.s Y.t Z.s Z.t Y.A Y.B Z.A Z.B Y.n Y.c Y.m Y.d Z.n Z.c Z.m Z.d Y.l Y.k Z.l Z.k V (K.rd m1) (K.rd m2) (K.rd m3) (K.rd m4)
 rw [hY.1.right hY.2, hZ.1.right hZ.2, hY.1.rat, hZ.1.rat, Bool.and_true, hk] at h
 have e1 : binO true true (f + q) = some (f + q) := rfl
 have e2 : binE true true = 0 := rfl
 rw [e1, e2] at h
 have hfit := addK_fits hk
 exact h.mono fun e W' ⟨s31, A31, n31, c31, l31, t31, B31, m31, d31, k31, he, ⟨hra, hrb⟩, hop, ⟨hfa, hfb⟩, hbb⟩ => ⟨⟨s31, A31, n31, c31, l31, t31, B31, m31, d31, k31⟩, he, Lib.hid ⟨⟨hop, hfit⟩, fun a ha => Nat.le_trans K.1.size (hfa a ha), fun a ha => Nat.le_trans K.1.size (hfb a ha)⟩, K.retF hbb hra hrb hfa hfb⟩
def PlsP (w : World) (n : Nat) (x : Nat → Rat) (e : Ending) (w' : World) : Prop := ∃ A c, e = .returned (.tuple #[.slice A n c, .bool true]) ∧ FrK w w' A n c (ofF n fun i => fvQ (x i)) ∧ Below w.heap.size w w'
theorem plus9_any (A B : Option Addr) (n cap cap2 : Nat) (l l2 : List Fv) (w : World) (hl : RdF w w.heap.size A n cap l) (hl2 : RdF w w.heap.size B n cap2 l2) (hn : n ≤ 1000) (hok : l.all Fv.ok = true) (hok2 : l2.all Fv.ok = true) (hk : ∀ j, j < n → addK (fvR l j) (fvR l2 j) = true) :
 Calls Tryz.prog 33 #[.slice A n cap, .slice B n cap2] w (PlsP w n fun i => fvR l i + fvR l2 i) := by
 have hcap := hl.caps
 have hcap2 := hl2.caps
 obtain ⟨u2, hu2, K0⟩ := (St.start w).fxOld hl2
 obtain ⟨u, hu, K0⟩ := K0.fxOld hl
 have HQ := Lib.hid (show ∀ j, j < n → isQ (u j) (fvR l j) from fun j hj => by
  have h1 := hu j hj
  have h2 : (u j).fv.ok = true := List.all_eq_true.1 hok _ (List.mem_of_getElem? h1)
  unfold fvR
  rw [h1, Option.map_some, Option.getD_some]
  exact fv_std h2)
 have HQ2 := Lib.hid (show ∀ j, j < n → isQ (u2 j) (fvR l2 j) from fun j hj => by
  have h1 := hu2 j hj
  have h2 : (u2 j).fv.ok = true := List.all_eq_true.1 hok2 _ (List.mem_of_getElem? h1)
  unfold fvR
  rw [h1, Option.map_some, Option.getD_some]
  exact fv_std h2)
 have HAd := Lib.hid hk
 have K : St w ([] ++ []) (⟨rwP 0 (fun _ => Rw.zero), rwS 0 (fun _ => Rw.zero)⟩ :: [(⟨fxP A n cap u, fxS A n u⟩ : Hl), ⟨fxP B n cap2 u2, fxS B n u2⟩]) w := K0.rwNew 0
 clear hl hok hu K0 hl2 hok2 hu2 hk
 go_enter Tryz.func33, Tryz.ntmps33
 go_wp2_with fail
 go_loopg [6, 7] n (fun gk s3 s4 wr => ∃ (k : Nat) (v : Nat → Rw) (val : Value) (X : List Blk), k ≤ n ∧ gk = n - k ∧ s3 = val ∧ s4 = .int .i64 k ∧ Hid ((∀ j, j < k → (v j).fv = fvQ (fvR l j + fvR l2 j)) ∧ ∀ b, rwS k v b → w.heap.size ≤ b) ∧ Hid (OwL 4 Rw.cs 50 val (ofF k v) X) ∧ St w (X ++ []) (⟨rwP k v, rwS k v⟩ :: [(⟨fxP A n cap u, fxS A n u⟩ : Hl), ⟨fxP B n cap2 u2, fxS B n u2⟩]) wr)
 case atStart => exact ⟨0, fun _ => Rw.zero, _, [], Nat.zero_le _, rfl, rfl, rfl, Lib.hid ⟨fun j h => absurd h (by omega), fun b ⟨i, hi, _⟩ => absurd hi (by omega)⟩, Lib.hid OwL.nil, K⟩
 case round =>
  clear K
  obtain ⟨k, v, val, X, hk, rfl, rfl, rfl, HV, Ho, K⟩ := hrel
  by_cases hlt : k < n
  · have hki : (k : Int) < (n : Int) := by omega
    have hk0 : (0 : Int) ≤ (k : Int) := by omega
    have hltd : decide (k < n) = true := decide_eq_true hlt
    obtain ⟨ab, ao, hA⟩ := K.fxAt (A := A) (n := n) (cap := cap) (v := u) ZMB (by omega)
    obtain ⟨bb, bo, hB⟩ := K.fxAt (A := B) (n := n) (cap := cap2) (v := u2) ZMB (by omega)
    subst hA hB
    have K := (K.fxRd (n := n) (v := u) (i := k) ZMB hlt).fxRd (n := n) (v := u2) (i := k) ZMB hlt
    go_upto_region 5 with fail
    have HS := Lib.hid (fun V L5 D5 (h : St w L5 D5 V) (m5 : (⟨fxP (some ⟨ab, ao, none⟩) n cap u, fxS (some ⟨ab, ao, none⟩) n u⟩ : Hl) ∈ D5) (m6 : (⟨fxP (some ⟨bb, bo, none⟩) n cap2 u2, fxS (some ⟨bb, bo, none⟩) n u2⟩ : Hl) ∈ D5) => (show (V.cell? ⟨ab, ao + k * 4, none⟩ = some (.int .i64 (u k).s) ∧ V.cell? ⟨ab, ao + k * 4 + 1, none⟩ = some (.slice (u k).A (u k).n (u k).c) ∧ V.cell? ⟨ab, ao + k * 4 + 2, none⟩ = some (.int .i64 (u k).t) ∧ V.cell? ⟨ab, ao + k * 4 + 3, none⟩ = some (.slice (u k).B (u k).m (u k).d)) ∧ (V.cell? ⟨bb, bo + k * 4, none⟩ = some (.int .i64 (u2 k).s) ∧ V.cell? ⟨bb, bo + k * 4 + 1, none⟩ = some (.slice (u2 k).A (u2 k).n (u2 k).c) ∧ V.cell? ⟨bb, bo + k * 4 + 2, none⟩ = some (.int .i64 (u2 k).t) ∧ V.cell? ⟨bb, bo + k * 4 + 3, none⟩ = some (.slice (u2 k).B (u2 k).m (u2 k).d)) from ⟨h.fxCell m5 hlt, h.fxCell m6 hlt⟩))
    have HSu := Lib.hid (fun V L5 D5 (h : St w L5 D5 V) (m1 : (⟨rdP (u k).A (u k).n (u k).c (u k).l, rdS (u k).A (u k).n⟩ : Hl) ∈ D5) (m2 : (⟨rdP (u k).B (u k).m (u k).d (u k).k, rdS (u k).B (u k).m⟩ : Hl) ∈ D5) (m3 : (⟨rdP (u2 k).A (u2 k).n (u2 k).c (u2 k).l, rdS (u2 k).A (u2 k).n⟩ : Hl) ∈ D5) (m4 : (⟨rdP (u2 k).B (u2 k).m (u2 k).d (u2 k).k, rdS (u2 k).B (u2 k).m⟩ : Hl) ∈ D5) => callAddP h (HQ.out k hlt) (HQ2.out k hlt) (HAd.out k hlt) m1 m2 m3 m4)
    have K0 := K.drew
    have s0 := HS.out _ _ _ K0 ZMB ZMB
    clear K
    refine wp_region_P 13 (fun V => (V.cell? ⟨ab, ao + k * 4, none⟩ = some (.int .i64 (u k).s) ∧ V.cell? ⟨ab, ao + k * 4 + 1, none⟩ = some (.slice (u k).A (u k).n (u k).c) ∧ V.cell? ⟨ab, ao + k * 4 + 2, none⟩ = some (.int .i64 (u k).t) ∧ V.cell? ⟨ab, ao + k * 4 + 3, none⟩ = some (.slice (u k).B (u k).m (u k).d)) ∧ (V.cell? ⟨bb, bo + k * 4, none⟩ = some (.int .i64 (u2 k).s) ∧ V.cell? ⟨bb, bo + k * 4 + 1, none⟩ = some (.slice (u2 k).A (u2 k).n (u2 k).c) ∧ V.cell? ⟨bb, bo + k * 4 + 2, none⟩ = some (.int .i64 (u2 k).t) ∧ V.cell? ⟨bb, bo + k * 4 + 3, none⟩ = some (.slice (u2 k).B (u2 k).m (u2 k).d))) (by kernel_rfl) s0 (fun hSh => ?_)
    clear s0
    generalize World.drew wr = V0 at K0 hSh ⊢
    refine wpAnyP.tkU 0 rfl ?_
    refine wpAnyP.tkU 1 rfl ?_
    refine wpAnyP.tkU 2 rfl ?_
    refine wpAnyP.tk 3 rfl ?_
    refine wpAnyP.tkU 4 rfl ?_
    refine wpAnyP.tkU 5 rfl ?_
    refine wpAnyP.tkU 6 rfl ?_
    refine wpAnyP.tk 7 rfl ?_
    refine wpAnyP.two (i := 8) (j := 12) rfl rfl rfl rfl (by kernel_rfl) (fun KK hKK => ?_) (fun KK hKK => ?_)
    focus
     go_simp
     go_at_call 53
     refine (HSu.out _ _ _ K0 ZMB ZMB ZMB ZMB).mono ?_
     rintro e V1 ⟨y, rfl, gy, k1⟩
     go_wp2_with fail
     refine hKK.out _ _ (fun _ => HS.out _ _ _ k1 ZMB ZMB) (fun hSq => ?_)
     have hSh := HS.out _ _ _ k1 ZMB ZMB
     clear hKK KK hSq
     refine ZPT ?_
     refine wpAnyP.tkU 9 rfl ?_
     refine wpAnyP.tkU 10 rfl ?_
     refine wpAnyP.tkU 11 rfl ?_
     refine wpAnyP.on 12 rfl fun KK hKK => ?_
     go_simp
     have k2 := k1.new #[.int .i64 0, .slice none 0 0, .int .i64 0, .slice none 0 0] 50
     generalize V1.alloc (.cells #[.int .i64 0, .slice none 0 0, .int .i64 0, .slice none 0 0] 50) = V2 at k2 ⊢
     generalize V1.heap.size = g at k2 ⊢
     refine hKK.out _ _ (fun _ => HS.out _ _ _ k2 ZMB ZMB) (fun hSq => ?_)
     have hSh := HS.out _ _ _ k2 ZMB ZMB
     clear hKK KK hSq
     refine ZPT ?_
     have kz := k2
     clear k2 k1
    rotate_right
    focus
     go_simp
     have k1 := K0.new #[.int .i64 0, .slice none 0 0, .int .i64 0, .slice none 0 0] 50
     generalize V0.alloc (.cells #[.int .i64 0, .slice none 0 0, .int .i64 0, .slice none 0 0] 50) = V1 at k1 ⊢
     generalize V0.heap.size = g at k1 ⊢
     refine hKK.out _ _ (fun _ => HS.out _ _ _ k1 ZMB ZMB) (fun hSq => ?_)
     have hSh := HS.out _ _ _ k1 ZMB ZMB
     clear hKK KK hSq
     refine ZPT ?_
     refine wpAnyP.on 8 rfl fun KK hKK => ?_
     go_simp
     go_at_call 53
     refine (HSu.out _ _ _ k1 ZMB ZMB ZMB ZMB).mono ?_
     rintro e V2 ⟨y, rfl, gy, k2⟩
     go_wp2_with fail
     refine hKK.out _ _ (fun _ => HS.out _ _ _ k2 ZMB ZMB) (fun hSq => ?_)
     have hSh := HS.out _ _ _ k2 ZMB ZMB
     clear hKK KK hSq
     refine ZPT ?_
     refine wpAnyP.tkU 9 rfl ?_
     refine wpAnyP.tkU 10 rfl ?_
     refine wpAnyP.tkU 11 rfl ?_
     have kz := k2
     clear k2 k1
    all_goals
     refine wpAnyP.onF 13 rfl fun KK hKK => ?_
     have r := kz.rawS
     have zz := kz.thaw (g := g) (cs := #[.int .i64 0, .slice none 0 0, .int .i64 0, .slice none 0 0]) (t := 50) ZMB
     go_simp
     have K9 := kz.set4Z (b := g) (t := 50) (x0 := .int .i64 0) (x1 := .slice none 0 0) (x2 := .int .i64 0) (x3 := .slice none 0 0) (u0 := .int .i64 y.s) (u1 := .slice y.A y.n y.c) (u2 := .int .i64 y.t) (u3 := .slice y.B y.m y.d) (Upd.head _)
     refine hKK.out _ _ ?_
     clear hKK KK r zz
     refine ZPT ?_
     refine wpAnyP.tkF 14 rfl ?_
     refine ⟨by kernel_rfl, ?_⟩
     generalize ((((V2.setCell ⟨g, 0, none⟩ (.int .i64 y.s)).setCell ⟨g, 1, none⟩ (.slice y.A y.n y.c)).setCell ⟨g, 2, none⟩ (.int .i64 y.t)).setCell ⟨g, 3, none⟩ (.slice y.B y.m y.d)) = W9 at K9 ⊢
     have HV2 := Lib.hid (show (∀ j, j < k + 1 → (putF v k y j).fv = fvQ (fvR l j + fvR l2 j)) ∧ ∀ b, rwS (k + 1) (putF v k y) b → w.heap.size ≤ b from ⟨fun j hj => by
      by_cases e : j = k
      · rw [e, putF_same]
        exact gy.out.1.fv
      · rw [putF_other e]
        exact HV.out.1 j (by omega), fun b ⟨j, hj, hS⟩ => by
      by_cases e : j = k
      · rw [e, putF_same] at hS
        rcases hS with ⟨-, a, ha, rfl⟩ | ⟨-, a, ha, rfl⟩
        · exact gy.out.2.1 a ha
        · exact gy.out.2.2 a ha
      · rw [putF_other e] at hS
        exact HV.out.2 b ⟨j, by omega, hS⟩⟩)
     have K8 : St w (X ++ [(g, #[.int .i64 y.s, .slice y.A y.n y.c, .int .i64 y.t, .slice y.B y.m y.d], 50)]) _ W9 := K9.perm (by classical exact List.perm_iff_count.2 fun z => by simp only [List.count_append, List.count_cons, List.count_nil]; omega)
     have hB := K8.blk (b := g) (cs := #[.int .i64 y.s, .slice y.A y.n y.c, .int .i64 y.t, .slice y.B y.m y.d]) (t := 50) (List.mem_append_right _ List.mem_cons_self)
     have d0 := hB.cell (j := 0) rfl
     have d1 := hB.cell (j := 1) rfl
     have d2 := hB.cell (j := 2) rfl
     have d3 := hB.cell (j := 3) rfl
     clear K9 kz hSh HS HSu hB
     go_wp2_with (at_builtin; refine K8.app1 Ho.out rw_sized rfl _ _ 23 rfl _ 64 Tryz.underlying23 frac_made rfl rfl y _ rfl _ rfl (by exact rfl) (by rw [ofF_len]; omega) (by omega) ?_; clear d0 d1 d2 d3; intro v4 X4 W4 ho4 K4)
     rw [ofF_put] at ho4
     have Ho2 := Lib.hid ho4
     have HK := Lib.hid (((K4.rwAdd (v := v) (n := k) y ZMB ZMB ZMB).lessS (D' := (⟨rwP (k + 1) (putF v k y), rwS (k + 1) (putF v k y)⟩ :: [(⟨fxP (some ⟨ab, ao, none⟩) n cap u, fxS (some ⟨ab, ao, none⟩) n u⟩ : Hl), ⟨fxP (some ⟨bb, bo, none⟩) n cap2 u2, fxS (some ⟨bb, bo, none⟩) n u2⟩])) (by repeat (first | with_reducible exact List.Sublist.refl _ | with_reducible apply List.Sublist.cons_cons | with_reducible apply List.Sublist.cons))).part (L' := X4 ++ []) (List.Sublist.append_left (List.nil_sublist _) _))
     clear K4 K8 ho4 HV Ho gy
     go_roundg (n - (k + 1))
     case rel => exact ⟨k + 1, _, _, X4, hlt, rfl, rfl, by go_num, HV2, Ho2, HK.out⟩
     case measure => omega
  · have e : n = k := by omega
    subst e
    have hltd : decide (n < n) = false := decide_eq_false hlt
    obtain ⟨Ao, co, hv, hro⟩ := Ho.out.frK K ZMB (by omega) HV.out.2
    subst hv
    rw [ofF_congr (g := fun i => fvQ (fvR l i + fvR l2 i)) (fun i hi => HV.out.1 i hi)] at hro
    have HX := Lib.hid (show PlsP w n (fun i => fvR l i + fvR l2 i) (.returned (.tuple #[.slice Ao n co, .bool true])) wr from ⟨Ao, co, rfl, hro, K.1⟩)
    clear Ho K hro HV hlt
    go_wp2_with fail
    exact bodyPost_ret (v := .tuple #[.slice Ao n co, .bool true]) (by simp [results, Tryz.results33, go_sem]) rfl HX.out
section
variable {P : Program} {o : Oper} {a : Act} {KK : Act → World → Prop} {Q : Exit → Act → World → Prop} {w W : World} {L L' X : List Blk} {D : List Hl}
end
section
variable {P : Program} {ops : Array Oper} {Q : Exit → Act → World → Prop} {md : Region.Mode} {S : World → Prop} {n : Nat}
end
theorem callCmpR {w0 W : World} {L : List Blk} {D : List Hl} {Y Z : Rw} {f q : Rat} (K : St w0 L D W) (hY : isQ Y f) (hZ : isQ Z q) (hle : f ≤ q) (m1 : (⟨rdP Y.A Y.n Y.c Y.l, rdS Y.A Y.n⟩ : Hl) ∈ D) (m2 : (⟨rdP Y.B Y.m Y.d Y.k, rdS Y.B Y.m⟩ : Hl) ∈ D) (m3 : (⟨rdP Z.A Z.n Z.c Z.l, rdS Z.A Z.n⟩ : Hl) ∈ D) (m4 : (⟨rdP Z.B Z.m Z.d Z.k, rdS Z.B Z.m⟩ : Hl) ∈ D) :
 Calls Tryz.prog 32 #[.agg #[.int .i64 Y.s, .slice Y.A Y.n Y.c, .int .i64 Y.t, .slice Y.B Y.m Y.d], .agg #[.int .i64 Z.s, .slice Z.A Z.n Z.c, .int .i64 Z.t, .slice Z.B Z.m Z.d]] W fun e W' => ∃ c : Int, e = .returned (.int .i64 c) ∧ Hid (c ≤ 0) ∧ St w0 L D W' := by
 have h := gCompare_any Y.s Y.t Z.s Z.t Y.A Y.B Z.A Z.B Y.n Y.c Y.m Y.d Z.n Z.c Z.m Z.d Y.l Y.k Z.l Z.k W (K.rd m1) (K.rd m2) (K.rd m3) (K.rd m4)
 rw [hY.1.right hY.2, hZ.1.right hZ.2, hY.1.rat, hZ.1.rat] at h
 exact h.mono fun e W' ⟨he, hb⟩ => ⟨_, he, Lib.hid (cmpQ_le.2 hle), K.keep hb⟩
end Go.Proofs.YtdlcglndhhndpaaGreat
