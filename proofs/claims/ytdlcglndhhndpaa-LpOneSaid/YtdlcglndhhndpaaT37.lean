/- Laws and walks laid together; the conditions stand in each theorem. -/
import Derived.Test.YtdlcglndhhndpaaT36
set_option linter.unusedSimpArgs false
set_option linter.unusedVariables false
namespace Go.Proofs.Ytdlcglndhhndpaa
open Go.RowKit
def FrN (w0 : World) (L : List Blk) (D : List Hl) (q : Rat) (e : Ending) (W' : World) : Prop := ∃ y : Rw, e = Ending.returned (.tuple #[.agg #[.int .i64 y.s, .slice y.A y.n y.c, .int .i64 y.t, .slice y.B y.m y.d], .int .i64 0]) ∧ Hid (isQ y q ∧ FrA w0.heap.size y.A ∧ FrA w0.heap.size y.B) ∧ St w0 L (⟨rdP y.B y.m y.d y.k, rdS y.B y.m⟩ :: ⟨rdP y.A y.n y.c y.l, rdS y.A y.n⟩ :: D) W'
theorem callSub0 {w0 : World} {L : List Blk} {D : List Hl} {V : World} {z x : Rw} {q : Rat} (K : St w0 L D V) (hz : isQ z 0) (hx : isQ x q) (m1 : (⟨rdP z.A z.n z.c z.l, rdS z.A z.n⟩ : Hl) ∈ D) (m2 : (⟨rdP z.B z.m z.d z.k, rdS z.B z.m⟩ : Hl) ∈ D) (m3 : (⟨rdP x.A x.n x.c x.l, rdS x.A x.n⟩ : Hl) ∈ D) (m4 : (⟨rdP x.B x.m x.d x.k, rdS x.B x.m⟩ : Hl) ∈ D) :
    Calls Try.prog 50 #[.agg #[.int .i64 z.s, .slice z.A z.n z.c, .int .i64 z.t, .slice z.B z.m z.d], .agg #[.int .i64 x.s, .slice x.A x.n x.c, .int .i64 x.t, .slice x.B x.m x.d]] V (FrN w0 L D (-q)) := by
  have h := qSub 0 z.s z.t x.s x.t z.A z.B x.A x.B z.n z.c z.m z.d x.n x.c x.m x.d z.l z.k x.l x.k V (K.rd m1) (K.rd m2) (K.rd m3) (K.rd m4) hz.1 hz.2 (some q) hx.1 (fun t ht => by rw [← Option.some.inj ht]; exact hx.2)
  rw [subO1_some, subE1_some, if_pos (addK_zero hx.2), if_pos (addK_zero hx.2)] at h
  have e0 : (0 : Rat) - q = -q := by grind
  rw [e0] at h
  have hfit : fitsF (-q) = true := by
    have := hx.2
    unfold fitsF at this ⊢
    rw [Bool.and_eq_true] at this
    rw [Rat.neg_num, Rat.neg_den, fits_neg this.1, this.2]
    rfl
  exact h.mono fun e W' ⟨s31, A31, n31, c31, l31, t31, B31, m31, d31, k31, he, ⟨hra, hrb⟩, hop, ⟨hfa, hfb⟩, hbb⟩ => ⟨⟨s31, A31, n31, c31, l31, t31, B31, m31, d31, k31⟩, he, Lib.hid ⟨⟨hop, hfit⟩, fun a ha => Nat.le_trans K.1.size (hfa a ha), fun a ha => Nat.le_trans K.1.size (hfb a ha)⟩, K.retF hbb hra hrb hfa hfb⟩
theorem callOf {w0 : World} {L : List Blk} {D : List Hl} {V : World} (p : Int) (hp : -9223372036854775808 ≤ p ∧ p ≤ 9223372036854775807) (hf : fitsF ((p : Int) : Rat) = true) (h : St w0 L D V) : Calls Try.prog 34 #[.int .i64 p] V fun e W6 => ∃ z : Rw, e = Ending.returned (.agg #[.int .i64 z.s, .slice z.A z.n z.c, .int .i64 z.t, .slice z.B z.m z.d]) ∧ Hid (isQ z ((p : Int) : Rat)) ∧ St w0 L (⟨rdP z.B z.m z.d z.k, rdS z.B z.m⟩ :: ⟨rdP z.A z.n z.c z.l, rdS z.A z.n⟩ :: D) W6 :=
  (of9_any p V hp).mono fun e W6 ⟨s7, A7, n7, c7, l7, t7, B7, m7, d7, k7, he, ⟨hra, hrb⟩, ho, ⟨hfa, hfb⟩, hbl⟩ => ⟨⟨s7, A7, n7, c7, l7, t7, B7, m7, d7, k7⟩, he, Lib.hid (⟨ho, hf⟩ : isQ ⟨s7, A7, n7, c7, l7, t7, B7, m7, d7, k7⟩ _), h.retF hbl hra hrb hfa hfb⟩
set_option maxRecDepth 100000 in
set_option maxHeartbeats 8000000 in
theorem negative9_any (A : Option Addr) (n cap : Nat) (l : List Fv) (w : World) (hl : RdF w w.heap.size A n cap l) (hn : n ≤ 1000) (hok : l.all Fv.ok = true) :
    Calls Try.prog 64 #[.slice A n cap] w (LstP w n fun i => - fvR l i) := by
  have hcap := hl.caps
  obtain ⟨u, hu, K0⟩ := (St.start w).fxOld hl
  have HQ := Lib.hid (show ∀ j, j < n → isQ (u j) (fvR l j) from fun j hj => by
    have h1 := hu j hj
    have h2 : (u j).fv.ok = true := List.all_eq_true.1 hok _ (List.mem_of_getElem? h1)
    unfold fvR
    rw [h1, Option.map_some, Option.getD_some]
    exact fv_std h2)
  have K : St w ([] ++ []) [⟨rwP 0 (fun _ => Rw.zero), rwS 0 (fun _ => Rw.zero)⟩, ⟨fxP A n cap u, fxS A n u⟩] w := K0.rwNew 0
  clear hl hok hu K0
  go_enter Try.func64, Try.ntmps64
  go_wp2_with fail
  go_loopg [3, 4] n (fun gk s3 s4 wr => ∃ (k : Nat) (v : Nat → Rw) (val : Value) (X : List Blk), k ≤ n ∧ gk = n - k ∧ s3 = val ∧ s4 = .int .i64 k ∧ Hid ((∀ j, j < k → (v j).fv = fvQ (- fvR l j)) ∧ ∀ b, rwS k v b → w.heap.size ≤ b) ∧ Hid (OwL 4 Rw.cs 40 val (ofF k v) X) ∧ St w (X ++ []) [⟨rwP k v, rwS k v⟩, ⟨fxP A n cap u, fxS A n u⟩] wr)
  case atStart => exact ⟨0, fun _ => Rw.zero, _, [], Nat.zero_le _, rfl, rfl, rfl, Lib.hid ⟨fun j h => absurd h (by omega), fun b ⟨i, hi, _⟩ => absurd hi (by omega)⟩, Lib.hid OwL.nil, K⟩
  case round =>
    clear K
    obtain ⟨k, v, val, X, hk, rfl, rfl, rfl, HV, Ho, K⟩ := hrel
    by_cases hlt : k < n
    · have hki : (k : Int) < (n : Int) := by omega
      have hk0 : (0 : Int) ≤ (k : Int) := by omega
      have hltd : decide (k < n) = true := decide_eq_true hlt
      obtain ⟨ab, ao, hA⟩ := K.fxAt (A := A) (n := n) (cap := cap) (v := u) ZMB (by omega)
      subst hA
      have K := K.fxRd (n := n) (v := u) (i := k) ZMB hlt
      go_upto_region 5 with fail
      have HS := Lib.hid (fun V L5 D5 (h : St w L5 D5 V) (hm5 : (⟨fxP (some ⟨ab, ao, none⟩) n cap u, fxS (some ⟨ab, ao, none⟩) n u⟩ : Hl) ∈ D5) => (show (V.cell? ⟨ab, ao + k * 4, none⟩ = some (.int .i64 (u k).s) ∧ V.cell? ⟨ab, ao + k * 4 + 1, none⟩ = some (.slice (u k).A (u k).n (u k).c) ∧ V.cell? ⟨ab, ao + k * 4 + 2, none⟩ = some (.int .i64 (u k).t) ∧ V.cell? ⟨ab, ao + k * 4 + 3, none⟩ = some (.slice (u k).B (u k).m (u k).d)) from h.fxCell hm5 hlt))
      have K0 := K.drew
      have s0 := HS.out _ _ _ K0 ZMB
      have HOf := Lib.hid (fun V L D (h : St w L D V) => callOf 0 (by decide) (by decide +kernel) h)
      clear K
      refine wp_region_P 10 (fun V => (V.cell? ⟨ab, ao + k * 4, none⟩ = some (.int .i64 (u k).s) ∧ V.cell? ⟨ab, ao + k * 4 + 1, none⟩ = some (.slice (u k).A (u k).n (u k).c) ∧ V.cell? ⟨ab, ao + k * 4 + 2, none⟩ = some (.int .i64 (u k).t) ∧ V.cell? ⟨ab, ao + k * 4 + 3, none⟩ = some (.slice (u k).B (u k).m (u k).d))) (by kernel_rfl) s0 (fun hSh => ?_)
      clear s0
      generalize World.drew wr = V0 at K0 hSh ⊢
      refine wpAnyP.tkU 1 rfl ?_
      refine wpAnyP.tkU 2 rfl ?_
      refine wpAnyP.tkU 3 rfl ?_
      refine wpAnyP.tk 4 rfl ?_
      have HSu := Lib.hid (fun V L D (z : Rw) (hz : isQ z 0) (h : St w L D V) (m1 : (⟨rdP z.A z.n z.c z.l, rdS z.A z.n⟩ : Hl) ∈ D) (m2 : (⟨rdP z.B z.m z.d z.k, rdS z.B z.m⟩ : Hl) ∈ D) (m3 : (⟨rdP (u k).A (u k).n (u k).c (u k).l, rdS (u k).A (u k).n⟩ : Hl) ∈ D) (m4 : (⟨rdP (u k).B (u k).m (u k).d (u k).k, rdS (u k).B (u k).m⟩ : Hl) ∈ D) => callSub0 h hz (HQ.out k hlt) m1 m2 m3 m4)
      refine wpAnyP.two (i := 0) (j := 9) rfl rfl rfl rfl (by kernel_rfl) (fun KK hKK => ?_) (fun KK hKK => ?_)
      focus
        go_simp
        go_at_call 34
        refine (HOf.out _ _ _ K0).mono ?_
        rintro e V1 ⟨z0, rfl, gz0, k1⟩
        go_wp2_with fail
        refine hKK.out _ _ (fun _ => HS.out _ _ _ k1 ZMB) (fun hSq => ?_)
        have hSh := HS.out _ _ _ k1 ZMB
        clear hKK KK hSq
        refine ZPT ?_
        refine wpAnyP.two (i := 5) (j := 9) rfl rfl rfl rfl (by kernel_rfl) (fun KK hKK => ?_) (fun KK hKK => ?_)
        focus
          go_simp
          go_at_call 50
          refine (HSu.out _ _ _ _ gz0.out k1 ZMB ZMB ZMB ZMB).mono ?_
          rintro e V2 ⟨y, rfl, gy, k2⟩
          go_wp2_with fail
          refine hKK.out _ _ (fun _ => HS.out _ _ _ k2 ZMB) (fun hSq => ?_)
          have hSh := HS.out _ _ _ k2 ZMB
          clear hKK KK hSq
          refine ZPT ?_
          refine wpAnyP.tkU 6 rfl ?_
          refine wpAnyP.tkU 7 rfl ?_
          refine wpAnyP.tkU 8 rfl ?_
          refine wpAnyP.on 9 rfl fun KK hKK => ?_
          go_simp
          have k3 := k2.new #[.int .i64 0, .slice none 0 0, .int .i64 0, .slice none 0 0] 40
          generalize V2.alloc (.cells #[.int .i64 0, .slice none 0 0, .int .i64 0, .slice none 0 0] 40) = V3 at k3 ⊢
          generalize V2.heap.size = g at k3 ⊢
          refine hKK.out _ _ (fun _ => HS.out _ _ _ k3 ZMB) (fun hSq => ?_)
          have hSh := HS.out _ _ _ k3 ZMB
          clear hKK KK hSq
          refine ZPT ?_
          have kz := k3
          clear k3 k2
        rotate_right
        focus
          go_simp
          have k3 := k1.new #[.int .i64 0, .slice none 0 0, .int .i64 0, .slice none 0 0] 40
          generalize V1.alloc (.cells #[.int .i64 0, .slice none 0 0, .int .i64 0, .slice none 0 0] 40) = V2 at k3 ⊢
          generalize V1.heap.size = g at k3 ⊢
          refine hKK.out _ _ (fun _ => HS.out _ _ _ k3 ZMB) (fun hSq => ?_)
          have hSh := HS.out _ _ _ k3 ZMB
          clear hKK KK hSq
          refine ZPT ?_
          refine wpAnyP.on 5 rfl fun KK hKK => ?_
          go_simp
          go_at_call 50
          refine (HSu.out _ _ _ _ gz0.out k3 ZMB ZMB ZMB ZMB).mono ?_
          rintro e V3 ⟨y, rfl, gy, k2⟩
          go_wp2_with fail
          refine hKK.out _ _ (fun _ => HS.out _ _ _ k2 ZMB) (fun hSq => ?_)
          have hSh := HS.out _ _ _ k2 ZMB
          clear hKK KK hSq
          refine ZPT ?_
          refine wpAnyP.tkU 6 rfl ?_
          refine wpAnyP.tkU 7 rfl ?_
          refine wpAnyP.tkU 8 rfl ?_
          have kz := k2
          clear k2 k3
      rotate_right
      focus
        go_simp
        have k3 := K0.new #[.int .i64 0, .slice none 0 0, .int .i64 0, .slice none 0 0] 40
        generalize V0.alloc (.cells #[.int .i64 0, .slice none 0 0, .int .i64 0, .slice none 0 0] 40) = V1 at k3 ⊢
        generalize V0.heap.size = g at k3 ⊢
        refine hKK.out _ _ (fun _ => HS.out _ _ _ k3 ZMB) (fun hSq => ?_)
        have hSh := HS.out _ _ _ k3 ZMB
        clear hKK KK hSq
        refine ZPT ?_
        refine wpAnyP.on 0 rfl fun KK hKK => ?_
        go_simp
        go_at_call 34
        refine (HOf.out _ _ _ k3).mono ?_
        rintro e V2 ⟨z0, rfl, gz0, k1⟩
        go_wp2_with fail
        refine hKK.out _ _ (fun _ => HS.out _ _ _ k1 ZMB) (fun hSq => ?_)
        have hSh := HS.out _ _ _ k1 ZMB
        clear hKK KK hSq
        refine ZPT ?_
        refine wpAnyP.on 5 rfl fun KK hKK => ?_
        go_simp
        go_at_call 50
        refine (HSu.out _ _ _ _ gz0.out k1 ZMB ZMB ZMB ZMB).mono ?_
        rintro e V3 ⟨y, rfl, gy, k2⟩
        go_wp2_with fail
        refine hKK.out _ _ (fun _ => HS.out _ _ _ k2 ZMB) (fun hSq => ?_)
        have hSh := HS.out _ _ _ k2 ZMB
        clear hKK KK hSq
        refine ZPT ?_
        refine wpAnyP.tkU 6 rfl ?_
        refine wpAnyP.tkU 7 rfl ?_
        refine wpAnyP.tkU 8 rfl ?_
        have kz := k2
        clear k2 k3
      all_goals
        refine wpAnyP.onF 10 rfl fun KK hKK => ?_
        have r := kz.rawS
        have zz := kz.thaw (g := g) (cs := #[.int .i64 0, .slice none 0 0, .int .i64 0, .slice none 0 0]) (t := 40) ZMB
        go_simp
        have K9 := kz.set4Z (b := g) (t := 40) (x0 := .int .i64 0) (x1 := .slice none 0 0) (x2 := .int .i64 0) (x3 := .slice none 0 0) (u0 := .int .i64 y.s) (u1 := .slice y.A y.n y.c) (u2 := .int .i64 y.t) (u3 := .slice y.B y.m y.d) (Upd.head _)
        refine hKK.out _ _ ?_
        clear hKK KK r zz
        refine ZPT ?_
        refine wpAnyP.tkF 11 rfl ?_
        refine ⟨by kernel_rfl, ?_⟩
        generalize ((((V3.setCell ⟨g, 0, none⟩ (.int .i64 y.s)).setCell ⟨g, 1, none⟩ (.slice y.A y.n y.c)).setCell ⟨g, 2, none⟩ (.int .i64 y.t)).setCell ⟨g, 3, none⟩ (.slice y.B y.m y.d)) = W9 at K9 ⊢
        have HV2 := Lib.hid (show (∀ j, j < k + 1 → (putF v k y j).fv = fvQ (- fvR l j)) ∧ ∀ b, rwS (k + 1) (putF v k y) b → w.heap.size ≤ b from ⟨fun j hj => by
          by_cases e : j = k
          · rw [e, putF_same]
            exact gy.out.1.fv
          · rw [putF_other e]
            exact HV.out.1 j (by omega), fun b ⟨j, hj, hS⟩ => by
          by_cases e : j = k
          · rw [e, putF_same] at hS
            rcases hS with ⟨-, a, ha, rfl⟩ | ⟨-, a, ha, rfl⟩
            · exact gy.out.2.1 a ha
            · exact gy.out.2.2 a ha
          · rw [putF_other e] at hS
            exact HV.out.2 b ⟨j, by omega, hS⟩⟩)
        have K8 : St w (X ++ [(g, #[.int .i64 y.s, .slice y.A y.n y.c, .int .i64 y.t, .slice y.B y.m y.d], 40)]) _ W9 := K9.perm (by classical exact List.perm_iff_count.2 fun z => by simp only [List.count_append, List.count_cons, List.count_nil]; omega)
        have hB := K8.blk (b := g) (cs := #[.int .i64 y.s, .slice y.A y.n y.c, .int .i64 y.t, .slice y.B y.m y.d]) (t := 40) (List.mem_append_right _ List.mem_cons_self)
        have d0 := hB.cell (j := 0) rfl
        have d1 := hB.cell (j := 1) rfl
        have d2 := hB.cell (j := 2) rfl
        have d3 := hB.cell (j := 3) rfl
        clear K9 kz hSh HS HOf HSu gz0 hB
        go_wp2_with (at_builtin; refine K8.app1 Ho.out rw_sized rfl _ _ 23 rfl _ 64 Try.underlying23 frac_made rfl rfl y _ rfl _ rfl (by exact rfl) (by rw [ofF_len]; omega) (by omega) ?_; clear d0 d1 d2 d3; intro v4 X4 W4 ho4 K4)
        rw [ofF_put] at ho4
        have Ho2 := Lib.hid ho4
        have HK := Lib.hid (((K4.rwAdd (v := v) (n := k) y ZMB ZMB ZMB).lessS (D' := [⟨rwP (k + 1) (putF v k y), rwS (k + 1) (putF v k y)⟩, ⟨fxP (some ⟨ab, ao, none⟩) n cap u, fxS (some ⟨ab, ao, none⟩) n u⟩]) (by repeat (first | with_reducible exact List.Sublist.refl _ | with_reducible apply List.Sublist.cons_cons | with_reducible apply List.Sublist.cons))).part (L' := X4 ++ []) (List.Sublist.append_left (List.nil_sublist _) _))
        clear K4 K8 ho4 HV Ho gy
        go_roundg (n - (k + 1))
        case rel => exact ⟨k + 1, _, _, X4, hlt, rfl, rfl, by go_num, HV2, Ho2, HK.out⟩
        case measure => omega
    · have e : n = k := by omega
      subst e
      have hltd : decide (n < n) = false := decide_eq_false hlt
      obtain ⟨Ao, co, hv, hro⟩ := Ho.out.frK K ZMB (by omega) HV.out.2
      subst hv
      rw [ofF_congr (g := fun i => fvQ (- fvR l i)) (fun i hi => HV.out.1 i hi)] at hro
      have HX := Lib.hid (show LstP w n (fun i => - fvR l i) (.returned (.slice Ao n co)) wr from ⟨Ao, co, rfl, hro, K.1⟩)
      clear Ho K hro HV hlt
      go_wp2_with fail
      go_ret
      exact HX.out
end Go.Proofs.Ytdlcglndhhndpaa
