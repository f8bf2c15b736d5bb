/- Laws and walks laid together; the conditions stand in each theorem. -/
import Derived.WalkKit
import Derived.Laws.OwnMore
import Derived.Deep.Draws
import Derived.Deep.AppendLies
import Derived.Lib.Hide
import Derived.ProofKit
import Derived.OpenShut
import Derived.ShutString
import Derived.ChangeOld
import Derived.Below
import Derived.SizedLaws
import Derived.Deep.SlicePairs
import Derived.Deep.Slices
import Derived.ChangeSame
import Derived.Maps.AppendAt
import Derived.RegionTactic
import Derived.OwnWalk
import Derived.Laws.CopyRow
import Derived.Laws.CopyOwn
import Derived.Deep.RegionHeld3
import Derived.Test.YtdlcglndhhndpaaProg
import Derived.LoopTactic
import Derived.Deep.QuietTactic
import Derived.BigQuiet
import Derived.Deep.LoopGhost
import Derived.IntWalk
import Derived.Handy
import Derived.Shelf.Abstract
import Derived.Lib.MinMax
import Derived.ArgAppend
import Derived.Laws.BitsLemmas
import Derived.Laws.BitsAllLaws
import Derived.Lib.LazyBuf
import Derived.Outline
import Derived.OrdersHeld
import Derived.BigRegion
import Derived.Maps.RangeWalk
import Derived.Deep.CutRange
import Derived.Deep.CutBlock
import Derived.Test.YtdlcglndhhndpaaS01
import Derived.Test.YtdlcglndhhndpaaT37
import Derived.Test.YtdlcglndhhndpaaT42
import Derived.Test.YtdlcglndhhndpaaT21
set_option linter.unusedSimpArgs false
set_option linter.unusedVariables false
namespace Go.Proofs.Ytdlcglndhhndpaa
open Go.RowKit
theorem ZS5 {p : Prop} (h : p := by
  first
    | (refine wpAnyP.onF 10 rfl fun KK hKK => ?_
       have zz := k2.thaw (g := g) (cs := #[.int .i64 0, .slice none 0 0, .int .i64 0, .slice none 0 0]) (t := 40) ZMB
       have r := (k2.blk (b := g) (cs := #[.int .i64 0, .slice none 0 0, .int .i64 0, .slice none 0 0]) (t := 40) ZMB)
       have r0 := r.cell (j := 0) rfl
       have r1 := r.cell (j := 1) rfl
       have r2 := r.cell (j := 2) rfl
       have r3 := r.cell (j := 3) rfl
       go_simp
       have K9 := k2.set4Z (b := g) (t := 40) (x0 := .int .i64 0) (x1 := .slice none 0 0) (x2 := .int .i64 0) (x3 := .slice none 0 0) (u0 := .int .i64 y.s) (u1 := .slice y.A y.n y.c) (u2 := .int .i64 y.t) (u3 := .slice y.B y.m y.d) (Upd.head _)
       refine hKK.out _ _ ?_
       clear hKK KK r r0 r1 r2 r3 zz
       refine ZPT ?_
       refine wpAnyP.tkF 11 rfl ?_
       refine ⟨by kernel_rfl, ?_⟩
       generalize ((((V2.setCell ⟨g, 0, none⟩ (.int .i64 y.s)).setCell ⟨g, 1, none⟩ (.slice y.A y.n y.c)).setCell ⟨g, 2, none⟩ (.int .i64 y.t)).setCell ⟨g, 3, none⟩ (.slice y.B y.m y.d)) = W9 at K9 ⊢
       have HV2 := Lib.hid (show (∀ j, j < k + 1 → (putF v k y j).fv = fvQ (fvR l j * q)) ∧ ∀ b, rwS (k + 1) (putF v k y) b → w.heap.size ≤ b from ⟨fun j hj => by
         by_cases e : j = k
         · rw [e, putF_same]
           exact gy.out.1.fv
         · rw [putF_other e]
           exact HV.out.1 j (by omega), fun b ⟨j, hj, hS⟩ => by
         by_cases e : j = k
         · rw [e, putF_same] at hS
           rcases hS with ⟨-, a, ha, rfl⟩ | ⟨-, a, ha, rfl⟩
           · exact gy.out.2.1 a ha
           · exact gy.out.2.2 a ha
         · rw [putF_other e] at hS
           exact HV.out.2 b ⟨j, by omega, hS⟩⟩)
       have K8 : St w (X ++ [(g, #[.int .i64 y.s, .slice y.A y.n y.c, .int .i64 y.t, .slice y.B y.m y.d], 40), (b0, #[.int .i64 f.s, .slice f.A f.n f.c, .int .i64 f.t, .slice f.B f.m f.d], 40)]) _ W9 := K9.perm (by classical exact List.perm_iff_count.2 fun z => by simp only [List.count_append, List.count_cons, List.count_nil]; omega)
       have hB := K8.blk (b := g) (cs := #[.int .i64 y.s, .slice y.A y.n y.c, .int .i64 y.t, .slice y.B y.m y.d]) (t := 40) (List.mem_append_right _ List.mem_cons_self)
       have d0 := hB.cell (j := 0) rfl
       have d1 := hB.cell (j := 1) rfl
       have d2 := hB.cell (j := 2) rfl
       have d3 := hB.cell (j := 3) rfl
       clear K9 k2 hSh HS HMu hB
       go_wp2_with (at_builtin; refine K8.app1 Ho.out rw_sized rfl _ _ 23 rfl _ 64 Try.underlying23 frac_made rfl rfl y _ rfl _ rfl (by exact rfl) (by rw [ofF_len]; omega) (by omega) ?_; clear d0 d1 d2 d3; intro v4 X4 W4 ho4 K4)
       rw [ofF_put] at ho4
       have Ho2 := Lib.hid ho4
       have HK := Lib.hid (((K4.rwAdd (v := v) (n := k) y ZMB ZMB ZMB).lessS (D' := [⟨rwP (k + 1) (putF v k y), rwS (k + 1) (putF v k y)⟩, ⟨fxP (some ⟨ab, ao, none⟩) n cap u, fxS (some ⟨ab, ao, none⟩) n u⟩, ⟨rdP f.B f.m f.d f.k, rdS f.B f.m⟩, ⟨rdP f.A f.n f.c f.l, rdS f.A f.n⟩]) (by repeat (first | with_reducible exact List.Sublist.refl _ | with_reducible apply List.Sublist.cons_cons | with_reducible apply List.Sublist.cons))).part (L' := X4 ++ [(b0, #[.int .i64 f.s, .slice f.A f.n f.c, .int .i64 f.t, .slice f.B f.m f.d], 40)]) (List.Sublist.append_left (List.sublist_cons_self _ _) _))
       clear K4 K8 ho4 HV Ho gy
       go_roundg (n - (k + 1))
       case rel => exact ⟨k + 1, _, _, X4, hlt, rfl, rfl, by go_num, HV2, Ho2, HK.out⟩
       case measure => omega)
    | fail) : p := h
theorem callMulN {w0 : World} {L : List Blk} {D : List Hl} {V : World} {x z : Rw} {p q : Rat} (K : St w0 L D V) (hx : isQ x p) (hz : isQ z q) (hm : mulK p q = true) (m1 : (⟨rdP x.A x.n x.c x.l, rdS x.A x.n⟩ : Hl) ∈ D) (m2 : (⟨rdP x.B x.m x.d x.k, rdS x.B x.m⟩ : Hl) ∈ D) (m3 : (⟨rdP z.A z.n z.c z.l, rdS z.A z.n⟩ : Hl) ∈ D) (m4 : (⟨rdP z.B z.m z.d z.k, rdS z.B z.m⟩ : Hl) ∈ D) :
    Calls Try.prog 36 #[.agg #[.int .i64 x.s, .slice x.A x.n x.c, .int .i64 x.t, .slice x.B x.m x.d], .agg #[.int .i64 z.s, .slice z.A z.n z.c, .int .i64 z.t, .slice z.B z.m z.d]] V (FrN w0 L D (p * q)) := by
  have h := qMul p q x.s x.t z.s z.t x.A x.B z.A z.B x.n x.c x.m x.d z.n z.c z.m z.d x.l x.k z.l z.k V (K.rd m1) (K.rd m2) (K.rd m3) (K.rd m4) hx.1 hx.2 hz.1 hz.2
  have e1 : mulO1 p q = some (p * q) := if_pos hm
  have e2 : mulE1 p q = 0 := if_pos hm
  rw [e1, e2] at h
  have hfit : fitsF (p * q) = true := mulK_fits hm
  exact h.mono fun e W' ⟨s31, A31, n31, c31, l31, t31, B31, m31, d31, k31, he, ⟨hra, hrb⟩, hop, ⟨hfa, hfb⟩, hbb⟩ => ⟨⟨s31, A31, n31, c31, l31, t31, B31, m31, d31, k31⟩, he, Lib.hid ⟨⟨hop, hfit⟩, fun a ha => Nat.le_trans K.1.size (hfa a ha), fun a ha => Nat.le_trans K.1.size (hfb a ha)⟩, K.retF hbb hra hrb hfa hfb⟩
set_option maxRecDepth 100000 in
set_option maxHeartbeats 8000000 in
theorem times9_any (A : Option Addr) (n cap : Nat) (l : List Fv) (f : Rw) (q : Rat) (w : World) (hl : RdF w w.heap.size A n cap l) (hn : n ≤ 1000) (hok : l.all Fv.ok = true) (hf : isQ f q) (h1 : RdI w w.heap.size f.A f.n f.c f.l) (h2 : RdI w w.heap.size f.B f.m f.d f.k) (hm : ∀ i, i < n → mulK (fvR l i) q = true) :
    Calls Try.prog 35 #[.slice A n cap, .agg #[.int .i64 f.s, .slice f.A f.n f.c, .int .i64 f.t, .slice f.B f.m f.d]] w (LstP w n fun i => fvR l i * q) := by
  have hcap := hl.caps
  have hc1 := h1.caps
  have hc2 := h2.caps
  obtain ⟨u, hu, K0⟩ := (((St.start w).rdOld h1).rdOld h2).fxOld hl
  have HQ := Lib.hid (show ∀ j, j < n → isQ (u j) (fvR l j) from fun j hj => by
    have h1 := hu j hj
    have h2 : (u j).fv.ok = true := List.all_eq_true.1 hok _ (List.mem_of_getElem? h1)
    unfold fvR
    rw [h1, Option.map_some, Option.getD_some]
    exact fv_std h2)
  have HM := Lib.hid hm
  have Hf := Lib.hid hf
  have K := K0.rwNew 0
  clear hl hok hu K0 h1 h2 hm hf
  go_enter Try.func35, Try.ntmps35
  go_wp2_with (apply K.box; rfl; rfl; rfl; clear K; intro W b0 K)
  replace K : St w ([] ++ [((b0, #[.int .i64 f.s, .slice f.A f.n f.c, .int .i64 f.t, .slice f.B f.m f.d], 40) : Blk)]) _ _ := K
  go_loopg [5, 6] n (fun gk s3 s4 wr => ∃ (k : Nat) (v : Nat → Rw) (val : Value) (X : List Blk), k ≤ n ∧ gk = n - k ∧ s3 = val ∧ s4 = .int .i64 k ∧ Hid ((∀ j, j < k → (v j).fv = fvQ (fvR l j * q)) ∧ ∀ b, rwS k v b → w.heap.size ≤ b) ∧ Hid (OwL 4 Rw.cs 40 val (ofF k v) X) ∧ St w (X ++ [((b0, #[.int .i64 f.s, .slice f.A f.n f.c, .int .i64 f.t, .slice f.B f.m f.d], 40) : Blk)]) [(⟨rwP k v, rwS k v⟩ : Hl), ⟨fxP A n cap u, fxS A n u⟩, ⟨rdP f.B f.m f.d f.k, rdS f.B f.m⟩, ⟨rdP f.A f.n f.c f.l, rdS f.A f.n⟩] wr)
  case atStart => exact ⟨0, fun _ => Rw.zero, _, [], Nat.zero_le _, rfl, rfl, rfl, Lib.hid ⟨fun j h => absurd h (by omega), fun b ⟨i, hi, _⟩ => absurd hi (by omega)⟩, Lib.hid OwL.nil, K⟩
  case round =>
    clear K
    obtain ⟨k, v, val, X, hk, rfl, rfl, rfl, HV, Ho, K⟩ := hrel
    by_cases hlt : k < n
    · have hki : (k : Int) < (n : Int) := by omega
      have hk0 : (0 : Int) ≤ (k : Int) := by omega
      have hltd : decide (k < n) = true := decide_eq_true hlt
      obtain ⟨ab, ao, hA⟩ := K.fxAt (A := A) (n := n) (cap := cap) (v := u) ZMB (by omega)
      subst hA
      have K := K.fxRd (n := n) (v := u) (i := k) ZMB hlt
      go_upto_region 5 with fail
      have HS := Lib.hid (fun V L5 D5 (h : St w L5 D5 V) (m5 : (⟨fxP (some ⟨ab, ao, none⟩) n cap u, fxS (some ⟨ab, ao, none⟩) n u⟩ : Hl) ∈ D5) (m6 : ((b0, #[.int .i64 f.s, .slice f.A f.n f.c, .int .i64 f.t, .slice f.B f.m f.d], 40) : Blk) ∈ L5) => (show (V.cell? ⟨ab, ao + k * 4, none⟩ = some (.int .i64 (u k).s) ∧ V.cell? ⟨ab, ao + k * 4 + 1, none⟩ = some (.slice (u k).A (u k).n (u k).c) ∧ V.cell? ⟨ab, ao + k * 4 + 2, none⟩ = some (.int .i64 (u k).t) ∧ V.cell? ⟨ab, ao + k * 4 + 3, none⟩ = some (.slice (u k).B (u k).m (u k).d)) ∧ (V.cell? ⟨b0, 0, none⟩ = some (.int .i64 f.s) ∧ V.cell? ⟨b0, 1, none⟩ = some (.slice f.A f.n f.c) ∧ V.cell? ⟨b0, 2, none⟩ = some (.int .i64 f.t) ∧ V.cell? ⟨b0, 3, none⟩ = some (.slice f.B f.m f.d)) from ⟨h.fxCell m5 hlt, (h.blk m6).cell (j := 0) rfl, (h.blk m6).cell (j := 1) rfl, (h.blk m6).cell (j := 2) rfl, (h.blk m6).cell (j := 3) rfl⟩))
      have HMu := Lib.hid (fun V L5 D5 (h : St w L5 D5 V) (m1 : (⟨rdP (u k).A (u k).n (u k).c (u k).l, rdS (u k).A (u k).n⟩ : Hl) ∈ D5) (m2 : (⟨rdP (u k).B (u k).m (u k).d (u k).k, rdS (u k).B (u k).m⟩ : Hl) ∈ D5) (m3 : (⟨rdP f.A f.n f.c f.l, rdS f.A f.n⟩ : Hl) ∈ D5) (m4 : (⟨rdP f.B f.m f.d f.k, rdS f.B f.m⟩ : Hl) ∈ D5) => callMulN h (HQ.out k hlt) Hf.out (HM.out k hlt) m1 m2 m3 m4)
      have K0 := K.drew
      have s0 := HS.out _ _ _ K0 ZMB (by repeat (first | with_reducible exact List.mem_append_right _ List.mem_cons_self | with_reducible exact List.mem_cons_self | with_reducible apply List.mem_cons_of_mem))
      clear K
      refine wp_region_P 10 (fun V => (V.cell? ⟨ab, ao + k * 4, none⟩ = some (.int .i64 (u k).s) ∧ V.cell? ⟨ab, ao + k * 4 + 1, none⟩ = some (.slice (u k).A (u k).n (u k).c) ∧ V.cell? ⟨ab, ao + k * 4 + 2, none⟩ = some (.int .i64 (u k).t) ∧ V.cell? ⟨ab, ao + k * 4 + 3, none⟩ = some (.slice (u k).B (u k).m (u k).d)) ∧ (V.cell? ⟨b0, 0, none⟩ = some (.int .i64 f.s) ∧ V.cell? ⟨b0, 1, none⟩ = some (.slice f.A f.n f.c) ∧ V.cell? ⟨b0, 2, none⟩ = some (.int .i64 f.t) ∧ V.cell? ⟨b0, 3, none⟩ = some (.slice f.B f.m f.d))) (by kernel_rfl) s0 (fun hSh => ?_)
      clear s0
      generalize World.drew wr = V0 at K0 hSh ⊢
      refine wpAnyP.tkU 0 rfl ?_
      refine wpAnyP.tkU 1 rfl ?_
      refine wpAnyP.tkU 2 rfl ?_
      refine wpAnyP.tk 3 rfl ?_
      refine wpAnyP.tk 4 rfl ?_
      refine wpAnyP.two (i := 5) (j := 9) rfl rfl rfl rfl (by kernel_rfl) (fun KK hKK => ?_) (fun KK hKK => ?_)
      · go_simp
        go_at_call 36
        refine (HMu.out _ _ _ K0 ZMB ZMB ZMB ZMB).mono ?_
        rintro e V1 ⟨y, rfl, gy, k1⟩
        go_wp2_with fail
        refine hKK.out _ _ (fun _ => HS.out _ _ _ k1 ZMB (by repeat (first | with_reducible exact List.mem_append_right _ List.mem_cons_self | with_reducible exact List.mem_cons_self | with_reducible apply List.mem_cons_of_mem))) (fun hSq => ?_)
        have hSh := HS.out _ _ _ k1 ZMB (by repeat (first | with_reducible exact List.mem_append_right _ List.mem_cons_self | with_reducible exact List.mem_cons_self | with_reducible apply List.mem_cons_of_mem))
        clear hKK KK hSq
        refine ZPT ?_
        refine wpAnyP.tkU 6 rfl ?_
        refine wpAnyP.tkU 7 rfl ?_
        refine wpAnyP.tkU 8 rfl ?_
        refine wpAnyP.on 9 rfl fun KK hKK => ?_
        go_simp
        have k2 := k1.new #[.int .i64 0, .slice none 0 0, .int .i64 0, .slice none 0 0] 40
        generalize V1.alloc (.cells #[.int .i64 0, .slice none 0 0, .int .i64 0, .slice none 0 0] 40) = V2 at k2 ⊢
        generalize V1.heap.size = g at k2 ⊢
        refine hKK.out _ _ (fun _ => HS.out _ _ _ k2 ZMB (by repeat (first | with_reducible exact List.mem_append_right _ List.mem_cons_self | with_reducible exact List.mem_cons_self | with_reducible apply List.mem_cons_of_mem))) (fun hSq => ?_)
        have hSh := HS.out _ _ _ k2 ZMB (by repeat (first | with_reducible exact List.mem_append_right _ List.mem_cons_self | with_reducible exact List.mem_cons_self | with_reducible apply List.mem_cons_of_mem))
        clear hKK KK hSq
        refine ZPT ?_
        exact ZS5
      · go_simp
        have k1 := K0.new #[.int .i64 0, .slice none 0 0, .int .i64 0, .slice none 0 0] 40
        generalize V0.alloc (.cells #[.int .i64 0, .slice none 0 0, .int .i64 0, .slice none 0 0] 40) = V1 at k1 ⊢
        generalize V0.heap.size = g at k1 ⊢
        refine hKK.out _ _ (fun _ => HS.out _ _ _ k1 ZMB (by repeat (first | with_reducible exact List.mem_append_right _ List.mem_cons_self | with_reducible exact List.mem_cons_self | with_reducible apply List.mem_cons_of_mem))) (fun hSq => ?_)
        have hSh := HS.out _ _ _ k1 ZMB (by repeat (first | with_reducible exact List.mem_append_right _ List.mem_cons_self | with_reducible exact List.mem_cons_self | with_reducible apply List.mem_cons_of_mem))
        clear hKK KK hSq
        refine ZPT ?_
        refine wpAnyP.on 5 rfl fun KK hKK => ?_
        go_simp
        go_at_call 36
        refine (HMu.out _ _ _ k1 ZMB ZMB ZMB ZMB).mono ?_
        rintro e V2 ⟨y, rfl, gy, k2⟩
        go_wp2_with fail
        refine hKK.out _ _ (fun _ => HS.out _ _ _ k2 ZMB (by repeat (first | with_reducible exact List.mem_append_right _ List.mem_cons_self | with_reducible exact List.mem_cons_self | with_reducible apply List.mem_cons_of_mem))) (fun hSq => ?_)
        have hSh := HS.out _ _ _ k2 ZMB (by repeat (first | with_reducible exact List.mem_append_right _ List.mem_cons_self | with_reducible exact List.mem_cons_self | with_reducible apply List.mem_cons_of_mem))
        clear hKK KK hSq
        refine ZPT ?_
        refine wpAnyP.tkU 6 rfl ?_
        refine wpAnyP.tkU 7 rfl ?_
        refine wpAnyP.tkU 8 rfl ?_
        exact ZS5
    · have e : n = k := by omega
      subst e
      have hltd : decide (n < n) = false := decide_eq_false hlt
      obtain ⟨Ao, co, hv, hro⟩ := Ho.out.frK K ZMB (by omega) HV.out.2
      subst hv
      rw [ofF_congr (g := fun i => fvQ (fvR l i * q)) (fun i hi => HV.out.1 i hi)] at hro
      have HX := Lib.hid (show LstP w n (fun i => fvR l i * q) (.returned (.slice Ao n co)) wr from ⟨Ao, co, rfl, hro, K.1⟩)
      clear Ho K hro HV hlt
      go_wp2_with fail
      go_ret
      exact HX.out
end Go.Proofs.Ytdlcglndhhndpaa
namespace Go.Proofs.Ytdlcglndhhndpaa
open Go.RowKit
section
variable {σ : Nat → Rat} {γ : Rat} {m n : Nat} {D D' : Dc}
theorem Scl.search (hσ : ∀ u, 0 < σ u) (hγ : 0 < γ) {R R' : Option Dc} (hS : Srch m n D R) : ∀ {D' : Dc}, Scl σ γ m n D D' → D.Ok m n → Srch m n D' R' → ∀ {E E' : Dc}, R = some E → R' = some E' → Scl σ γ m n E E' := by
  induction hS with
  | stop h1 =>
    intro D' h hD hS' E E' e e'
    cases e
    cases hS' with
    | stop _ => cases e'; exact h
    | full g _ => rw [h.pick hσ hγ] at g; exact absurd ⟨_, _, g⟩ h1
    | step g _ _ => rw [h.pick hσ hγ] at g; exact absurd ⟨_, _, g⟩ h1
  | full h1 h2 => intro D' h hD hS' E E' e e'; cases e
  | step h1 h2 h3 ih =>
    intro D' h hD hS' E E' e e'
    obtain ⟨k1, k2, -⟩ := Dc.pick_swap hD h1
    cases hS' with
    | stop g => exact absurd ⟨_, _, (h.pick hσ hγ).trans h1⟩ g
    | full _ _ => cases e'
    | step g _ g3 =>
      rw [h.pick hσ hγ, h1] at g
      cases g
      exact ih (h.xch hσ k1 k2 (pick_ne hD h1)) (hD.xch k1 k2) g3 e e'
end
inductive Kin (n : Nat) : LpEnd → LpEnd → Prop
  | none {y z : Nat → Rat} : Kin n (.none y) (.none z)
  | ray {x z : Nat → Rat} : Kin n (.ray x) (.ray z)
  | best {x y u v : Nat → Rat} (h : ∀ k, k < n → u k = x k) : Kin n (.best x y) (.best u v)
section
variable {m n : Nat} {A A' : Nat → Nat → Rat} {b c b' c' : Nat → Rat}
theorem scales_ends {E E' : LpEnd} (t : Nat → Rat) (γ : Rat) (ht : ∀ i, 0 < t i) (hγ : 0 < γ) (hA : ∀ i j, i < m → j < n → A' i j = t i * A i j) (hb : ∀ i, i < m → b' i = t i * b i) (hc : ∀ j, j < n → c' j = γ * c j)
    (h : LpSays m n A b c E) (h' : LpSays m n A' b' c' E') (hE : E ≠ .full) (hE' : E' ≠ .full) : Kin n E E' := by
  obtain ⟨σ, hσ⟩ : ∃ σ : Nat → Rat, σ = fun u => if u < n then 1 else t (u - n) := ⟨_, rfl⟩
  have s1 : ∀ u, u < n → σ u = 1 := fun u hu => by rw [hσ]; exact if_pos hu
  have s2 : ∀ i, σ (n + i) = t i := fun i => by
    rw [hσ]
    show (if n + i < n then 1 else t (n + i - n)) = t i
    rw [if_neg (by omega), Nat.add_sub_cancel_left]
  have sp : ∀ u, 0 < σ u := fun u => by
    rw [hσ]
    show 0 < if u < n then 1 else t (u - n)
    split
    · decide
    · exact ht _
  have opn : ∀ (c c' : Nat → Rat), (∀ j, j < n → c' j = γ * c j) → Scl σ γ m n (opnD n A b c) (opnD n A' b' c') := fun c c' hc => by
    refine ⟨rfl, rfl, fun i hi => ?_, fun i j hi hj => ?_, fun j hj => ?_⟩
    · show b' i = σ (n + i) * b i
      rw [s2, hb i hi]
    · show A' i j = σ (n + i) / σ j * A i j
      rw [s2, s1 j hj, hA i j hi hj]
      grind
    · show c' j = γ / σ j * c j
      rw [s1 j hj, hc j hj]
      grind
  have o0 := opn (fun _ => 0) (fun _ => 0) (fun j _ => by grind)
  have o1 := opn c c' hc
  have ok0 := opn_ok m n A b (fun _ => 0)
  have ok1 := opn_ok m n A b c
  cases h with
  | full1 _ => exact absurd rfl hE
  | full2 _ _ _ => exact absurd rfl hE
  | none h hr =>
    cases h' with
    | full1 _ => exact absurd rfl hE'
    | full2 _ _ _ => exact absurd rfl hE'
    | none g gr => exact .none
    | fin g gr _ =>
      have k := Scl.search sp hγ h o0 ok0 g rfl rfl
      exact absurd ((k.pick sp hγ).trans hr) (gr _)
  | fin h hr h2 =>
    rename_i D0 D
    cases h' with
    | full1 _ => exact absurd rfl hE'
    | full2 _ _ _ => exact absurd rfl hE'
    | none g gr =>
      have k := Scl.search sp hγ h o0 ok0 g rfl rfl
      exact absurd ((k.pick sp hγ).symm.trans gr) (hr _)
    | fin g gr g2 =>
      rename_i D0' D'
      have k := Scl.search sp hγ h2 o1 ok1 g2 rfl rfl
      obtain ⟨kO, -⟩ := h2.like ok1 _ rfl
      unfold endOf
      rw [k.pick sp hγ]
      split
      · exact .ray
      · refine .best fun u hu => ?_
        unfold xB
        rw [k.own]
        rcases idxP_spec D.own u m with ⟨q, -⟩ | ⟨i, q, hi, e⟩
        · rw [q]
        · rw [q]
          show D'.v i = D.v i
          rw [k.v i hi, e, s1 u hu]
          grind
end
end Go.Proofs.Ytdlcglndhhndpaa
