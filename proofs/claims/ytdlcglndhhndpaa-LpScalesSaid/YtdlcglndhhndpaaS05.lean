/- Laws and walks laid together; the conditions stand in each theorem. -/
import Derived.WalkKit
import Derived.Laws.OwnMore
import Derived.Deep.Draws
import Derived.Deep.AppendLies
import Derived.Lib.Hide
import Derived.ProofKit
import Derived.OpenShut
import Derived.ShutString
import Derived.ChangeOld
import Derived.Below
import Derived.SizedLaws
import Derived.Deep.SlicePairs
import Derived.Deep.Slices
import Derived.ChangeSame
import Derived.Maps.AppendAt
import Derived.RegionTactic
import Derived.OwnWalk
import Derived.Laws.CopyRow
import Derived.Laws.CopyOwn
import Derived.Deep.RegionHeld3
import Derived.Test.YtdlcglndhhndpaaProg
import Derived.LoopTactic
import Derived.Deep.QuietTactic
import Derived.BigQuiet
import Derived.Deep.LoopGhost
import Derived.IntWalk
import Derived.Handy
import Derived.Shelf.Abstract
import Derived.Lib.MinMax
import Derived.ArgAppend
import Derived.Laws.BitsLemmas
import Derived.Laws.BitsAllLaws
import Derived.Lib.LazyBuf
import Derived.Outline
import Derived.OrdersHeld
import Derived.BigRegion
import Derived.Maps.RangeWalk
import Derived.Deep.CutRange
import Derived.Deep.CutBlock
import Derived.Test.YtdlcglndhhndpaaS04
import Derived.Test.YtdlcglndhhndpaaS01
import Derived.Test.YtdlcglndhhndpaaS03
import Derived.Test.YtdlcglndhhndpaaS02
import Derived.Test.YtdlcglndhhndpaaT41
import Derived.Test.YtdlcglndhhndpaaT42
import Derived.Test.YtdlcglndhhndpaaT40
import Derived.Test.YtdlcglndhhndpaaT33
import Derived.Test.YtdlcglndhhndpaaT43
set_option linter.unusedSimpArgs false
set_option linter.unusedVariables false
namespace Go.Proofs.Ytdlcglndhhndpaa
open Go.RowKit
theorem ZS0 {p : Prop} (h : p := by
  first
    | (refine wpAnyT.on 15 rfl fun KK hKK => ?_
       refine K0.appOp Ho.out rr_sized _ _ 22 rfl _ 88 Try.underlying22 row_made rfl rfl (⟨(v k).A, (v k).n, (v k).c, (v k).a, z⟩ : Rr) gl _ (by first | exact List.mem_cons_self | exact List.mem_cons_of_mem _ List.mem_cons_self) rfl (by rw [ofF_len]; omega) (by omega) ?_; intro v1 X V0 ho1 K2; rw [ofF_put, ← hy5.out] at ho1; clear Ho; obtain ⟨gr, gd, J2, hv2, hX2, hg2⟩ := ho1.blk (by omega); clear ho1; subst hv2 hX2; replace K0 : St W6 ([((gr, recA Rr.cs (m + 1) (putF v m y5) J2, 45) : Blk)] ++ _) _ _ := K2; clear K2; refine hKK.out _ _ (HC6.out _ K0.1) (fun hSh => ?_); clear hKK KK; refine ZPT ?_
       refine wpAnyT.tkC 16 rfl ?_
       replace K0 := K0.perm (L' := [((gM, #[.slice none 0 0, .slice none 0 0], 58) : Blk), ((gr, recA Rr.cs (m + 1) (putF v m y5) J2, 45) : Blk), ((gl, #[.slice (v k).A (v k).n (v k).c, .int .i64 z.s, .slice z.A z.n z.c, .int .i64 z.t, .slice z.B z.m z.d], 45) : Blk)]) (by classical exact List.perm_iff_count.2 fun z => by simp only [List.count_append, List.count_cons, List.count_nil]; omega)
       refine wpAnyT.on 18 rfl fun KK hKK => ?_
       refine K0.setOpA rfl _ _ _ rfl (cs' := #[.slice A n cap, .slice (some ⟨gr, 0, none⟩) (m + 1) gd]) rfl rfl (Upd.head _) prog_size rfl rfl rfl ?_
       intro V9 K9
       refine hKK.out _ _ (HC6.out _ K9.1) (fun hSh => ?_)
       clear hKK KK K0
       refine ZPT ?_
       refine wpAnyT.done (by kernel_rfl) ?_
       go_wp2_with fail
       go_meet
       exact ⟨gM, gr, gd, J2, gl, rfl, (HR0 _ _ _ _ _ _).2 ⟨hg2, K9⟩⟩)
    | fail) : p := h
theorem ZS1 {p : Prop} (h : p := by
  first
    | (replace K0 := K0.perm (L' := [((gM, #[.slice none 0 0, .slice none 0 0], 58) : Blk), ((gr, recA Rr.cs (m + 1) (putF v m y5) J2, 45) : Blk), ((gl, #[.slice (v k).A (v k).n (v k).c, .int .i64 z.s, .slice z.A z.n z.c, .int .i64 z.t, .slice z.B z.m z.d], 45) : Blk)]) (by classical exact List.perm_iff_count.2 fun z => by simp only [List.count_append, List.count_cons, List.count_nil]; omega)
       refine wpAnyT.on 18 rfl fun KK hKK => ?_
       refine K0.setOpA rfl _ _ _ rfl (cs' := #[.slice A n cap, .slice (some ⟨gr, 0, none⟩) (m + 1) gd]) rfl rfl (Upd.head _) prog_size rfl rfl rfl ?_
       intro V9 K9
       refine hKK.out _ _ (HC6.out _ K9.1) (fun hSh => ?_)
       clear hKK KK K0
       refine ZPT ?_
       refine wpAnyT.done (by kernel_rfl) ?_
       go_wp2_with fail
       go_meet
       exact ⟨gM, gr, gd, J2, gl, rfl, (HR0 _ _ _ _ _ _).2 ⟨hg2, K9⟩⟩)
    | fail) : p := h
theorem ZS2 {p : Prop} (h : p := by
  first
    | (refine wpAnyT.on 7 rfl fun KK hKK => ?_
       refine K0.appWOp (OwL.empty 5 Rr.cs 45 _) rr_sized _ _ 22 rfl _ 88 Try.underlying22 row_made rfl rfl _ m cap' (ofF m v) rfl (HRv.out _ K0.1) (by simp; omega) (by omega) ?_; intro v1 X1 V0 ho1 K2; rw [List.nil_append] at ho1; obtain ⟨gs, gc, J, hv1, hX1, hgc⟩ := ho1.blk hm0; clear ho1; subst hv1 hX1; replace K0 : St w ([((gs, recA Rr.cs m v J, 45) : Blk)] ++ _) _ _ := K2; clear K2; refine hKK.out _ _ (HS7.out _ _ _ K0 ZMA ZMA) (fun hSh => ?_); clear hKK KK; refine ZPT ?_
       refine wpAnyT.tkC 8 rfl ?_
       replace K0 := K0.perm (L' := ((gP, #[.slice none 0 0, .slice none 0 0], 58) : Blk) :: ((gs, recA Rr.cs m v J, 45) : Blk) :: [((b3, #[.int .i64 f2.s, .slice f2.A f2.n f2.c, .int .i64 f2.t, .slice f2.B f2.m f2.d], 40) : Blk), ((b2, #[.int .i64 f1.s, .slice f1.A f1.n f1.c, .int .i64 f1.t, .slice f1.B f1.m f1.d], 40) : Blk), ((b1, #[.int .i64 z.s, .slice z.A z.n z.c, .int .i64 z.t, .slice z.B z.m z.d], 40) : Blk), ((b0, #[.slice A n cap, .slice (some ⟨eo, off, none⟩) m cap'], 58) : Blk)]) (by classical exact List.perm_iff_count.2 fun z => by simp only [List.count_append, List.count_cons, List.count_nil]; omega)
       refine wpAnyT.on 10 rfl fun KK hKK => ?_
       refine K0.setOpA rfl _ _ _ rfl (cs' := #[.slice A7 n c7, .slice (some ⟨gs, 0, none⟩) m gc]) rfl rfl (Upd.head _) prog_size rfl rfl rfl ?_
       intro V9 K9
       refine hKK.out _ _ (HS7.out _ _ _ K9 ZMB ZMB) (fun hSh => ?_)
       clear hKK KK K0
       refine ZPT ?_
       refine wpAnyT.done (by kernel_rfl) ?_
       clear HS7 HT7
       go_wp2_with fail
       go_meet
       exact ⟨gP, gs, gc, J, A7, c7, S7, rfl, (HR0 _ _ _ _ _ _ _ _).2 ⟨hgc, K9⟩⟩)
    | fail) : p := h
theorem ZS3 {p : Prop} (h : p := by
  first
    | (replace K0 := K0.perm (L' := ((gP, #[.slice none 0 0, .slice none 0 0], 58) : Blk) :: ((gs, recA Rr.cs m v J, 45) : Blk) :: [((b3, #[.int .i64 f2.s, .slice f2.A f2.n f2.c, .int .i64 f2.t, .slice f2.B f2.m f2.d], 40) : Blk), ((b2, #[.int .i64 f1.s, .slice f1.A f1.n f1.c, .int .i64 f1.t, .slice f1.B f1.m f1.d], 40) : Blk), ((b1, #[.int .i64 z.s, .slice z.A z.n z.c, .int .i64 z.t, .slice z.B z.m z.d], 40) : Blk), ((b0, #[.slice A n cap, .slice (some ⟨eo, off, none⟩) m cap'], 58) : Blk)]) (by classical exact List.perm_iff_count.2 fun z => by simp only [List.count_append, List.count_cons, List.count_nil]; omega)
       refine wpAnyT.on 10 rfl fun KK hKK => ?_
       refine K0.setOpA rfl _ _ _ rfl (cs' := #[.slice A7 n c7, .slice (some ⟨gs, 0, none⟩) m gc]) rfl rfl (Upd.head _) prog_size rfl rfl rfl ?_
       intro V9 K9
       refine hKK.out _ _ (HS7.out _ _ _ K9 ZMB ZMB) (fun hSh => ?_)
       clear hKK KK K0
       refine ZPT ?_
       refine wpAnyT.done (by kernel_rfl) ?_
       clear HS7 HT7
       go_wp2_with fail
       go_meet
       exact ⟨gP, gs, gc, J, A7, c7, S7, rfl, (HR0 _ _ _ _ _ _ _ _).2 ⟨hgc, K9⟩⟩)
    | fail) : p := h
theorem ZS4 {p : Prop} (h : p := by
  first
    | (go_enter Try.func8, Try.ntmps8
       go_wp2_with (first
         | (apply K.box; rfl; rfl; rfl; clear K r; (first | ((fail_if_success revert b0); intro W b0 K) | intro W b1 K); have r := K.rawS)
         | (go_at_call 28; refine (HSm.out _).mono ?_; rintro e W ⟨rfl, hb1⟩; replace K := K.keep hb1; clear r hb1; have r := K.rawS)
         | (go_at_call 29; refine (HFew.out _ K.1).mono ?_; rintro e W ⟨rfl, hb1⟩; replace K := K.keep hb1; clear r hb1; have r := K.rawS)
         | (go_at_call 30; refine (HRt.out _ K.1).mono ?_; rintro e W ⟨rfl, hb1⟩; replace K := K.keep hb1; clear r hb1; have r := K.rawS)
         | (go_at_call 20; refine (HF5.out _).mono ?_; rintro e W ⟨rfl, hb1⟩; replace K := K.keep hb1; clear r hb1; have r := K.rawS)
         | (go_at_call 21; refine (HR5.out _ K.rda K.rda).mono ?_; rintro e W ⟨rfl, hb1⟩; replace K := K.keep hb1; clear r hb1; have r := K.rawS))
       (go_ret; exact ⟨rfl, K.1⟩))
    | fail) : p := h
theorem ZS7 {p : Prop} (h : p := by
  first
    | (go_upto_region 24 with (first
         | (apply K.alloc; rfl; rfl; exact frac_zero; clear K; intro W b9 K)
         | (apply K.storeA; rfl; rfl; rfl; rfl; rfl; (exact ZUP); exact frac_size; rfl; rfl; rfl; clear K; intro W K))
       have hBb8 := K.blk (b := b8) (cs := #[.int .i64 z1.s, .slice z1.A z1.n z1.c, .int .i64 z1.t, .slice z1.B z1.m z1.d]) (t := 40) ZMB
       have e0b8 := hBb8.cell (j := 0) rfl
       have e1b8 := hBb8.cell (j := 1) rfl
       have e2b8 := hBb8.cell (j := 2) rfl
       have e3b8 := hBb8.cell (j := 3) rfl
       clear hBb8
       have hBb9 := K.blk (b := b9) (cs := #[.int .i64 z2.s, .slice z2.A z2.n z2.c, .int .i64 z2.t, .slice z2.B z2.m z2.d]) (t := 40) ZMB
       have e0b9 := hBb9.cell (j := 0) rfl
       have e1b9 := hBb9.cell (j := 1) rfl
       have e2b9 := hBb9.cell (j := 2) rfl
       have e3b9 := hBb9.cell (j := 3) rfl
       clear hBb9
       go_wp2_with (fail)
       go_ret
       exact ⟨rfl, HBe.out.trans (K.1.mono HBe.out.size)⟩)
    | fail) : p := h
theorem ZS8 {p : Prop} (h : p := by first | ((dsimp only [lpC]; go_wp2_with fail; go_ret; exact ⟨rfl, HBe.out⟩)) | fail) : p := h
theorem ZS9 {p : Prop} (h : p := by
  first
    | (refine wpAnyT.on 12 rfl fun KK hKK => ?_
       refine K0.setOpA rfl _ _ _ rfl (cs' := #[.int .i64 y.s, .slice y.A y.n y.c, .int .i64 y.t, .slice y.B y.m y.d]) rfl rfl (Upd.head _) frac_size rfl rfl rfl ?_
       intro V9 K9
       refine hKK.out _ _ (HS8.out _ _ _ K9 ZMB ZMB) (fun hSh => ?_)
       clear hKK KK K0
       refine ZPT ?_
       refine wpAnyT.tkC 13 rfl ?_
       refine wpAnyT.done (by kernel_rfl) ?_
       clear HS8 HM8
       go_wp2_with fail
       go_meet
       exact ⟨g, y, rfl, rfl, Lib.hid hy.out.1, (HR0 _ _ _).2 K9⟩)
    | fail) : p := h
theorem ZS10 {p : Prop} (h : p := by first | ((dsimp only [lpC]; go_wp2_with fail; go_meet; exact ⟨rfl, hb7⟩)) | fail) : p := h
theorem putF_rv9 {a : Nat} {v : Nat → Rr} {z : Rr} : (fun i => (putF v a z i).rv) = putF (fun i => (v i).rv) a z.rv := by
  funext i
  by_cases e : i = a
  · rw [e, putF_same, putF_same]
  · rw [putF_other e, putF_other e]
set_option maxRecDepth 100000 in
set_option maxHeartbeats 16000000 in
theorem scales9_any (A A' : Option Addr) (n cap m cap' : Nat) (l : List Fv) (ls : List Rv) (i1 i2 i3 : Int) (z : Rw) (w : World) (hl : RdF w w.heap.size A n cap l) (hr : RdR w w.heap.size A' m cap' ls) (hi1 : 0 ≤ i1 ∧ i1 ≤ 255) (hi2 : 0 ≤ i2 ∧ i2 ≤ 255) (hi3 : 0 ≤ i3 ∧ i3 ≤ 255)
    (r1 : RdI w w.heap.size z.A z.n z.c z.l) (r2 : RdI w w.heap.size z.B z.m z.d z.k) :
    Calls Try.prog 8 #[.agg #[.slice A n cap, .slice A' m cap'], .int .u8 i1, .int .u8 i2, .int .u8 i3, .agg #[.int .i64 z.s, .slice z.A z.n z.c, .int .i64 z.t, .slice z.B z.m z.d]] w fun e w' => e = .returned (.bool true) ∧ Below w.heap.size w w' := by
  have hcap := hl.caps
  have hcap' := hr.caps
  have hc1 := r1.caps
  have hc2 := r2.caps
  have hlen := hl.len
  have hlenr := hr.len
  have hlz := r1.len
  have hlz2 := r2.len
  have K := ((St.start w).rdOld r1).rdOld r2
  have r := K.raw
  have HFew := Lib.hid (fun W (h : Below w.heap.size w W) => few9_any A A' n cap m cap' l ls W (hl.up fE_lasts h) (hr.up rE_lasts h))
  have HSm := Lib.hid alive9_any
  have HGo := Lib.hid (fun W (h : Below w.heap.size w W) => hl.up fE_lasts h)
  have HRo := Lib.hid (fun W (h : Below w.heap.size w W) => hr.up rE_lasts h)
  have HR0w := Lib.hid hr
  have HZ := Lib.hid (show z.on w from ⟨r1, r2⟩)
  clear hl hr r1 r2
  cases hf : fewP l ls
  case false =>
    rw [hf] at HFew
    clear hlen hlenr hlz hlz2 hf
    exact ZS4
  rw [hf] at HFew
  obtain ⟨hn4, hm4, -, -⟩ := fewP_parts hf
  rw [hlen] at hn4
  rw [hlenr] at hm4
  have HRt := Lib.hid (fun W (h : Below w.heap.size w W) => pright_any A A' n cap m cap' l ls W (HGo.out W h) (HRo.out W h) (by omega) (by omega))
  cases hok : (l.all Fv.ok && ls.all (rowF n))
  case false =>
    rw [hok] at HRt
    clear hlen hlenr hlz hlz2 hok hf
    exact ZS4
  rw [hok] at HRt
  by_cases hm0 : m = 0
  case pos =>
    have hmm : ((m : Int) == 0) = true := by rw [hm0]; rfl
    clear hlen hlenr hlz hlz2 hok hm0 hf
    exact ZS4
  have hmm : ((m : Int) == 0) = false := by rw [beq_eq_false_iff_ne]; omega
  have HF5 := Lib.hid (fun V => gfew_any z.s z.t z.A z.B z.n z.c z.m z.d 1 V)
  cases hf5 : fewF z.n z.m 1
  case false =>
    rw [hf5] at HF5
    clear hlen hlenr hlz hlz2 hok hm0 hf
    exact ZS4
  rw [hf5] at HF5
  have HR5 := Lib.hid (fun V a b => fRight_any z.s z.t z.A z.B z.n z.c z.m z.d z.l z.k V a b)
  cases hr5 : rightF z.s z.l z.t z.k
  case false =>
    rw [hr5] at HR5
    clear hlen hlenr hlz hlz2 hok hm0 hf
    exact ZS4
  rw [hr5] at HR5
  have hm0 : 0 < m := by omega
  have hz : z.fv.ok = true := hr5
  obtain ⟨ea, hk⟩ := tmod_nat hi1.1 hm0
  obtain ⟨eb, hu⟩ := tmod_nat hi2.1 (show 0 < 9 by omega)
  obtain ⟨ec, ht⟩ := tmod_nat hi3.1 (show 0 < 9 by omega)
  generalize i1.toNat % m = k at *
  generalize i2.toNat % 9 = u at *
  generalize i3.toNat % 9 = t at *
  have eb : i2.tmod 9 = (u : Int) := eb
  have ec : i3.tmod 9 = (t : Int) := ec
  have wi : IntKind.i64.wrap i1 = i1 := IntWalk.i64_in _ (by omega)
  have wa : IntKind.i64.wrap (k : Int) = (k : Int) := IntWalk.i64_in _ (by omega)
  have wb : IntKind.u8.wrap (u : Int) = (u : Int) := IntWalk.u8_in _ (by omega)
  have wb2 : IntKind.i64.wrap (u : Int) = (u : Int) := IntWalk.i64_in _ (by omega)
  have wb3 : IntKind.i64.wrap (1 + (u : Int)) = 1 + (u : Int) := IntWalk.i64_in _ (by omega)
  have wc : IntKind.u8.wrap (t : Int) = (t : Int) := IntWalk.u8_in _ (by omega)
  have wc2 : IntKind.i64.wrap (t : Int) = (t : Int) := IntWalk.i64_in _ (by omega)
  have wc3 : IntKind.i64.wrap (1 + (t : Int)) = 1 + (t : Int) := IntWalk.i64_in _ (by omega)
  have hmz : ¬ (m : Int) = 0 := by omega
  have hki : (k : Int) < (m : Int) := by omega
  have hk0 : (0 : Int) ≤ (k : Int) := by omega
  obtain ⟨v, rv, hon, hlv⟩ := rdR_raw HR0w.out rfl
  obtain ⟨eo, off, hA, hbB, hcell⟩ := rr_cells rv hm0
  subst hA
  have HCl := Lib.hid (fun W (h : Below w.heap.size w W) => (⟨(h.cell (p := ⟨eo, off + k * 5, none⟩) hbB).trans (hcell k hk).1, (h.cell (p := ⟨eo, off + k * 5 + 1, none⟩) hbB).trans (hcell k hk).2.1, (h.cell (p := ⟨eo, off + k * 5 + 2, none⟩) hbB).trans (hcell k hk).2.2.1, (h.cell (p := ⟨eo, off + k * 5 + 3, none⟩) hbB).trans (hcell k hk).2.2.2.1, (h.cell (p := ⟨eo, off + k * 5 + 4, none⟩) hbB).trans (hcell k hk).2.2.2.2⟩ : (W.cell? ⟨eo, off + k * 5, none⟩ = some (.slice (v k).A (v k).n (v k).c) ∧ W.cell? ⟨eo, off + k * 5 + 1, none⟩ = some (.int .i64 (v k).y.s) ∧ W.cell? ⟨eo, off + k * 5 + 2, none⟩ = some (.slice (v k).y.A (v k).y.n (v k).y.c) ∧ W.cell? ⟨eo, off + k * 5 + 3, none⟩ = some (.int .i64 (v k).y.t) ∧ W.cell? ⟨eo, off + k * 5 + 4, none⟩ = some (.slice (v k).y.B (v k).y.m (v k).y.d))))
  have HRv := Lib.hid (fun W (h : Below w.heap.size w W) => rv.up (flat_lasts _) h)
  have HV := Lib.hid (show ∀ i, i < m → ls[i]? = some ((fun i => (v i).rv) i) from hlv)
  have HOn := Lib.hid hon
  have hmem : (v k).rv ∈ ls := List.mem_of_getElem? (hlv k hk)
  have HSc := Lib.hid (scal_row hf hok hmem hu)
  have HSg := Lib.hid (scal_mul hf hok hlen ht)
  obtain ⟨hra1, hra2, hra3⟩ := rowF_parts (List.all_eq_true.1 (Bool.and_eq_true .. ▸ hok : _ ∧ _).2 _ hmem)
  have HNa := Lib.hid (show (v k).n = n from by rw [← (hon k hk).1.len]; exact hra1)
  have HOk := Lib.hid hok
  have HFw := Lib.hid hf
  have HO1 := Lib.hid (fun V L5 D5 (h : St w L5 D5 V) => (show Calls Try.prog 34 #[.int .i64 (1 + (u : Int))] V fun e W6 => ∃ z : Rw, e = Ending.returned (.agg #[.int .i64 z.s, .slice z.A z.n z.c, .int .i64 z.t, .slice z.B z.m z.d]) ∧ Hid (isQ z (facQ u) ∧ FrA w.heap.size z.A ∧ FrA w.heap.size z.B) ∧ St w L5 (⟨rdP z.B z.m z.d z.k, rdS z.B z.m⟩ :: ⟨rdP z.A z.n z.c z.l, rdS z.A z.n⟩ :: D5) W6 from callOfN (1 + (u : Int)) ⟨by omega, by omega⟩ (fac_fits hu) h))
  have HO2 := Lib.hid (fun V L5 D5 (h : St w L5 D5 V) => (show Calls Try.prog 34 #[.int .i64 (1 + (t : Int))] V fun e W6 => ∃ z : Rw, e = Ending.returned (.agg #[.int .i64 z.s, .slice z.A z.n z.c, .int .i64 z.t, .slice z.B z.m z.d]) ∧ Hid (isQ z (facQ t) ∧ FrA w.heap.size z.A ∧ FrA w.heap.size z.B) ∧ St w L5 (⟨rdP z.B z.m z.d z.k, rdS z.B z.m⟩ :: ⟨rdP z.A z.n z.c z.l, rdS z.A z.n⟩ :: D5) W6 from callOfN (1 + (t : Int)) ⟨by omega, by omega⟩ (fac_fits ht) h))
  have hlok : l.all Fv.ok = true := by rw [Bool.and_eq_true] at hok; exact hok.1
  clear hmem hok hf hon hlv hcell rv hra1 HR0w
  go_enter Try.func8, Try.ntmps8
  go_wp2_with (first
    | (apply K.box; rfl; rfl; rfl; clear K r; (first | ((fail_if_success revert b0); intro W b0 K) | intro W b1 K); have r := K.rawS)
    | (go_at_call 28; refine (HSm.out _).mono ?_; rintro e W ⟨rfl, hb1⟩; replace K := K.keep hb1; clear r hb1; have r := K.rawS)
    | (go_at_call 29; refine (HFew.out _ K.1).mono ?_; rintro e W ⟨rfl, hb1⟩; replace K := K.keep hb1; clear r hb1; have r := K.rawS)
    | (go_at_call 30; refine (HRt.out _ K.1).mono ?_; rintro e W ⟨rfl, hb1⟩; replace K := K.keep hb1; clear r hb1; have r := K.rawS)
    | (go_at_call 20; refine (HF5.out _).mono ?_; rintro e W ⟨rfl, hb1⟩; replace K := K.keep hb1; clear r hb1; have r := K.rawS)
    | (go_at_call 21; refine (HR5.out _ K.rda K.rda).mono ?_; rintro e W ⟨rfl, hb1⟩; replace K := K.keep hb1; clear r hb1; have r := K.rawS))
  refine (HO1.out _ _ _ K).mono ?_
  rintro e W ⟨f1, rfl, hf1, K2⟩
  replace K := K2
  clear K2 r
  have r := K.rawS
  go_wp2_with (first | (refine ZAL ?_; clear K r; (first | ((fail_if_success revert b0); intro W b0 K r) | ((fail_if_success revert b1); intro W b1 K r) | ((fail_if_success revert b2); intro W b2 K r) | ((fail_if_success revert b3); intro W b3 K r) | ((fail_if_success revert b4); intro W b4 K r) | ((fail_if_success revert b5); intro W b5 K r) | ((fail_if_success revert b6); intro W b6 K r) | ((fail_if_success revert b7); intro W b7 K r) | ((fail_if_success revert b8); intro W b8 K r) | ((fail_if_success revert b9); intro W b9 K r) | intro W b K r)) | (refine ZST ?_; clear K r; intro W K r))
  refine (HO2.out _ _ _ K).mono ?_
  rintro e W ⟨f2, rfl, hf2, K2⟩
  replace K := K2
  clear K2 r
  have r := K.rawS
  go_wp2_with (first | (refine ZAL ?_; clear K r; (first | ((fail_if_success revert b0); intro W b0 K r) | ((fail_if_success revert b1); intro W b1 K r) | ((fail_if_success revert b2); intro W b2 K r) | ((fail_if_success revert b3); intro W b3 K r) | ((fail_if_success revert b4); intro W b4 K r) | ((fail_if_success revert b5); intro W b5 K r) | ((fail_if_success revert b6); intro W b6 K r) | ((fail_if_success revert b7); intro W b7 K r) | ((fail_if_success revert b8); intro W b8 K r) | ((fail_if_success revert b9); intro W b9 K r) | intro W b K r)) | (refine ZST ?_; clear K r; intro W K r))
  go_frame
  have HS7 := Lib.hid (fun V L5 D5 (h : St w L5 D5 V) (m5 : ((b0, #[.slice A n cap, .slice (some ⟨eo, off, none⟩) m cap'], 58) : Blk) ∈ L5) (m6 : ((b3, #[.int .i64 f2.s, .slice f2.A f2.n f2.c, .int .i64 f2.t, .slice f2.B f2.m f2.d], 40) : Blk) ∈ L5) => (show (V.cell? ⟨b0, 0, none⟩ = some (.slice A n cap) ∧ V.cell? ⟨b0, 1, none⟩ = some (.slice (some ⟨eo, off, none⟩) m cap')) ∧ (V.cell? ⟨b3, 0, none⟩ = some (.int .i64 f2.s) ∧ V.cell? ⟨b3, 1, none⟩ = some (.slice f2.A f2.n f2.c) ∧ V.cell? ⟨b3, 2, none⟩ = some (.int .i64 f2.t) ∧ V.cell? ⟨b3, 3, none⟩ = some (.slice f2.B f2.m f2.d)) ∧ (V.cell? ⟨eo, off + k * 5, none⟩ = some (.slice (v k).A (v k).n (v k).c) ∧ V.cell? ⟨eo, off + k * 5 + 1, none⟩ = some (.int .i64 (v k).y.s) ∧ V.cell? ⟨eo, off + k * 5 + 2, none⟩ = some (.slice (v k).y.A (v k).y.n (v k).y.c) ∧ V.cell? ⟨eo, off + k * 5 + 3, none⟩ = some (.int .i64 (v k).y.t) ∧ V.cell? ⟨eo, off + k * 5 + 4, none⟩ = some (.slice (v k).y.B (v k).y.m (v k).y.d)) from ⟨⟨(h.blk m5).cell (j := 0) rfl, (h.blk m5).cell (j := 1) rfl⟩, ⟨(h.blk m6).cell (j := 0) rfl, (h.blk m6).cell (j := 1) rfl, (h.blk m6).cell (j := 2) rfl, (h.blk m6).cell (j := 3) rfl⟩, HCl.out V h.1⟩))
  have HT7 := Lib.hid (fun V L5 D5 (h : St w L5 D5 V) (m3 : (⟨rdP f2.A f2.n f2.c f2.l, rdS f2.A f2.n⟩ : Hl) ∈ D5) (m4 : (⟨rdP f2.B f2.m f2.d f2.k, rdS f2.B f2.m⟩ : Hl) ∈ D5) => (times9_any A n cap l f2 (facQ t) V (HGo.out V h.1) (by omega) hlok hf2.out.1 (h.rd m3) (h.rd m4) HSg.out).mono fun e W' ⟨A7, c7, he, hk, hb⟩ => (⟨A7, c7, betS V W', he, h.addK hb hk⟩ : ∃ A7 c7 S, e = Ending.returned (.slice A7 n c7) ∧ St w L5 (⟨rfQ A7 n c7 (scL n (facQ t) l), S⟩ :: D5) W'))
  obtain ⟨RR, HR0⟩ : ∃ R : Nat → Nat → Nat → List Value → Option Addr → Nat → (Nat → Prop) → World → Prop, ∀ g gs gc J A7 c7 S W', R g gs gc J A7 c7 S W' ↔ (m ≤ gc ∧ gc ≤ 9223372036854775807) ∧ St w (((g, #[.slice A7 n c7, .slice (some ⟨gs, 0, none⟩) m gc], 58) : Blk) :: ((gs, recA Rr.cs m v J, 45) : Blk) :: [((b3, #[.int .i64 f2.s, .slice f2.A f2.n f2.c, .int .i64 f2.t, .slice f2.B f2.m f2.d], 40) : Blk), ((b2, #[.int .i64 f1.s, .slice f1.A f1.n f1.c, .int .i64 f1.t, .slice f1.B f1.m f1.d], 40) : Blk), ((b1, #[.int .i64 z.s, .slice z.A z.n z.c, .int .i64 z.t, .slice z.B z.m z.d], 40) : Blk), ((b0, #[.slice A n cap, .slice (some ⟨eo, off, none⟩) m cap'], 58) : Blk)]) (⟨rfQ A7 n c7 (scL n (facQ t) l), S⟩ :: (⟨rdP f2.B f2.m f2.d f2.k, rdS f2.B f2.m⟩ :: ⟨rdP f2.A f2.n f2.c f2.l, rdS f2.A f2.n⟩ :: ⟨rdP f1.B f1.m f1.d f1.k, rdS f1.B f1.m⟩ :: ⟨rdP f1.A f1.n f1.c f1.l, rdS f1.A f1.n⟩ :: ⟨rdP z.B z.m z.d z.k, rdS z.B z.m⟩ :: ⟨rdP z.A z.n z.c z.l, rdS z.A z.n⟩ :: [] : List Hl)) W' := ⟨_, fun _ _ _ _ _ _ _ _ => Iff.rfl⟩
  have HLen := Lib.hid hlen
  clear hlen hlenr hlz hlz2 ea eb ec wi wa wb wb2 wb3 wc wc2 wc3 hmz
  go_cut [15] from 74 to 82 (fun q wx => ∃ g gs gc J A7 c7 S, q = .pointer (some ⟨g, 0, none⟩) ∧ RR g gs gc J A7 c7 S wx)
  case first =>
    have K0 := K.drew
    have s0 := HS7.out _ _ _ K0 ZMB ZMB
    clear K r
    refine wp_region_T 100 (fun V => (V.cell? ⟨b0, 0, none⟩ = some (.slice A n cap) ∧ V.cell? ⟨b0, 1, none⟩ = some (.slice (some ⟨eo, off, none⟩) m cap')) ∧ (V.cell? ⟨b3, 0, none⟩ = some (.int .i64 f2.s) ∧ V.cell? ⟨b3, 1, none⟩ = some (.slice f2.A f2.n f2.c) ∧ V.cell? ⟨b3, 2, none⟩ = some (.int .i64 f2.t) ∧ V.cell? ⟨b3, 3, none⟩ = some (.slice f2.B f2.m f2.d)) ∧ (V.cell? ⟨eo, off + k * 5, none⟩ = some (.slice (v k).A (v k).n (v k).c) ∧ V.cell? ⟨eo, off + k * 5 + 1, none⟩ = some (.int .i64 (v k).y.s) ∧ V.cell? ⟨eo, off + k * 5 + 2, none⟩ = some (.slice (v k).y.A (v k).y.n (v k).y.c) ∧ V.cell? ⟨eo, off + k * 5 + 3, none⟩ = some (.int .i64 (v k).y.t) ∧ V.cell? ⟨eo, off + k * 5 + 4, none⟩ = some (.slice (v k).y.B (v k).y.m (v k).y.d))) (by kernel_rfl) s0 (fun hSh => ?_)
    clear s0
    generalize World.drew W = V0 at K0 hSh ⊢
    refine wpAnyT.tkC 0 rfl ?_
    refine wpAnyT.tkC 1 rfl ?_
    refine wpAnyT.tkC 2 rfl ?_
    refine wpAnyT.tkC 5 rfl ?_
    refine wpAnyT.tkC 6 rfl ?_
    refine wpAnyT.on3 3 4 9 rfl rfl rfl (fun KK hKK => ?_) (fun KK hKK => ?_) (fun KK hKK => ?_)
    · go_simp; go_at_call 35; refine (HT7.out _ _ _ K0 ZMB ZMB).mono ?_; rintro e V0 ⟨A7, c7, S7, rfl, K2⟩; replace K0 := K2; clear K2; go_wp2_with fail; refine hKK.out _ _ (HS7.out _ _ _ K0 ZMA ZMA) (fun hSh => ?_); clear hKK KK; refine ZPT ?_
      refine wpAnyT.on2 4 9 rfl rfl (fun KK hKK => ?_) (fun KK hKK => ?_)
      · go_simp; have K2 := K0.new #[] 45; generalize V0.heap.size = gB at K2 ⊢; generalize V0.alloc (.cells #[] 45) = V0 at K2 ⊢; replace K0 : St w ([((gB, #[], 45) : Blk)] ++ _) _ _ := K2; clear K2; refine hKK.out _ _ (HS7.out _ _ _ K0 ZMA ZMA) (fun hSh => ?_); clear hKK KK; refine ZPT ?_
        refine wpAnyT.on2 7 9 rfl rfl (fun KK hKK => ?_) (fun KK hKK => ?_)
        · refine K0.appWOp (OwL.empty 5 Rr.cs 45 _) rr_sized _ _ 22 rfl _ 88 Try.underlying22 row_made rfl rfl _ m cap' (ofF m v) rfl (HRv.out _ K0.1) (by simp; omega) (by omega) ?_; intro v1 X1 V0 ho1 K2; rw [List.nil_append] at ho1; obtain ⟨gs, gc, J, hv1, hX1, hgc⟩ := ho1.blk hm0; clear ho1; subst hv1 hX1; replace K0 : St w ([((gs, recA Rr.cs m v J, 45) : Blk)] ++ _) _ _ := K2; clear K2; refine hKK.out _ _ (HS7.out _ _ _ K0 ZMA ZMA) (fun hSh => ?_); clear hKK KK; refine ZPT ?_
          refine wpAnyT.tkC 8 rfl ?_
          refine wpAnyT.on 9 rfl fun KK hKK => ?_
          go_simp; have K2 := (K0.new #[.slice none 0 0, .slice none 0 0] 58).mid; generalize V0.heap.size = gP at K2 ⊢; generalize V0.alloc (.cells #[.slice none 0 0, .slice none 0 0] 58) = V0 at K2 ⊢; replace K0 := K2; clear K2; refine hKK.out _ _ (HS7.out _ _ _ K0 ZMA ZMA) (fun hSh => ?_); clear hKK KK; refine ZPT ?_
          exact ZS3
        · go_simp; have K2 := (K0.new #[.slice none 0 0, .slice none 0 0] 58).mid; generalize V0.heap.size = gP at K2 ⊢; generalize V0.alloc (.cells #[.slice none 0 0, .slice none 0 0] 58) = V0 at K2 ⊢; replace K0 := K2; clear K2; refine hKK.out _ _ (HS7.out _ _ _ K0 ZMA ZMA) (fun hSh => ?_); clear hKK KK; refine ZPT ?_
          exact ZS2
      · go_simp; have K2 := K0.new #[.slice none 0 0, .slice none 0 0] 58; generalize V0.heap.size = gP at K2 ⊢; generalize V0.alloc (.cells #[.slice none 0 0, .slice none 0 0] 58) = V0 at K2 ⊢; replace K0 := K2; clear K2; refine hKK.out _ _ (HS7.out _ _ _ K0 ZMA ZMA) (fun hSh => ?_); clear hKK KK; refine ZPT ?_
        refine wpAnyT.on 4 rfl fun KK hKK => ?_
        go_simp; have K2 := K0.new #[] 45; generalize V0.heap.size = gB at K2 ⊢; generalize V0.alloc (.cells #[] 45) = V0 at K2 ⊢; replace K0 : St w ([((gB, #[], 45) : Blk)] ++ _) _ _ := K2; clear K2; refine hKK.out _ _ (HS7.out _ _ _ K0 ZMA ZMA) (fun hSh => ?_); clear hKK KK; refine ZPT ?_
        exact ZS2
    · go_simp; have K2 := K0.new #[] 45; generalize V0.heap.size = gB at K2 ⊢; generalize V0.alloc (.cells #[] 45) = V0 at K2 ⊢; replace K0 : St w ([((gB, #[], 45) : Blk)] ++ _) _ _ := K2; clear K2; refine hKK.out _ _ (HS7.out _ _ _ K0 ZMA ZMA) (fun hSh => ?_); clear hKK KK; refine ZPT ?_
      refine wpAnyT.on2 3 9 rfl rfl (fun KK hKK => ?_) (fun KK hKK => ?_)
      · go_simp; go_at_call 35; refine (HT7.out _ _ _ K0 ZMB ZMB).mono ?_; rintro e V0 ⟨A7, c7, S7, rfl, K2⟩; replace K0 := K2; clear K2; go_wp2_with fail; refine hKK.out _ _ (HS7.out _ _ _ K0 ZMA ZMA) (fun hSh => ?_); clear hKK KK; refine ZPT ?_
        refine wpAnyT.on2 7 9 rfl rfl (fun KK hKK => ?_) (fun KK hKK => ?_)
        · refine K0.appWOp (OwL.empty 5 Rr.cs 45 _) rr_sized _ _ 22 rfl _ 88 Try.underlying22 row_made rfl rfl _ m cap' (ofF m v) rfl (HRv.out _ K0.1) (by simp; omega) (by omega) ?_; intro v1 X1 V0 ho1 K2; rw [List.nil_append] at ho1; obtain ⟨gs, gc, J, hv1, hX1, hgc⟩ := ho1.blk hm0; clear ho1; subst hv1 hX1; replace K0 : St w ([((gs, recA Rr.cs m v J, 45) : Blk)] ++ _) _ _ := K2; clear K2; refine hKK.out _ _ (HS7.out _ _ _ K0 ZMA ZMA) (fun hSh => ?_); clear hKK KK; refine ZPT ?_
          refine wpAnyT.tkC 8 rfl ?_
          refine wpAnyT.on 9 rfl fun KK hKK => ?_
          go_simp; have K2 := (K0.new #[.slice none 0 0, .slice none 0 0] 58).mid; generalize V0.heap.size = gP at K2 ⊢; generalize V0.alloc (.cells #[.slice none 0 0, .slice none 0 0] 58) = V0 at K2 ⊢; replace K0 := K2; clear K2; refine hKK.out _ _ (HS7.out _ _ _ K0 ZMA ZMA) (fun hSh => ?_); clear hKK KK; refine ZPT ?_
          exact ZS3
        · go_simp; have K2 := (K0.new #[.slice none 0 0, .slice none 0 0] 58).mid; generalize V0.heap.size = gP at K2 ⊢; generalize V0.alloc (.cells #[.slice none 0 0, .slice none 0 0] 58) = V0 at K2 ⊢; replace K0 := K2; clear K2; refine hKK.out _ _ (HS7.out _ _ _ K0 ZMA ZMA) (fun hSh => ?_); clear hKK KK; refine ZPT ?_
          exact ZS2
      · go_simp; have K2 := (K0.new #[.slice none 0 0, .slice none 0 0] 58).mid; generalize V0.heap.size = gP at K2 ⊢; generalize V0.alloc (.cells #[.slice none 0 0, .slice none 0 0] 58) = V0 at K2 ⊢; replace K0 := K2; clear K2; refine hKK.out _ _ (HS7.out _ _ _ K0 ZMA ZMA) (fun hSh => ?_); clear hKK KK; refine ZPT ?_
        refine wpAnyT.on 3 rfl fun KK hKK => ?_
        go_simp; go_at_call 35; refine (HT7.out _ _ _ K0 ZMB ZMB).mono ?_; rintro e V0 ⟨A7, c7, S7, rfl, K2⟩; replace K0 := K2; clear K2; go_wp2_with fail; refine hKK.out _ _ (HS7.out _ _ _ K0 ZMA ZMA) (fun hSh => ?_); clear hKK KK; refine ZPT ?_
        exact ZS2
    · go_simp; have K2 := K0.new #[.slice none 0 0, .slice none 0 0] 58; generalize V0.heap.size = gP at K2 ⊢; generalize V0.alloc (.cells #[.slice none 0 0, .slice none 0 0] 58) = V0 at K2 ⊢; replace K0 := K2; clear K2; refine hKK.out _ _ (HS7.out _ _ _ K0 ZMA ZMA) (fun hSh => ?_); clear hKK KK; refine ZPT ?_
      refine wpAnyT.on2 3 4 rfl rfl (fun KK hKK => ?_) (fun KK hKK => ?_)
      · go_simp; go_at_call 35; refine (HT7.out _ _ _ K0 ZMB ZMB).mono ?_; rintro e V0 ⟨A7, c7, S7, rfl, K2⟩; replace K0 := K2; clear K2; go_wp2_with fail; refine hKK.out _ _ (HS7.out _ _ _ K0 ZMA ZMA) (fun hSh => ?_); clear hKK KK; refine ZPT ?_
        refine wpAnyT.on 4 rfl fun KK hKK => ?_
        go_simp; have K2 := K0.new #[] 45; generalize V0.heap.size = gB at K2 ⊢; generalize V0.alloc (.cells #[] 45) = V0 at K2 ⊢; replace K0 : St w ([((gB, #[], 45) : Blk)] ++ _) _ _ := K2; clear K2; refine hKK.out _ _ (HS7.out _ _ _ K0 ZMA ZMA) (fun hSh => ?_); clear hKK KK; refine ZPT ?_
        exact ZS2
      · go_simp; have K2 := K0.new #[] 45; generalize V0.heap.size = gB at K2 ⊢; generalize V0.alloc (.cells #[] 45) = V0 at K2 ⊢; replace K0 : St w ([((gB, #[], 45) : Blk)] ++ _) _ _ := K2; clear K2; refine hKK.out _ _ (HS7.out _ _ _ K0 ZMA ZMA) (fun hSh => ?_); clear hKK KK; refine ZPT ?_
        refine wpAnyT.on 3 rfl fun KK hKK => ?_
        go_simp; go_at_call 35; refine (HT7.out _ _ _ K0 ZMB ZMB).mono ?_; rintro e V0 ⟨A7, c7, S7, rfl, K2⟩; replace K0 := K2; clear K2; go_wp2_with fail; refine hKK.out _ _ (HS7.out _ _ _ K0 ZMA ZMA) (fun hSh => ?_); clear hKK KK; refine ZPT ?_
        exact ZS2
  obtain ⟨gP, gs, gc, J, A7, c7, S7, rfl, hRR⟩ := hcut
  obtain ⟨hgc, K⟩ := (HR0 _ _ _ _ _ _ _ _).1 hRR
  clear hRR HR0 HT7 HS7 RR
  have hyk := HOn.out k hk
  have K := (K.rdOld hyk.2.1).rdOld hyk.2.2
  have hcy1 := hyk.2.1.caps
  have hcy2 := hyk.2.2.caps
  have hcy3 := hyk.1.caps
  have HY := Lib.hid (fv_std hra2)
  have HS8 := Lib.hid (fun V L5 D5 (h : St w L5 D5 V) (m5 : ((b0, #[.slice A n cap, .slice (some ⟨eo, off, none⟩) m cap'], 58) : Blk) ∈ L5) (m6 : ((b2, #[.int .i64 f1.s, .slice f1.A f1.n f1.c, .int .i64 f1.t, .slice f1.B f1.m f1.d], 40) : Blk) ∈ L5) => (show (V.cell? ⟨b0, 0, none⟩ = some (.slice A n cap) ∧ V.cell? ⟨b0, 1, none⟩ = some (.slice (some ⟨eo, off, none⟩) m cap')) ∧ (V.cell? ⟨b2, 0, none⟩ = some (.int .i64 f1.s) ∧ V.cell? ⟨b2, 1, none⟩ = some (.slice f1.A f1.n f1.c) ∧ V.cell? ⟨b2, 2, none⟩ = some (.int .i64 f1.t) ∧ V.cell? ⟨b2, 3, none⟩ = some (.slice f1.B f1.m f1.d)) ∧ (V.cell? ⟨eo, off + k * 5, none⟩ = some (.slice (v k).A (v k).n (v k).c) ∧ V.cell? ⟨eo, off + k * 5 + 1, none⟩ = some (.int .i64 (v k).y.s) ∧ V.cell? ⟨eo, off + k * 5 + 2, none⟩ = some (.slice (v k).y.A (v k).y.n (v k).y.c) ∧ V.cell? ⟨eo, off + k * 5 + 3, none⟩ = some (.int .i64 (v k).y.t) ∧ V.cell? ⟨eo, off + k * 5 + 4, none⟩ = some (.slice (v k).y.B (v k).y.m (v k).y.d)) from ⟨⟨(h.blk m5).cell (j := 0) rfl, (h.blk m5).cell (j := 1) rfl⟩, ⟨(h.blk m6).cell (j := 0) rfl, (h.blk m6).cell (j := 1) rfl, (h.blk m6).cell (j := 2) rfl, (h.blk m6).cell (j := 3) rfl⟩, HCl.out V h.1⟩))
  have HM8 := Lib.hid (fun V L5 D5 (h : St w L5 D5 V) (m1 : (⟨rdP (v k).y.A (v k).y.n (v k).y.c (v k).y.l, rdS (v k).y.A (v k).y.n⟩ : Hl) ∈ D5) (m2 : (⟨rdP (v k).y.B (v k).y.m (v k).y.d (v k).y.k, rdS (v k).y.B (v k).y.m⟩ : Hl) ∈ D5) (m3 : (⟨rdP f1.A f1.n f1.c f1.l, rdS f1.A f1.n⟩ : Hl) ∈ D5) (m4 : (⟨rdP f1.B f1.m f1.d f1.k, rdS f1.B f1.m⟩ : Hl) ∈ D5) => callMulN (x := (v k).y) h (HY.out : isQ (v k).y (v k).rv.b.rat) hf1.out.1 HSc.out.2 m1 m2 m3 m4)
  obtain ⟨RR, HR0⟩ : ∃ R : Nat → Rw → World → Prop, ∀ g y W', R g y W' ↔ St w (((g, #[.int .i64 y.s, .slice y.A y.n y.c, .int .i64 y.t, .slice y.B y.m y.d], 40) : Blk) :: ((gP, #[.slice A7 n c7, .slice (some ⟨gs, 0, none⟩) m gc], 58) : Blk) :: ((gs, recA Rr.cs m v J, 45) : Blk) :: [((b3, #[.int .i64 f2.s, .slice f2.A f2.n f2.c, .int .i64 f2.t, .slice f2.B f2.m f2.d], 40) : Blk), ((b2, #[.int .i64 f1.s, .slice f1.A f1.n f1.c, .int .i64 f1.t, .slice f1.B f1.m f1.d], 40) : Blk), ((b1, #[.int .i64 z.s, .slice z.A z.n z.c, .int .i64 z.t, .slice z.B z.m z.d], 40) : Blk), ((b0, #[.slice A n cap, .slice (some ⟨eo, off, none⟩) m cap'], 58) : Blk)]) (⟨rdP y.B y.m y.d y.k, rdS y.B y.m⟩ :: ⟨rdP y.A y.n y.c y.l, rdS y.A y.n⟩ :: ⟨rdP (v k).y.B (v k).y.m (v k).y.d (v k).y.k, rdS (v k).y.B (v k).y.m⟩ :: ⟨rdP (v k).y.A (v k).y.n (v k).y.c (v k).y.l, rdS (v k).y.A (v k).y.n⟩ :: ⟨rfQ A7 n c7 (scL n (facQ t) l), S7⟩ :: (⟨rdP f2.B f2.m f2.d f2.k, rdS f2.B f2.m⟩ :: ⟨rdP f2.A f2.n f2.c f2.l, rdS f2.A f2.n⟩ :: ⟨rdP f1.B f1.m f1.d f1.k, rdS f1.B f1.m⟩ :: ⟨rdP f1.A f1.n f1.c f1.l, rdS f1.A f1.n⟩ :: ⟨rdP z.B z.m z.d z.k, rdS z.B z.m⟩ :: ⟨rdP z.A z.n z.c z.l, rdS z.A z.n⟩ :: [] : List Hl)) W' := ⟨_, fun _ _ _ => Iff.rfl⟩
  go_upto_region 8 with fail
  go_cut [17, 16] from 83 to 93 (fun e q wx => ∃ g y, e = .int .i64 0 ∧ q = .pointer (some ⟨g, 0, none⟩) ∧ Hid (isQ y ((v k).rv.b.rat * facQ u)) ∧ RR g y wx)
  case first =>
    have K0 := K.drew
    have s0 := HS8.out _ _ _ K0 ZMB ZMB
    clear K
    refine wp_region_T 100 (fun V => (V.cell? ⟨b0, 0, none⟩ = some (.slice A n cap) ∧ V.cell? ⟨b0, 1, none⟩ = some (.slice (some ⟨eo, off, none⟩) m cap')) ∧ (V.cell? ⟨b2, 0, none⟩ = some (.int .i64 f1.s) ∧ V.cell? ⟨b2, 1, none⟩ = some (.slice f1.A f1.n f1.c) ∧ V.cell? ⟨b2, 2, none⟩ = some (.int .i64 f1.t) ∧ V.cell? ⟨b2, 3, none⟩ = some (.slice f1.B f1.m f1.d)) ∧ (V.cell? ⟨eo, off + k * 5, none⟩ = some (.slice (v k).A (v k).n (v k).c) ∧ V.cell? ⟨eo, off + k * 5 + 1, none⟩ = some (.int .i64 (v k).y.s) ∧ V.cell? ⟨eo, off + k * 5 + 2, none⟩ = some (.slice (v k).y.A (v k).y.n (v k).y.c) ∧ V.cell? ⟨eo, off + k * 5 + 3, none⟩ = some (.int .i64 (v k).y.t) ∧ V.cell? ⟨eo, off + k * 5 + 4, none⟩ = some (.slice (v k).y.B (v k).y.m (v k).y.d))) (by kernel_rfl) s0 (fun hSh => ?_)
    clear s0
    generalize World.drew wc = V0 at K0 hSh ⊢
    refine wpAnyT.tkC 0 rfl ?_
    refine wpAnyT.tkC 1 rfl ?_
    refine wpAnyT.tkC 2 rfl ?_
    refine wpAnyT.tkC 3 rfl ?_
    refine wpAnyT.tkC 4 rfl ?_
    refine wpAnyT.tkC 5 rfl ?_
    refine wpAnyT.tkC 6 rfl ?_
    refine wpAnyT.on2 7 11 rfl rfl (fun KK hKK => ?_) (fun KK hKK => ?_)
    · go_simp; go_at_call 36; refine (HM8.out _ _ _ K0 ZMB ZMB ZMB ZMB).mono ?_; rintro e V0 ⟨y, rfl, hy, K2⟩; replace K0 := K2; clear K2; go_wp2_with fail; refine hKK.out _ _ (HS8.out _ _ _ K0 ZMB ZMB) (fun hSh => ?_); clear hKK KK; refine ZPT ?_
      refine wpAnyT.tkC 8 rfl ?_
      refine wpAnyT.tkC 9 rfl ?_
      refine wpAnyT.tkC 10 rfl ?_
      refine wpAnyT.on 11 rfl fun KK hKK => ?_
      go_simp; have K2 := K0.new #[.int .i64 0, .slice none 0 0, .int .i64 0, .slice none 0 0] 40; generalize V0.heap.size = g at K2 ⊢; generalize V0.alloc (.cells #[.int .i64 0, .slice none 0 0, .int .i64 0, .slice none 0 0] 40) = V0 at K2 ⊢; replace K0 := K2; clear K2; refine hKK.out _ _ (HS8.out _ _ _ K0 ZMB ZMB) (fun hSh => ?_); clear hKK KK; refine ZPT ?_
      exact ZS9
    · go_simp; have K2 := K0.new #[.int .i64 0, .slice none 0 0, .int .i64 0, .slice none 0 0] 40; generalize V0.heap.size = g at K2 ⊢; generalize V0.alloc (.cells #[.int .i64 0, .slice none 0 0, .int .i64 0, .slice none 0 0] 40) = V0 at K2 ⊢; replace K0 := K2; clear K2; refine hKK.out _ _ (HS8.out _ _ _ K0 ZMB ZMB) (fun hSh => ?_); clear hKK KK; refine ZPT ?_
      refine wpAnyT.on 7 rfl fun KK hKK => ?_
      go_simp; go_at_call 36; refine (HM8.out _ _ _ K0 ZMB ZMB ZMB ZMB).mono ?_; rintro e V0 ⟨y, rfl, hy, K2⟩; replace K0 := K2; clear K2; go_wp2_with fail; refine hKK.out _ _ (HS8.out _ _ _ K0 ZMB ZMB) (fun hSh => ?_); clear hKK KK; refine ZPT ?_
      refine wpAnyT.tkC 8 rfl ?_
      refine wpAnyT.tkC 9 rfl ?_
      refine wpAnyT.tkC 10 rfl ?_
      exact ZS9
  obtain ⟨g6, y, rfl, rfl, hy, hRR⟩ := hcut
  have K := (HR0 _ _ _).1 hRR
  clear hRR HR0 HS8 HM8 RR
  have HS9 := Lib.hid (fun V L5 D5 (h : St w L5 D5 V) (m5 : ((b0, #[.slice A n cap, .slice (some ⟨eo, off, none⟩) m cap'], 58) : Blk) ∈ L5) (m6 : ((b2, #[.int .i64 f1.s, .slice f1.A f1.n f1.c, .int .i64 f1.t, .slice f1.B f1.m f1.d], 40) : Blk) ∈ L5) (m7 : ((gP, #[.slice A7 n c7, .slice (some ⟨gs, 0, none⟩) m gc], 58) : Blk) ∈ L5) (m8 : ((g6, #[.int .i64 y.s, .slice y.A y.n y.c, .int .i64 y.t, .slice y.B y.m y.d], 40) : Blk) ∈ L5) => (show ((V.cell? ⟨b0, 0, none⟩ = some (.slice A n cap) ∧ V.cell? ⟨b0, 1, none⟩ = some (.slice (some ⟨eo, off, none⟩) m cap')) ∧ (V.cell? ⟨b2, 0, none⟩ = some (.int .i64 f1.s) ∧ V.cell? ⟨b2, 1, none⟩ = some (.slice f1.A f1.n f1.c) ∧ V.cell? ⟨b2, 2, none⟩ = some (.int .i64 f1.t) ∧ V.cell? ⟨b2, 3, none⟩ = some (.slice f1.B f1.m f1.d)) ∧ (V.cell? ⟨eo, off + k * 5, none⟩ = some (.slice (v k).A (v k).n (v k).c) ∧ V.cell? ⟨eo, off + k * 5 + 1, none⟩ = some (.int .i64 (v k).y.s) ∧ V.cell? ⟨eo, off + k * 5 + 2, none⟩ = some (.slice (v k).y.A (v k).y.n (v k).y.c) ∧ V.cell? ⟨eo, off + k * 5 + 3, none⟩ = some (.int .i64 (v k).y.t) ∧ V.cell? ⟨eo, off + k * 5 + 4, none⟩ = some (.slice (v k).y.B (v k).y.m (v k).y.d))) ∧ (V.cell? ⟨gP, 0, none⟩ = some (.slice A7 n c7) ∧ V.cell? ⟨gP, 1, none⟩ = some (.slice (some ⟨gs, 0, none⟩) m gc)) ∧ (V.cell? ⟨g6, 0, none⟩ = some (.int .i64 y.s) ∧ V.cell? ⟨g6, 1, none⟩ = some (.slice y.A y.n y.c) ∧ V.cell? ⟨g6, 2, none⟩ = some (.int .i64 y.t) ∧ V.cell? ⟨g6, 3, none⟩ = some (.slice y.B y.m y.d)) from ⟨⟨⟨(h.blk m5).cell (j := 0) rfl, (h.blk m5).cell (j := 1) rfl⟩, ⟨(h.blk m6).cell (j := 0) rfl, (h.blk m6).cell (j := 1) rfl, (h.blk m6).cell (j := 2) rfl, (h.blk m6).cell (j := 3) rfl⟩, HCl.out V h.1⟩, ⟨(h.blk m7).cell (j := 0) rfl, (h.blk m7).cell (j := 1) rfl⟩, ⟨(h.blk m8).cell (j := 0) rfl, (h.blk m8).cell (j := 1) rfl, (h.blk m8).cell (j := 2) rfl, (h.blk m8).cell (j := 3) rfl⟩⟩))
  have HT9 := Lib.hid (fun V L5 D5 (h : St w L5 D5 V) (m3 : (⟨rdP f1.A f1.n f1.c f1.l, rdS f1.A f1.n⟩ : Hl) ∈ D5) (m4 : (⟨rdP f1.B f1.m f1.d f1.k, rdS f1.B f1.m⟩ : Hl) ∈ D5) => (times9_any (v k).A (v k).n (v k).c (v k).a f1 (facQ u) V (hyk.1.up fE_lasts h.1) (by have := HNa.out; omega) hra3 hf1.out.1 (h.rd m3) (h.rd m4) (by rw [HNa.out]; exact HSc.out.1)).mono fun e W' ⟨A9, c9, he, hk, hb⟩ => (⟨A9, c9, betS V W', he, by rw [HNa.out] at hk ⊢; exact h.addK hb hk⟩ : ∃ A9 c9 S, e = Ending.returned (.slice A9 (v k).n c9) ∧ St w L5 (⟨rfQ A9 (v k).n c9 (scR n (facQ u) (v k).rv).a, S⟩ :: D5) W'))
  go_upto_region 9 with fail
  have K0 := K.drew
  have s0 := HS9.out _ _ _ K0 ZMB ZMB ZMB ZMB
  clear K
  refine wp_region_T 100 (fun V => ((V.cell? ⟨b0, 0, none⟩ = some (.slice A n cap) ∧ V.cell? ⟨b0, 1, none⟩ = some (.slice (some ⟨eo, off, none⟩) m cap')) ∧ (V.cell? ⟨b2, 0, none⟩ = some (.int .i64 f1.s) ∧ V.cell? ⟨b2, 1, none⟩ = some (.slice f1.A f1.n f1.c) ∧ V.cell? ⟨b2, 2, none⟩ = some (.int .i64 f1.t) ∧ V.cell? ⟨b2, 3, none⟩ = some (.slice f1.B f1.m f1.d)) ∧ (V.cell? ⟨eo, off + k * 5, none⟩ = some (.slice (v k).A (v k).n (v k).c) ∧ V.cell? ⟨eo, off + k * 5 + 1, none⟩ = some (.int .i64 (v k).y.s) ∧ V.cell? ⟨eo, off + k * 5 + 2, none⟩ = some (.slice (v k).y.A (v k).y.n (v k).y.c) ∧ V.cell? ⟨eo, off + k * 5 + 3, none⟩ = some (.int .i64 (v k).y.t) ∧ V.cell? ⟨eo, off + k * 5 + 4, none⟩ = some (.slice (v k).y.B (v k).y.m (v k).y.d))) ∧ (V.cell? ⟨gP, 0, none⟩ = some (.slice A7 n c7) ∧ V.cell? ⟨gP, 1, none⟩ = some (.slice (some ⟨gs, 0, none⟩) m gc)) ∧ (V.cell? ⟨g6, 0, none⟩ = some (.int .i64 y.s) ∧ V.cell? ⟨g6, 1, none⟩ = some (.slice y.A y.n y.c) ∧ V.cell? ⟨g6, 2, none⟩ = some (.int .i64 y.t) ∧ V.cell? ⟨g6, 3, none⟩ = some (.slice y.B y.m y.d))) (by kernel_rfl) s0 (fun hSh => ?_)
  clear s0
  generalize World.drew wc = V0 at K0 hSh ⊢
  refine wpAnyT.tkC 0 rfl ?_
  refine wpAnyT.tkC 1 rfl ?_
  refine wpAnyT.tkC 2 rfl ?_
  refine wpAnyT.tkC 3 rfl ?_
  refine wpAnyT.tkC 4 rfl ?_
  refine wpAnyT.tkC 5 rfl ?_
  refine wpAnyT.tkC 6 rfl ?_
  refine wpAnyT.tkC 7 rfl ?_
  refine wpAnyT.tkC 8 rfl ?_
  refine wpAnyT.tkC 9 rfl ?_
  refine wpAnyT.tkC 11 rfl ?_
  refine wpAnyT.on 10 rfl fun KK hKK => ?_
  go_simp
  go_at_call 35
  refine (HT9.out _ _ _ K0 ZMB ZMB).mono ?_
  rintro e V0 ⟨A9, c9, S9, rfl, K2⟩
  replace K0 := K2
  clear K2
  go_wp2_with fail
  refine hKK.out _ _ (HS9.out _ _ _ K0 ZMB ZMB ZMB ZMB) (fun hSh => ?_)
  clear hKK KK
  refine ZPT ?_
  refine wpAnyT.tkC 12 rfl ?_
  refine wpAnyT.tkC 13 rfl ?_
  refine wpAnyT.on 14 rfl fun KK hKK => ?_
  refine K0.setOpR rfl _ _ _ rfl gs k m ⟨A9, (v k).n, c9, (scR n (facQ u) (v k).rv).a, y⟩ rfl rfl hk ZUP row_size ?_
  intro V9 K
  refine hKK.out _ _ (HS9.out _ _ _ K ZMB ZMB ZMB ZMB) (fun hSh => ?_)
  clear hKK KK
  refine ZPT ?_
  refine wpAnyT.done (by kernel_rfl) ?_
  clear hSh HS9 HT9 K0
  have K2 := K.fam (I := fun i => i < m) (P := fun i => (v i).on) (S := fun _ => oldS w) (fun i hi => K.okRow (v i) (HOn.out i hi))
  have hy9 : (⟨(⟨A9, (v k).n, c9, (scR n (facQ u) (v k).rv).a, y⟩ : Rr).on, _⟩ : Hl).ok _ V9 := (K2.okAt (x := ⟨rfQ A9 (v k).n c9 (scR n (facQ u) (v k).rv).a, S9⟩) ZMB).and (K2.okR (x := y) ZMB ZMB)
  have K3 := K2.rrPut (u := v) (S := fun _ => oldS w) ZMB k _ _ hy9
  have rdQ := K3.getQ (A := A7) (n := n) (cap := c7) (l := scL n (facQ t) l) ZMB
  have rdS := K3.rdRR (g := gs) (cap := gc) (u := putF v k ⟨A9, (v k).n, c9, (scR n (facQ u) (v k).rv).a, y⟩) ZMB ZMB (by omega) hgc
  rw [putF_rv9, show (⟨A9, (v k).n, c9, (scR n (facQ u) (v k).rv).a, y⟩ : Rr).rv = scR n (facQ u) (v k).rv from by
    show (⟨(scR n (facQ u) (v k).rv).a, y.fv⟩ : Rv) = _
    rw [hy.out.fv]
    rfl] at rdS
  have hok' := (scal_ok HFw.out HOk.out HLen.out (V := fun i => (v i).rv) (k := k) HV.out hu ht).resolve_right (by omega)
  have hB0 := K.blk (b := b0) (cs := #[.slice A n cap, .slice (some ⟨eo, off, none⟩) m cap']) (t := 58) ZMB
  have hB1 := K.blk (b := b1) (cs := #[.int .i64 z.s, .slice z.A z.n z.c, .int .i64 z.t, .slice z.B z.m z.d]) (t := 40) ZMB
  have hBP := K.blk (b := gP) (cs := #[.slice A7 n c7, .slice (some ⟨gs, 0, none⟩) m gc]) (t := 58) ZMB
  have hbW := K.1
  have HC := Lib.hid (fun V (h : Below V9.heap.size V9 V) => (show (V.cell? ⟨b0, 0, none⟩ = some (.slice A n cap) ∧ V.cell? ⟨b0, 1, none⟩ = some (.slice (some ⟨eo, off, none⟩) m cap')) ∧ (V.cell? ⟨gP, 0, none⟩ = some (.slice A7 n c7) ∧ V.cell? ⟨gP, 1, none⟩ = some (.slice (some ⟨gs, 0, none⟩) m gc)) ∧ (V.cell? ⟨b1, 0, none⟩ = some (.int .i64 z.s) ∧ V.cell? ⟨b1, 1, none⟩ = some (.slice z.A z.n z.c) ∧ V.cell? ⟨b1, 2, none⟩ = some (.int .i64 z.t) ∧ V.cell? ⟨b1, 3, none⟩ = some (.slice z.B z.m z.d)) ∧ (V.cell? ⟨eo, off + k * 5, none⟩ = some (.slice (v k).A (v k).n (v k).c) ∧ V.cell? ⟨eo, off + k * 5 + 1, none⟩ = some (.int .i64 (v k).y.s) ∧ V.cell? ⟨eo, off + k * 5 + 2, none⟩ = some (.slice (v k).y.A (v k).y.n (v k).y.c) ∧ V.cell? ⟨eo, off + k * 5 + 3, none⟩ = some (.int .i64 (v k).y.t) ∧ V.cell? ⟨eo, off + k * 5 + 4, none⟩ = some (.slice (v k).y.B (v k).y.m (v k).y.d)) from ⟨⟨(h.cell (p := ⟨b0, 0, none⟩) hB0.lt).trans (hB0.cell (j := 0) rfl), (h.cell (p := ⟨b0, 1, none⟩) hB0.lt).trans (hB0.cell (j := 1) rfl)⟩, ⟨(h.cell (p := ⟨gP, 0, none⟩) hBP.lt).trans (hBP.cell (j := 0) rfl), (h.cell (p := ⟨gP, 1, none⟩) hBP.lt).trans (hBP.cell (j := 1) rfl)⟩, ⟨(h.cell (p := ⟨b1, 0, none⟩) hB1.lt).trans (hB1.cell (j := 0) rfl), (h.cell (p := ⟨b1, 1, none⟩) hB1.lt).trans (hB1.cell (j := 1) rfl), (h.cell (p := ⟨b1, 2, none⟩) hB1.lt).trans (hB1.cell (j := 2) rfl), (h.cell (p := ⟨b1, 3, none⟩) hB1.lt).trans (hB1.cell (j := 3) rfl)⟩, HCl.out V (hbW.trans (h.mono hbW.size))⟩))
  have HSp := Lib.hid (fun V (h : Below V9.heap.size V9 V) => solve_any A (some ⟨eo, off, none⟩) n cap m cap' l ls V (HGo.out V (hbW.trans (h.mono hbW.size))) (HRo.out V (hbW.trans (h.mono hbW.size))) (by omega) (by omega) HOk.out)
  have HSq := Lib.hid (fun V (h : Below V9.heap.size V9 V) => solve_any A7 (some ⟨gs, 0, none⟩) n c7 m gc _ _ V (rdQ.up fE_lasts h) (rdS.up rE_lasts h) (by omega) (by omega) hok')
  have HBw := Lib.hid hbW
  clear K K2 K3 hy9 rdQ rdS hok' hB0 hB1 hBP hbW HFew HSm HRt HF5 HR5 HO1 HO2 HSc HSg HCl hf1 hf2 hy HY
  have K := St.start V9
  obtain ⟨⟨c0, c1⟩, ⟨d0, d1⟩, -, -⟩ := HC.out _ K.1
  go_wp2_with fail
  refine (HSp.out _ K.1).mono ?_
  rintro e W6 ⟨E, hE, hsol, hb6⟩
  obtain ⟨X1, k1, g1, X2, k2, g2, rfl, HX⟩ := hsol.form
  clear c0 c1 d0 d1 hsol K
  replace HX := Lib.hid HX
  have HE := Lib.hid hE
  clear hE
  have K := St.start W6
  have HC6 := Lib.hid (fun V (h : Below W6.heap.size W6 V) => HC.out V (hb6.trans (h.mono hb6.size)))
  have HSq6 := Lib.hid (fun V (h : Below W6.heap.size W6 V) => HSq.out V (hb6.trans (h.mono hb6.size)))
  have HB6 := Lib.hid (HBw.out.trans (hb6.mono HBw.out.size))
  clear HC HSp HSq HBw hb6
  obtain ⟨⟨c0, c1⟩, ⟨d0, d1⟩, -, -⟩ := HC6.out _ K.1
  go_wp2_with fail
  refine (HSq6.out _ K.1).mono ?_
  rintro e W7 ⟨E', hE', hsol, hb7⟩
  obtain ⟨Y1, k3, g3, Y2, k4, g4, rfl, HY⟩ := hsol.form
  clear c0 c1 d0 d1 hsol K HSq6
  replace HY := Lib.hid HY
  have HE' := Lib.hid hE'
  clear hE'
  go_upto_region 12 with fail
  go_cut [140] from 120 to 140 (fun q wx => q = .bool false ∧ Below W6.heap.size W6 wx)
  case first =>
    cases E with
    | full =>
      cases E' with
      | full =>
        exact ZS10
      | none a1 =>
        exact ZS10
      | ray a1 =>
        exact ZS10
      | best a1 a2 =>
        exact ZS10
    | none x1 =>
      cases E' with
      | full =>
        exact ZS10
      | none a1 =>
        exact ZS10
      | ray a1 => exact (show False from by cases scal_kin HV.out hk (fac_pos u) (fac_pos t) HE.out HE'.out (fun e => by cases e) (fun e => by cases e)).elim
      | best a1 a2 => exact (show False from by cases scal_kin HV.out hk (fac_pos u) (fac_pos t) HE.out HE'.out (fun e => by cases e) (fun e => by cases e)).elim
    | ray x1 =>
      cases E' with
      | full =>
        exact ZS10
      | none a1 => exact (show False from by cases scal_kin HV.out hk (fac_pos u) (fac_pos t) HE.out HE'.out (fun e => by cases e) (fun e => by cases e)).elim
      | ray a1 =>
        exact ZS10
      | best a1 a2 => exact (show False from by cases scal_kin HV.out hk (fac_pos u) (fac_pos t) HE.out HE'.out (fun e => by cases e) (fun e => by cases e)).elim
    | best x1 x2 =>
      cases E' with
      | full =>
        exact ZS10
      | none a1 => exact (show False from by cases scal_kin HV.out hk (fac_pos u) (fac_pos t) HE.out HE'.out (fun e => by cases e) (fun e => by cases e)).elim
      | ray a1 => exact (show False from by cases scal_kin HV.out hk (fac_pos u) (fac_pos t) HE.out HE'.out (fun e => by cases e) (fun e => by cases e)).elim
      | best a1 a2 =>
        have hkin := scal_kin HV.out hk (fac_pos u) (fac_pos t) HE.out HE'.out (fun e => by cases e) (fun e => by cases e)
        cases hkin with
        | best hab =>
          obtain ⟨e1, hx, -⟩ := HX.out x1 x2 rfl
          obtain ⟨e2, ha, -⟩ := HY.out a1 a2 rfl
          have e1 := e1.symm
          have e2 := e2.symm
          subst e1 e2
          rw [ofF_congr (g := fun i => fvQ (x1 i)) (fun i hi => by rw [hab i hi])] at ha
          have HA := Lib.hid (same9_yes _ X1 Y1 n g1 n g3 W7 (hx.up fE_lasts hb7) ha)
          clear hx ha HX HY
          dsimp only [lpC]
          go_wp2_with (go_at_call 37; refine HA.out.mono ?_; rintro e W8 ⟨rfl, hb8⟩)
          go_meet
          exact ⟨rfl, hb7.trans (hb8.mono hb7.size)⟩
  obtain ⟨rfl, hbc⟩ := hcut
  clear HY HE' hb7
  generalize lpC E' = cE
  clear E'
  have K := (St.start W6).keep hbc
  clear hbc
  go_upto_region 14 with fail
  have HRv6 := Lib.hid (fun V (h : Below W6.heap.size W6 V) => HRv.out V (HB6.out.trans (h.mono HB6.out.size)))
  obtain ⟨y5, hy5'⟩ : ∃ y5 : Rr, y5 = ⟨(v k).A, (v k).n, (v k).c, (v k).a, z⟩ := ⟨_, rfl⟩
  have hy5 := Lib.hid hy5'
  clear hy5'
  obtain ⟨RR, HR0⟩ : ∃ R : Nat → Nat → Nat → List Value → Nat → World → Prop, ∀ g gs gc J gl W', R g gs gc J gl W' ↔ (m + 1 ≤ gc ∧ gc ≤ 9223372036854775807) ∧ St W6 [((g, #[.slice A n cap, .slice (some ⟨gs, 0, none⟩) (m + 1) gc], 58) : Blk), ((gs, recA Rr.cs (m + 1) (putF v m y5) J, 45) : Blk), ((gl, #[.slice (v k).A (v k).n (v k).c, .int .i64 z.s, .slice z.A z.n z.c, .int .i64 z.t, .slice z.B z.m z.d], 45) : Blk)] [] W' := ⟨_, fun _ _ _ _ _ _ => Iff.rfl⟩
  go_cut [24] from 141 to 157 (fun q wx => ∃ g gs gc J gl, q = .pointer (some ⟨g, 0, none⟩) ∧ RR g gs gc J gl wx)
  case first =>
    have K0 := K.drew
    have s0 := HC6.out _ K0.1
    clear K
    refine wp_region_T 100 (fun V => (V.cell? ⟨b0, 0, none⟩ = some (.slice A n cap) ∧ V.cell? ⟨b0, 1, none⟩ = some (.slice (some ⟨eo, off, none⟩) m cap')) ∧ (V.cell? ⟨gP, 0, none⟩ = some (.slice A7 n c7) ∧ V.cell? ⟨gP, 1, none⟩ = some (.slice (some ⟨gs, 0, none⟩) m gc)) ∧ (V.cell? ⟨b1, 0, none⟩ = some (.int .i64 z.s) ∧ V.cell? ⟨b1, 1, none⟩ = some (.slice z.A z.n z.c) ∧ V.cell? ⟨b1, 2, none⟩ = some (.int .i64 z.t) ∧ V.cell? ⟨b1, 3, none⟩ = some (.slice z.B z.m z.d)) ∧ (V.cell? ⟨eo, off + k * 5, none⟩ = some (.slice (v k).A (v k).n (v k).c) ∧ V.cell? ⟨eo, off + k * 5 + 1, none⟩ = some (.int .i64 (v k).y.s) ∧ V.cell? ⟨eo, off + k * 5 + 2, none⟩ = some (.slice (v k).y.A (v k).y.n (v k).y.c) ∧ V.cell? ⟨eo, off + k * 5 + 3, none⟩ = some (.int .i64 (v k).y.t) ∧ V.cell? ⟨eo, off + k * 5 + 4, none⟩ = some (.slice (v k).y.B (v k).y.m (v k).y.d))) (by kernel_rfl) s0 (fun hSh => ?_)
    clear s0
    generalize World.drew wc = V0 at K0 hSh ⊢
    refine wpAnyT.tkC 0 rfl ?_
    refine wpAnyT.tkC 1 rfl ?_
    refine wpAnyT.tkC 3 rfl ?_
    refine wpAnyT.tkC 4 rfl ?_
    refine wpAnyT.tkC 6 rfl ?_
    refine wpAnyT.tkC 7 rfl ?_
    refine wpAnyT.tkC 8 rfl ?_
    refine wpAnyT.tkC 9 rfl ?_
    refine wpAnyT.tkC 10 rfl ?_
    refine wpAnyT.tkC 11 rfl ?_
    refine wpAnyT.tkC 12 rfl ?_
    refine wpAnyT.tkC 13 rfl ?_
    refine wpAnyT.on3 2 14 17 rfl rfl rfl (fun KK hKK => ?_) (fun KK hKK => ?_) (fun KK hKK => ?_)
    · go_simp; have K2 := K0.new #[] 45; have Ho := Lib.hid (OwL.empty (α := Rr) 5 Rr.cs 45 V0.heap.size); generalize V0.heap.size = gB at K2 Ho ⊢; generalize V0.alloc (.cells #[] 45) = V0 at K2 ⊢; replace K0 : St W6 ([((gB, #[], 45) : Blk)] ++ _) _ _ := K2; clear K2; generalize [((gB, #[], 45) : Blk)] = X at K0 Ho; refine hKK.out _ _ (HC6.out _ K0.1) (fun hSh => ?_); clear hKK KK; refine ZPT ?_
      refine wpAnyT.on3 5 14 17 rfl rfl rfl (fun KK hKK => ?_) (fun KK hKK => ?_) (fun KK hKK => ?_)
      · refine K0.appWOp Ho.out rr_sized _ _ 22 rfl _ 88 Try.underlying22 row_made rfl rfl _ m cap' (ofF m v) rfl (HRv6.out _ K0.1) (by simp; omega) (by omega) ?_; intro v1 X V0 ho1 K2; rw [List.nil_append] at ho1; clear Ho; have Ho := Lib.hid ho1; clear ho1; replace K0 := K2; clear K2; refine hKK.out _ _ (HC6.out _ K0.1) (fun hSh => ?_); clear hKK KK; refine ZPT ?_
        refine wpAnyT.on2 14 17 rfl rfl (fun KK hKK => ?_) (fun KK hKK => ?_)
        · refine K0.litOp _ _ rfl _ rfl _ _ (run_litR _ _ _ _ _ _ _ _ _ _ _ _) ?_; intro gl V0 K2; replace K0 := K2.mid; clear K2; refine hKK.out _ _ (HC6.out _ K0.1) (fun hSh => ?_); clear hKK KK; refine ZPT ?_
          refine wpAnyT.on2 15 17 rfl rfl (fun KK hKK => ?_) (fun KK hKK => ?_)
          · refine K0.appOp Ho.out rr_sized _ _ 22 rfl _ 88 Try.underlying22 row_made rfl rfl (⟨(v k).A, (v k).n, (v k).c, (v k).a, z⟩ : Rr) gl _ (by first | exact List.mem_cons_self | exact List.mem_cons_of_mem _ List.mem_cons_self) rfl (by rw [ofF_len]; omega) (by omega) ?_; intro v1 X V0 ho1 K2; rw [ofF_put, ← hy5.out] at ho1; clear Ho; obtain ⟨gr, gd, J2, hv2, hX2, hg2⟩ := ho1.blk (by omega); clear ho1; subst hv2 hX2; replace K0 : St W6 ([((gr, recA Rr.cs (m + 1) (putF v m y5) J2, 45) : Blk)] ++ _) _ _ := K2; clear K2; refine hKK.out _ _ (HC6.out _ K0.1) (fun hSh => ?_); clear hKK KK; refine ZPT ?_
            refine wpAnyT.tkC 16 rfl ?_
            refine wpAnyT.on 17 rfl fun KK hKK => ?_
            go_simp; have K2 := (K0.new #[.slice none 0 0, .slice none 0 0] 58).mid; generalize V0.heap.size = gM at K2 ⊢; generalize V0.alloc (.cells #[.slice none 0 0, .slice none 0 0] 58) = V0 at K2 ⊢; replace K0 := K2; clear K2; refine hKK.out _ _ (HC6.out _ K0.1) (fun hSh => ?_); clear hKK KK; refine ZPT ?_
            exact ZS1
          · go_simp; have K2 := (K0.new #[.slice none 0 0, .slice none 0 0] 58).mid; generalize V0.heap.size = gM at K2 ⊢; generalize V0.alloc (.cells #[.slice none 0 0, .slice none 0 0] 58) = V0 at K2 ⊢; replace K0 := K2; clear K2; refine hKK.out _ _ (HC6.out _ K0.1) (fun hSh => ?_); clear hKK KK; refine ZPT ?_
            exact ZS0
        · go_simp; have K2 := (K0.new #[.slice none 0 0, .slice none 0 0] 58).mid; generalize V0.heap.size = gM at K2 ⊢; generalize V0.alloc (.cells #[.slice none 0 0, .slice none 0 0] 58) = V0 at K2 ⊢; replace K0 := K2; clear K2; refine hKK.out _ _ (HC6.out _ K0.1) (fun hSh => ?_); clear hKK KK; refine ZPT ?_
          refine wpAnyT.on 14 rfl fun KK hKK => ?_
          refine K0.litOp _ _ rfl _ rfl _ _ (run_litR _ _ _ _ _ _ _ _ _ _ _ _) ?_; intro gl V0 K2; replace K0 := K2.mid; clear K2; refine hKK.out _ _ (HC6.out _ K0.1) (fun hSh => ?_); clear hKK KK; refine ZPT ?_
          exact ZS0
      · refine K0.litOp _ _ rfl _ rfl _ _ (run_litR _ _ _ _ _ _ _ _ _ _ _ _) ?_; intro gl V0 K2; replace K0 := K2.mid; clear K2; refine hKK.out _ _ (HC6.out _ K0.1) (fun hSh => ?_); clear hKK KK; refine ZPT ?_
        refine wpAnyT.on2 5 17 rfl rfl (fun KK hKK => ?_) (fun KK hKK => ?_)
        · refine K0.appWOp Ho.out rr_sized _ _ 22 rfl _ 88 Try.underlying22 row_made rfl rfl _ m cap' (ofF m v) rfl (HRv6.out _ K0.1) (by simp; omega) (by omega) ?_; intro v1 X V0 ho1 K2; rw [List.nil_append] at ho1; clear Ho; have Ho := Lib.hid ho1; clear ho1; replace K0 := K2; clear K2; refine hKK.out _ _ (HC6.out _ K0.1) (fun hSh => ?_); clear hKK KK; refine ZPT ?_
          refine wpAnyT.on2 15 17 rfl rfl (fun KK hKK => ?_) (fun KK hKK => ?_)
          · refine K0.appOp Ho.out rr_sized _ _ 22 rfl _ 88 Try.underlying22 row_made rfl rfl (⟨(v k).A, (v k).n, (v k).c, (v k).a, z⟩ : Rr) gl _ (by first | exact List.mem_cons_self | exact List.mem_cons_of_mem _ List.mem_cons_self) rfl (by rw [ofF_len]; omega) (by omega) ?_; intro v1 X V0 ho1 K2; rw [ofF_put, ← hy5.out] at ho1; clear Ho; obtain ⟨gr, gd, J2, hv2, hX2, hg2⟩ := ho1.blk (by omega); clear ho1; subst hv2 hX2; replace K0 : St W6 ([((gr, recA Rr.cs (m + 1) (putF v m y5) J2, 45) : Blk)] ++ _) _ _ := K2; clear K2; refine hKK.out _ _ (HC6.out _ K0.1) (fun hSh => ?_); clear hKK KK; refine ZPT ?_
            refine wpAnyT.tkC 16 rfl ?_
            refine wpAnyT.on 17 rfl fun KK hKK => ?_
            go_simp; have K2 := (K0.new #[.slice none 0 0, .slice none 0 0] 58).mid; generalize V0.heap.size = gM at K2 ⊢; generalize V0.alloc (.cells #[.slice none 0 0, .slice none 0 0] 58) = V0 at K2 ⊢; replace K0 := K2; clear K2; refine hKK.out _ _ (HC6.out _ K0.1) (fun hSh => ?_); clear hKK KK; refine ZPT ?_
            exact ZS1
          · go_simp; have K2 := (K0.new #[.slice none 0 0, .slice none 0 0] 58).mid; generalize V0.heap.size = gM at K2 ⊢; generalize V0.alloc (.cells #[.slice none 0 0, .slice none 0 0] 58) = V0 at K2 ⊢; replace K0 := K2; clear K2; refine hKK.out _ _ (HC6.out _ K0.1) (fun hSh => ?_); clear hKK KK; refine ZPT ?_
            exact ZS0
        · go_simp; have K2 := (K0.new #[.slice none 0 0, .slice none 0 0] 58).mid; generalize V0.heap.size = gM at K2 ⊢; generalize V0.alloc (.cells #[.slice none 0 0, .slice none 0 0] 58) = V0 at K2 ⊢; replace K0 := K2; clear K2; refine hKK.out _ _ (HC6.out _ K0.1) (fun hSh => ?_); clear hKK KK; refine ZPT ?_
          refine wpAnyT.on 5 rfl fun KK hKK => ?_
          refine K0.appWOp Ho.out rr_sized _ _ 22 rfl _ 88 Try.underlying22 row_made rfl rfl _ m cap' (ofF m v) rfl (HRv6.out _ K0.1) (by simp; omega) (by omega) ?_; intro v1 X V0 ho1 K2; rw [List.nil_append] at ho1; clear Ho; have Ho := Lib.hid ho1; clear ho1; replace K0 := K2; clear K2; refine hKK.out _ _ (HC6.out _ K0.1) (fun hSh => ?_); clear hKK KK; refine ZPT ?_
          exact ZS0
      · go_simp; have K2 := (K0.new #[.slice none 0 0, .slice none 0 0] 58).mid; generalize V0.heap.size = gM at K2 ⊢; generalize V0.alloc (.cells #[.slice none 0 0, .slice none 0 0] 58) = V0 at K2 ⊢; replace K0 := K2; clear K2; refine hKK.out _ _ (HC6.out _ K0.1) (fun hSh => ?_); clear hKK KK; refine ZPT ?_
        refine wpAnyT.on2 5 14 rfl rfl (fun KK hKK => ?_) (fun KK hKK => ?_)
        · refine K0.appWOp Ho.out rr_sized _ _ 22 rfl _ 88 Try.underlying22 row_made rfl rfl _ m cap' (ofF m v) rfl (HRv6.out _ K0.1) (by simp; omega) (by omega) ?_; intro v1 X V0 ho1 K2; rw [List.nil_append] at ho1; clear Ho; have Ho := Lib.hid ho1; clear ho1; replace K0 := K2; clear K2; refine hKK.out _ _ (HC6.out _ K0.1) (fun hSh => ?_); clear hKK KK; refine ZPT ?_
          refine wpAnyT.on 14 rfl fun KK hKK => ?_
          refine K0.litOp _ _ rfl _ rfl _ _ (run_litR _ _ _ _ _ _ _ _ _ _ _ _) ?_; intro gl V0 K2; replace K0 := K2.mid; clear K2; refine hKK.out _ _ (HC6.out _ K0.1) (fun hSh => ?_); clear hKK KK; refine ZPT ?_
          exact ZS0
        · refine K0.litOp _ _ rfl _ rfl _ _ (run_litR _ _ _ _ _ _ _ _ _ _ _ _) ?_; intro gl V0 K2; replace K0 := K2.mid; clear K2; refine hKK.out _ _ (HC6.out _ K0.1) (fun hSh => ?_); clear hKK KK; refine ZPT ?_
          refine wpAnyT.on 5 rfl fun KK hKK => ?_
          refine K0.appWOp Ho.out rr_sized _ _ 22 rfl _ 88 Try.underlying22 row_made rfl rfl _ m cap' (ofF m v) rfl (HRv6.out _ K0.1) (by simp; omega) (by omega) ?_; intro v1 X V0 ho1 K2; rw [List.nil_append] at ho1; clear Ho; have Ho := Lib.hid ho1; clear ho1; replace K0 := K2; clear K2; refine hKK.out _ _ (HC6.out _ K0.1) (fun hSh => ?_); clear hKK KK; refine ZPT ?_
          exact ZS0
    · refine K0.litOp _ _ rfl _ rfl _ _ (run_litR _ _ _ _ _ _ _ _ _ _ _ _) ?_; intro gl V0 K2; replace K0 := K2; clear K2; refine hKK.out _ _ (HC6.out _ K0.1) (fun hSh => ?_); clear hKK KK; refine ZPT ?_
      refine wpAnyT.on2 2 17 rfl rfl (fun KK hKK => ?_) (fun KK hKK => ?_)
      · go_simp; have K2 := K0.new #[] 45; have Ho := Lib.hid (OwL.empty (α := Rr) 5 Rr.cs 45 V0.heap.size); generalize V0.heap.size = gB at K2 Ho ⊢; generalize V0.alloc (.cells #[] 45) = V0 at K2 ⊢; replace K0 : St W6 ([((gB, #[], 45) : Blk)] ++ _) _ _ := K2; clear K2; generalize [((gB, #[], 45) : Blk)] = X at K0 Ho; refine hKK.out _ _ (HC6.out _ K0.1) (fun hSh => ?_); clear hKK KK; refine ZPT ?_
        refine wpAnyT.on2 5 17 rfl rfl (fun KK hKK => ?_) (fun KK hKK => ?_)
        · refine K0.appWOp Ho.out rr_sized _ _ 22 rfl _ 88 Try.underlying22 row_made rfl rfl _ m cap' (ofF m v) rfl (HRv6.out _ K0.1) (by simp; omega) (by omega) ?_; intro v1 X V0 ho1 K2; rw [List.nil_append] at ho1; clear Ho; have Ho := Lib.hid ho1; clear ho1; replace K0 := K2; clear K2; refine hKK.out _ _ (HC6.out _ K0.1) (fun hSh => ?_); clear hKK KK; refine ZPT ?_
          refine wpAnyT.on2 15 17 rfl rfl (fun KK hKK => ?_) (fun KK hKK => ?_)
          · refine K0.appOp Ho.out rr_sized _ _ 22 rfl _ 88 Try.underlying22 row_made rfl rfl (⟨(v k).A, (v k).n, (v k).c, (v k).a, z⟩ : Rr) gl _ (by first | exact List.mem_cons_self | exact List.mem_cons_of_mem _ List.mem_cons_self) rfl (by rw [ofF_len]; omega) (by omega) ?_; intro v1 X V0 ho1 K2; rw [ofF_put, ← hy5.out] at ho1; clear Ho; obtain ⟨gr, gd, J2, hv2, hX2, hg2⟩ := ho1.blk (by omega); clear ho1; subst hv2 hX2; replace K0 : St W6 ([((gr, recA Rr.cs (m + 1) (putF v m y5) J2, 45) : Blk)] ++ _) _ _ := K2; clear K2; refine hKK.out _ _ (HC6.out _ K0.1) (fun hSh => ?_); clear hKK KK; refine ZPT ?_
            refine wpAnyT.tkC 16 rfl ?_
            refine wpAnyT.on 17 rfl fun KK hKK => ?_
            go_simp; have K2 := (K0.new #[.slice none 0 0, .slice none 0 0] 58).mid; generalize V0.heap.size = gM at K2 ⊢; generalize V0.alloc (.cells #[.slice none 0 0, .slice none 0 0] 58) = V0 at K2 ⊢; replace K0 := K2; clear K2; refine hKK.out _ _ (HC6.out _ K0.1) (fun hSh => ?_); clear hKK KK; refine ZPT ?_
            exact ZS1
          · go_simp; have K2 := (K0.new #[.slice none 0 0, .slice none 0 0] 58).mid; generalize V0.heap.size = gM at K2 ⊢; generalize V0.alloc (.cells #[.slice none 0 0, .slice none 0 0] 58) = V0 at K2 ⊢; replace K0 := K2; clear K2; refine hKK.out _ _ (HC6.out _ K0.1) (fun hSh => ?_); clear hKK KK; refine ZPT ?_
            exact ZS0
        · go_simp; have K2 := (K0.new #[.slice none 0 0, .slice none 0 0] 58).mid; generalize V0.heap.size = gM at K2 ⊢; generalize V0.alloc (.cells #[.slice none 0 0, .slice none 0 0] 58) = V0 at K2 ⊢; replace K0 := K2; clear K2; refine hKK.out _ _ (HC6.out _ K0.1) (fun hSh => ?_); clear hKK KK; refine ZPT ?_
          refine wpAnyT.on 5 rfl fun KK hKK => ?_
          refine K0.appWOp Ho.out rr_sized _ _ 22 rfl _ 88 Try.underlying22 row_made rfl rfl _ m cap' (ofF m v) rfl (HRv6.out _ K0.1) (by simp; omega) (by omega) ?_; intro v1 X V0 ho1 K2; rw [List.nil_append] at ho1; clear Ho; have Ho := Lib.hid ho1; clear ho1; replace K0 := K2; clear K2; refine hKK.out _ _ (HC6.out _ K0.1) (fun hSh => ?_); clear hKK KK; refine ZPT ?_
          exact ZS0
      · go_simp; have K2 := K0.new #[.slice none 0 0, .slice none 0 0] 58; generalize V0.heap.size = gM at K2 ⊢; generalize V0.alloc (.cells #[.slice none 0 0, .slice none 0 0] 58) = V0 at K2 ⊢; replace K0 := K2; clear K2; refine hKK.out _ _ (HC6.out _ K0.1) (fun hSh => ?_); clear hKK KK; refine ZPT ?_
        refine wpAnyT.on 2 rfl fun KK hKK => ?_
        go_simp; have K2 := K0.new #[] 45; have Ho := Lib.hid (OwL.empty (α := Rr) 5 Rr.cs 45 V0.heap.size); generalize V0.heap.size = gB at K2 Ho ⊢; generalize V0.alloc (.cells #[] 45) = V0 at K2 ⊢; replace K0 : St W6 ([((gB, #[], 45) : Blk)] ++ _) _ _ := K2; clear K2; generalize [((gB, #[], 45) : Blk)] = X at K0 Ho; refine hKK.out _ _ (HC6.out _ K0.1) (fun hSh => ?_); clear hKK KK; refine ZPT ?_
        refine wpAnyT.on 5 rfl fun KK hKK => ?_
        refine K0.appWOp Ho.out rr_sized _ _ 22 rfl _ 88 Try.underlying22 row_made rfl rfl _ m cap' (ofF m v) rfl (HRv6.out _ K0.1) (by simp; omega) (by omega) ?_; intro v1 X V0 ho1 K2; rw [List.nil_append] at ho1; clear Ho; have Ho := Lib.hid ho1; clear ho1; replace K0 := K2; clear K2; refine hKK.out _ _ (HC6.out _ K0.1) (fun hSh => ?_); clear hKK KK; refine ZPT ?_
        exact ZS0
    · go_simp; have K2 := K0.new #[.slice none 0 0, .slice none 0 0] 58; generalize V0.heap.size = gM at K2 ⊢; generalize V0.alloc (.cells #[.slice none 0 0, .slice none 0 0] 58) = V0 at K2 ⊢; replace K0 := K2; clear K2; refine hKK.out _ _ (HC6.out _ K0.1) (fun hSh => ?_); clear hKK KK; refine ZPT ?_
      refine wpAnyT.on2 2 14 rfl rfl (fun KK hKK => ?_) (fun KK hKK => ?_)
      · go_simp; have K2 := K0.new #[] 45; have Ho := Lib.hid (OwL.empty (α := Rr) 5 Rr.cs 45 V0.heap.size); generalize V0.heap.size = gB at K2 Ho ⊢; generalize V0.alloc (.cells #[] 45) = V0 at K2 ⊢; replace K0 : St W6 ([((gB, #[], 45) : Blk)] ++ _) _ _ := K2; clear K2; generalize [((gB, #[], 45) : Blk)] = X at K0 Ho; refine hKK.out _ _ (HC6.out _ K0.1) (fun hSh => ?_); clear hKK KK; refine ZPT ?_
        refine wpAnyT.on2 5 14 rfl rfl (fun KK hKK => ?_) (fun KK hKK => ?_)
        · refine K0.appWOp Ho.out rr_sized _ _ 22 rfl _ 88 Try.underlying22 row_made rfl rfl _ m cap' (ofF m v) rfl (HRv6.out _ K0.1) (by simp; omega) (by omega) ?_; intro v1 X V0 ho1 K2; rw [List.nil_append] at ho1; clear Ho; have Ho := Lib.hid ho1; clear ho1; replace K0 := K2; clear K2; refine hKK.out _ _ (HC6.out _ K0.1) (fun hSh => ?_); clear hKK KK; refine ZPT ?_
          refine wpAnyT.on 14 rfl fun KK hKK => ?_
          refine K0.litOp _ _ rfl _ rfl _ _ (run_litR _ _ _ _ _ _ _ _ _ _ _ _) ?_; intro gl V0 K2; replace K0 := K2.mid; clear K2; refine hKK.out _ _ (HC6.out _ K0.1) (fun hSh => ?_); clear hKK KK; refine ZPT ?_
          exact ZS0
        · refine K0.litOp _ _ rfl _ rfl _ _ (run_litR _ _ _ _ _ _ _ _ _ _ _ _) ?_; intro gl V0 K2; replace K0 := K2.mid; clear K2; refine hKK.out _ _ (HC6.out _ K0.1) (fun hSh => ?_); clear hKK KK; refine ZPT ?_
          refine wpAnyT.on 5 rfl fun KK hKK => ?_
          refine K0.appWOp Ho.out rr_sized _ _ 22 rfl _ 88 Try.underlying22 row_made rfl rfl _ m cap' (ofF m v) rfl (HRv6.out _ K0.1) (by simp; omega) (by omega) ?_; intro v1 X V0 ho1 K2; rw [List.nil_append] at ho1; clear Ho; have Ho := Lib.hid ho1; clear ho1; replace K0 := K2; clear K2; refine hKK.out _ _ (HC6.out _ K0.1) (fun hSh => ?_); clear hKK KK; refine ZPT ?_
          exact ZS0
      · refine K0.litOp _ _ rfl _ rfl _ _ (run_litR _ _ _ _ _ _ _ _ _ _ _ _) ?_; intro gl V0 K2; replace K0 := K2; clear K2; refine hKK.out _ _ (HC6.out _ K0.1) (fun hSh => ?_); clear hKK KK; refine ZPT ?_
        refine wpAnyT.on 2 rfl fun KK hKK => ?_
        go_simp; have K2 := K0.new #[] 45; have Ho := Lib.hid (OwL.empty (α := Rr) 5 Rr.cs 45 V0.heap.size); generalize V0.heap.size = gB at K2 Ho ⊢; generalize V0.alloc (.cells #[] 45) = V0 at K2 ⊢; replace K0 : St W6 ([((gB, #[], 45) : Blk)] ++ _) _ _ := K2; clear K2; generalize [((gB, #[], 45) : Blk)] = X at K0 Ho; refine hKK.out _ _ (HC6.out _ K0.1) (fun hSh => ?_); clear hKK KK; refine ZPT ?_
        refine wpAnyT.on 5 rfl fun KK hKK => ?_
        refine K0.appWOp Ho.out rr_sized _ _ 22 rfl _ 88 Try.underlying22 row_made rfl rfl _ m cap' (ofF m v) rfl (HRv6.out _ K0.1) (by simp; omega) (by omega) ?_; intro v1 X V0 ho1 K2; rw [List.nil_append] at ho1; clear Ho; have Ho := Lib.hid ho1; clear ho1; replace K0 := K2; clear K2; refine hKK.out _ _ (HC6.out _ K0.1) (fun hSh => ?_); clear hKK KK; refine ZPT ?_
        exact ZS0
  obtain ⟨gM, gr, gd, J2, gl, rfl, hRR⟩ := hcut
  obtain ⟨hgd, K⟩ := (HR0 _ _ _ _ _ _).1 hRR
  clear hRR HR0 RR
  have hOn6 : ∀ i, i < m + 1 → (putF v m y5 i).on W6 := fun i hi => by
    by_cases e : i = m
    · rw [e, putF_same, hy5.out]
      exact ⟨hyk.1.up fE_lasts HB6.out, HZ.out.1.up (flat_lasts _) HB6.out, HZ.out.2.up (flat_lasts _) HB6.out⟩
    · rw [putF_other e]
      have h := HOn.out i (by omega)
      exact ⟨h.1.up fE_lasts HB6.out, h.2.1.up (flat_lasts _) HB6.out, h.2.2.up (flat_lasts _) HB6.out⟩
  have K2 := K.fam (I := fun i => i < m + 1) (P := fun i => (putF v m y5 i).on) (S := fun _ => oldS W6) (fun i hi => K.okRow _ (hOn6 i hi))
  have rdM := K2.rdRR (g := gr) (cap := gd) (u := putF v m y5) ZMB ZMB (by omega) hgd
  rw [putF_rv9, hy5.out, show (⟨(v k).A, (v k).n, (v k).c, (v k).a, z⟩ : Rr).rv = ⟨(v k).rv.a, z.fv⟩ from rfl] at rdM
  have hBM := K.blk (b := gM) (cs := #[.slice A n cap, .slice (some ⟨gr, 0, none⟩) (m + 1) gd]) (t := 58) ZMB
  have d0 := hBM.cell (j := 0) rfl
  have d1 := hBM.cell (j := 1) rfl
  have hbM := K.1
  have HSm := Lib.hid (solve_any A (some ⟨gr, 0, none⟩) n cap (m + 1) gd l _ wc (HGo.out wc (HB6.out.trans (hbM.mono HB6.out.size))) rdM (by omega) (by omega) (more_ok9 HOk.out HV.out hk hz))
  have HbM := Lib.hid hbM
  have hm1 : ((m : Int) + 1) = ((m + 1 : Nat) : Int) := by omega
  clear K K2 hOn6 rdM hBM hbM hy5 y5 HRv6 hm1
  go_wp2_with fail
  refine HSm.out.mono ?_
  rintro e W10 ⟨I, hI, hsol, hb10⟩
  obtain ⟨Z1, k5, g5, Z2, k6, g7, rfl, HZs⟩ := hsol.form
  replace HZs := Lib.hid HZs
  have HB10 := Lib.hid (HbM.out.trans (hb10.mono HbM.out.size))
  have HBe := Lib.hid (HB6.out.trans (HB10.out.mono HB6.out.size))
  clear d0 d1 hsol HSm hb10
  cases E with
  | full =>
    cases I with
    | full =>
      exact ZS8
    | none a1 =>
      exact ZS8
    | ray a1 =>
      exact ZS8
    | best a1 a2 =>
      exact ZS8
  | none x1 =>
    cases I with
    | full =>
      exact ZS8
    | none a1 =>
      exact ZS8
    | ray a1 => exact (show False from by cases ((more9 HV.out HE.out hI (fun e => by cases e) (fun e => by cases e)).1 _ rfl).choose_spec).elim
    | best a1 a2 => exact (show False from by cases ((more9 HV.out HE.out hI (fun e => by cases e) (fun e => by cases e)).1 _ rfl).choose_spec).elim
  | ray x1 =>
    cases I with
    | full =>
      exact ZS8
    | none a1 =>
      exact ZS8
    | ray a1 =>
      exact ZS8
    | best a1 a2 =>
      exact ZS8
  | best x1 x2 =>
    cases I with
    | full =>
      exact ZS8
    | none a1 =>
      exact ZS8
    | ray a1 => exact ((more9 HV.out HE.out hI (fun e => by cases e) (fun e => by cases e)).2.1 _ _ _ rfl rfl).elim
    | best a1 a2 =>
      have hle := (more9 HV.out HE.out hI (fun e => by cases e) (fun e => by cases e)).2.2 _ _ _ _ rfl rfl
      obtain ⟨e1, hx, hfx⟩ := HX.out x1 x2 rfl
      obtain ⟨e2, ha, hfa⟩ := HZs.out a1 a2 rfl
      have e1 := e1.symm
      have e2 := e2.symm
      subst e1 e2
      have HUx := Lib.hid (fun V (h : Below W10.heap.size W10 V) => hx.up fE_lasts (HB10.out.trans (h.mono HB10.out.size)))
      have HUa := Lib.hid (fun V (h : Below W10.heap.size W10 V) => ha.up fE_lasts h)
      have HP := Lib.hid (fun V (h : Below W10.heap.size W10 V) => HGo.out V (HBe.out.trans (h.mono HBe.out.size)))
      have HC1 := Lib.hid (fun V (h : Below W10.heap.size W10 V) => (HC6.out V (HB10.out.trans (h.mono HB10.out.size))).1)
      have hcx := hx.caps
      have hca := ha.caps
      have HLe := Lib.hid (show smQ (fun i => fvR l i * fvR (ofF n fun i => fvQ (a1 i)) i) n ≤ smQ (fun i => fvR l i * fvR (ofF n fun i => fvQ (x1 i)) i) n from by
        rw [smQ_congr (f := fun i => fvR l i * fvR (ofF n fun i => fvQ (a1 i)) i) (g := fun j => fvR l j * a1 j) (fun i hi => by rw [fvR_ofF hi, fvQ_rat]), smQ_congr (f := fun i => fvR l i * fvR (ofF n fun i => fvQ (x1 i)) i) (g := fun j => fvR l j * x1 j) (fun i hi => by rw [fvR_ofF hi, fvQ_rat])]
        exact hle)
      have K := St.start W10
      obtain ⟨c0, c1⟩ := HC1.out _ K.1
      clear HX HZs hx ha hle HE hI
      dsimp only [lpC]
      go_wp2_with fail
      refine (sum9_any A X1 n cap g1 l (ofF n fun i => fvQ (x1 i)) W10 (HP.out W10 K.1) (HUx.out W10 K.1) (by omega) hlok (ofF_allP9 fun i hi => fvQ_ok (hfx i hi))).mono ?_
      rintro e W11 ⟨z1, o1, rfl, -, hz1, ⟨ra, rb⟩, ⟨fa, fb⟩, hb11⟩
      have hz1 := Lib.hid hz1
      replace K := K.retF hb11 ra rb fa fb
      clear c0 c1 ra rb fa fb hb11
      obtain ⟨c0, c1⟩ := HC1.out _ K.1
      go_wp2_with (first
        | (apply K.alloc; rfl; rfl; exact frac_zero; clear K c0 c1; intro W b8 K; obtain ⟨c0, c1⟩ := HC1.out _ K.1)
        | (apply K.storeA; rfl; rfl; rfl; rfl; rfl; (exact ZUP); exact frac_size; rfl; rfl; rfl; clear K c0 c1; intro W K; obtain ⟨c0, c1⟩ := HC1.out _ K.1))
      refine (sum9_any A Z1 n cap g5 l (ofF n fun i => fvQ (a1 i)) W (HP.out W K.1) (HUa.out W K.1) (by omega) hlok (ofF_allP9 fun i hi => fvQ_ok (hfa i hi))).mono ?_
      rintro e W12 ⟨z2, o2, rfl, -, hz2, ⟨ra, rb⟩, ⟨fa, fb⟩, hb12⟩
      have hz2 := Lib.hid hz2
      replace K := K.retF hb12 ra rb fa fb
      clear c0 c1 ra rb fa fb hb12
      cases o1
      · exact ZS7
      · cases o2
        · exact ZS7
        · have HZ1 := Lib.hid (hz1.out (by simp))
          have HZ2 := Lib.hid (hz2.out (by simp))
          go_upto_region 24 with (first
            | (apply K.alloc; rfl; rfl; exact frac_zero; clear K; intro W b9 K)
            | (apply K.storeA; rfl; rfl; rfl; rfl; rfl; (exact ZUP); exact frac_size; rfl; rfl; rfl; clear K; intro W K))
          have hBb8 := K.blk (b := b8) (cs := #[.int .i64 z1.s, .slice z1.A z1.n z1.c, .int .i64 z1.t, .slice z1.B z1.m z1.d]) (t := 40) ZMB
          have e0b8 := hBb8.cell (j := 0) rfl
          have e1b8 := hBb8.cell (j := 1) rfl
          have e2b8 := hBb8.cell (j := 2) rfl
          have e3b8 := hBb8.cell (j := 3) rfl
          clear hBb8
          have hBb9 := K.blk (b := b9) (cs := #[.int .i64 z2.s, .slice z2.A z2.n z2.c, .int .i64 z2.t, .slice z2.B z2.m z2.d]) (t := 40) ZMB
          have e0b9 := hBb9.cell (j := 0) rfl
          have e1b9 := hBb9.cell (j := 1) rfl
          have e2b9 := hBb9.cell (j := 2) rfl
          have e3b9 := hBb9.cell (j := 3) rfl
          clear hBb9
          go_wp2_with ((go_at_call 38; refine (callCmpR K HZ2.out HZ1.out HLe.out ZMB ZMB ZMB ZMB).mono ?_; rintro e W ⟨cv, rfl, hcv, K2⟩; replace K := K2; clear K2; have hcp : cv ≤ 0 := hcv.out; have hcd : decide (cv ≤ 0) = true := decide_eq_true hcp))
          go_ret
          exact ⟨rfl, HBe.out.trans (K.1.mono HBe.out.size)⟩
end Go.Proofs.Ytdlcglndhhndpaa
