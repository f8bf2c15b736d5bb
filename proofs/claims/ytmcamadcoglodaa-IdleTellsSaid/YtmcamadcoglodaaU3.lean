/- Walks over try and Best of the reference of layer 24. Conditions stand in each theorem. -/
import Derived.Test.YtmcamadcoglodaaU2
import Derived.Deep.RegionHeld3
import Derived.Lib.LazyBuf
namespace Go.Proofs.Ytmcamadcoglodaa
open Go.RowKit
set_option linter.unusedVariables false

theorem Own.litB {w : World} {base H : Nat} {e : TypeId} (hH : w.heap.size = H) (hb : base ≤ w.heap.size) : Own 1 iEnc (w.alloc (.cells #[] e)) base e (.slice (some ⟨H, 0, none⟩) 0 0) ([] : List Int) := by
  subst hH
  exact Own.lit (n := 0) iSized hb [] #[] rfl rfl (by omega)
def TryPost (w : World) (m n k : Nat) (c : Nat → Nat → Int) (T : Nat → Nat) (e : Ending) (w' : World) : Prop := ∃ bv least, e = .returned (.tuple #[bv, .int .i64 least]) ∧ BestV w' m c bv least (SnA m n k T) ∧ Below w.heap.size w w'
set_option maxRecDepth 100000 in
set_option maxHeartbeats 8000000 in
theorem try_any (A : Option Addr) (m cap N : Nat) (cl : List (List Int)) (hr : rightC cl = true) (hm : cl.length = m) (hN : wid cl = N) : ∀ (d k : Nat), k + d = m → ∀ (T : Nat → Nat) (A2 : Option Addr) (cap2 : Nat) (bv : Value) (least : Int) (w : World), RdII w w.heap.size A m cap cl →
    RdI w w.heap.size A2 k cap2 (ofF k (fun r => ((T r : Nat) : Int))) → Part N k T → BestV w m (tb cl) bv least (SnB m N k T) →
    Calls Try.prog 38 #[.slice A m cap, .slice A2 k cap2, .int .i64 (sumN (fun r => tb cl r (T r)) k), bv, .int .i64 least] w (TryPost w m N k (tb cl) T) := by
  intro d
  induction d with
  | zero =>
    intro k hkm T A2 cap2 bv least w hl ht hp hb
    have hkm' : k = m := by omega
    subst hkm'
    have hAs : As k N T := hp
    obtain ⟨⟨m1, m20⟩, -⟩ := rightC_iff.1 hr
    have hk1 : 1 ≤ k := by omega
    have hk20 : k ≤ 20 := by omega
    have hee : ((k : Int) == (k : Int)) = true := by simp
    obtain ⟨i0, hi0, hz0, hz1, hz2⟩ := info_parts int_info
    have hcT : sumN (fun r => tb cl r (T r)) k = costF k (tb cl) T := rfl
    have hqn : ∀ w : World, (binOp .eql 23 (.slice none 0 0) (.slice none 0 0)).run Try.prog w = .ok (.bool true) w := fun w => run_eql_slice_nil w _ _ none 0 0 Try.underlying23
    have hqs : ∀ (w : World) (a : Addr) (l c : Nat), (binOp .eql 23 (.slice (some a) l c) (.slice none 0 0)).run Try.prog w = .ok (.bool false) w := fun w a l c => run_eql_slice_nil w _ _ (some a) l c Try.underlying23
    rw [hcT]
    have Hnew := Lib.hid (fun (h : BestT k (tb cl) T (SnA k N k T)) g c' w' (ho : Own 1 iEnc w' w.heap.size 3 (.slice (some ⟨g, 0, none⟩) k c') (ofF k (fun r => ((T r : Nat) : Int)))) (hbel : Below w.heap.size w w') => (show TryPost w k N k (tb cl) T (.returned (.tuple #[.slice (some ⟨g, 0, none⟩) k c', .int .i64 (costF k (tb cl) T)])) w' from by
      obtain ⟨A2, cc2, hv, hr2⟩ := ho.rd iSized (by rw [ofF_len]; omega)
      rw [ofF_len] at hv hr2
      injection hv with h1 h2 h3
      subst h1 h3
      exact ⟨_, _, rfl, Or.inr ⟨_, _, T, rfl, hr2, rfl, h⟩, hbel⟩))
    rcases hb with ⟨rfl, hno⟩ | ⟨a, capb, B, rfl, hrb, rfl, hB⟩
    · have Hb := Lib.hid (best_none (c := tb cl) hAs hno)
      generalize TryPost w k N k (tb cl) T = Q at *
      generalize costF k (tb cl) T = C at *
      clear hcT hno hr hm
      go_enter Try.func38, Try.ntmps38
      go_wp2_with (at_builtin; refine wpList_row rfl _ _ 23 rfl i0 _ Try.underlying23 hi0 hz0 hz1 hz2 rfl _ rfl rfl _ k _ _ rfl ht (by omega) (by omega) ?_
                   intro g c' w1 ho hb1)
      exact Hnew.out Hb.out g c' w1 ho hb1
    · have Hl := Lib.hid (fun h => best_less (c := tb cl) hAs hB h)
      have Hs := Lib.hid (fun h => best_stay (c := tb cl) hAs hB h)
      have Hst := Lib.hid (fun (h : BestT k (tb cl) B (SnA k N k T)) => (show TryPost w k N k (tb cl) T (.returned (.tuple #[.slice (some a) k capb, .int .i64 (costF k (tb cl) B)])) w from ⟨_, _, rfl, Or.inr ⟨a, capb, B, rfl, hrb, rfl, h⟩, Below.refl _ _⟩))
      generalize TryPost w k N k (tb cl) T = Q at *
      generalize costF k (tb cl) T = C at *
      generalize costF k (tb cl) B = CB at *
      clear hcT hB hr hm
      by_cases hlt : C < CB
      · have hd : decide (C < CB) = true := by simpa using hlt
        have Hb := Lib.hid (Hl.out hlt)
        clear hlt Hl Hs
        go_enter Try.func38, Try.ntmps38
        go_wp2_with (at_builtin; refine wpList_row rfl _ _ 23 rfl i0 _ Try.underlying23 hi0 hz0 hz1 hz2 rfl _ rfl rfl _ k _ _ rfl ht (by omega) (by omega) ?_
                     intro g c' w1 ho hb1)
        exact Hnew.out Hb.out g c' w1 ho hb1
      · have hd : decide (C < CB) = false := by simpa using hlt
        have Hb := Lib.hid (Hst.out (Hs.out hlt))
        clear hlt Hl Hs
        go_enter Try.func38, Try.ntmps38
        go_wp2
        exact Hb.out
  | succ d ih =>
    intro k hkm T A2 cap2 bv least w hl ht hp hb
    obtain ⟨⟨m1, m20⟩, ⟨v1, v40⟩, hrow⟩ := rightC_iff.1 hr
    rw [hm] at m1 m20 v1
    rw [hN] at v1 v40
    have hkm2 : k < m := by omega
    have hne : ((k : Int) == (m : Int)) = false := by simp; omega
    have hcap1 := hl.caps
    have hcap2 := ht.caps
    have hlt2 := ht.len
    obtain ⟨b, off, A0, n0, cap0, x0, rfl, hbB, hx0, c0, r0⟩ := hl.atII (k := 0) (by omega)
    rw [Nat.add_zero] at c0
    have hwid : N = n0 := by rw [← hN, wid, clAt_eq hx0]; exact r0.len
    have hcap0 := r0.caps
    obtain ⟨b1, off1, Ak, nk, capk, xk, hA, hbB1, hxk, ck, rk⟩ := hl.atII (k := k) hkm2
    injection hA with hA; injection hA with hA1 hA2
    subst hA1 hA2
    have hnk : nk = n0 := by rw [← rk.len, ← clAt_eq hxk, (rowC_iff.1 (hrow k (by omega))).1, hN, hwid]
    subst hnk
    subst hwid
    have hcapk := rk.caps
    have Hck := Lib.hid (clAt_eq hxk)
    obtain ⟨i0, hi0, hz0, hz1, hz2⟩ := info_parts int_info
    have Hcell := Lib.hid (fun r j (h1 : r < m) (h2 : j < N) => (show 0 ≤ tb cl r j ∧ tb cl r j ≤ 1000000000 from right_at hr (by omega) (by omega)))
    have hsb := sumN_bd (f := fun r => tb cl r (T r)) (M := 1000000000) (by omega) k (fun r hr' => Hcell.out r (T r) (by omega) (hp.1 r hr'))
    have Hsb := Lib.hid hsb
    have IH := Lib.hid (fun (j : Nat) (hj : j < N) bv least A11 c11 w' hl' (ht' : RdI w' w'.heap.size A11 (k + 1) c11 (ofF k (fun r => ((T r : Nat) : Int)) ++ [(j : Int)])) hp' hb' => (show Calls Try.prog 38 #[.slice (some ⟨b, off, none⟩) m cap, .slice A11 (k + 1) c11, .int .i64 (sumN (fun r => tb cl r (T r)) k + tb cl k j), bv, .int .i64 least] w' (fun e w'' => ∃ bv2 least2, e = .returned (.tuple #[bv2, .int .i64 least2]) ∧ BestV w'' m (tb cl) bv2 least2 (SnJ m N k (j + 1) T) ∧ Below w'.heap.size w' w'') from by
      have h := ih (k + 1) (by omega) (ext T k j) A11 c11 bv least w' hl' (by rw [← ext_list]; exact ht') (Part.ext hp hj hp') (BestV.congr hb' (fun F => snB_ext))
      rw [ext_sum] at h
      refine h.mono fun e w'' hpost => ?_
      obtain ⟨bv2, l2, h1, h2, h3⟩ := hpost
      exact ⟨bv2, l2, h1, h2.congr (fun F => snA_ext.symm), h3⟩))
    have Hfin := Lib.hid (fun bv' least' w' (h : BestV w' m (tb cl) bv' least' (SnJ m N k N T)) (hbel : Below w.heap.size w w') => (show TryPost w m N k (tb cl) T (.returned (.tuple #[bv', .int .i64 least'])) w' from ⟨bv', least', rfl, h.congr (fun F => (snJ_all hkm2).symm), hbel⟩))
    have hb0 : BestV w m (tb cl) bv least (SnJ m N k 0 T) := hb.congr (fun F => snJ_zero)
    have Hp := Lib.hid hp
    have hkN : 1 ≤ N := by omega
    clear hb ih hr hm hN hrow hx0 r0 hxk hsb hp
    generalize TryPost w m N k (tb cl) T = Q at *
    obtain ⟨SU, hSU⟩ : ∃ s, s = sumN (fun r => tb cl r (T r)) k := ⟨_, rfl⟩
    rw [← hSU] at IH Hsb ⊢
    clear hSU
    go_enter Try.func38, Try.ntmps38
    go_wp2
    go_loopg [3, 4, 12] N (fun gk bv le i wr => ∃ (j : Nat) (ls : Int), j ≤ N ∧ gk = N - j ∧ i = .int .i64 j ∧ le = .int .i64 ls ∧ BestV wr m (tb cl) bv ls (SnJ m N k j T) ∧ Below w.heap.size w wr)
    case atStart => exact ⟨0, least, Nat.zero_le _, rfl, rfl, rfl, hb0, Below.refl _ _⟩
    case round =>
      clear hb0
      obtain ⟨j, ls, hj, rfl, rfl, rfl, hbv, hbel⟩ := hrel
      have d0 := (hbel.cell (p := ⟨b, off, none⟩) hbB).trans c0
      have dk := (hbel.cell (p := ⟨b, off + k, none⟩) hbB).trans ck
      have hm0 : (0 : Int) < (m : Int) := by omega
      have hm00 : 0 < m := by omega
      by_cases hlt : j < N
      · have hji : (j : Int) < (N : Int) := by omega
        have hj0 : (0 : Int) ≤ (j : Int) := by omega
        obtain ⟨wo, rfl⟩ : ∃ wo, wo = wr := ⟨_, rfl⟩
        have ht' := ht.up (flat_lasts _) hbel
        go_wp2
        go_loopg [13, 14] k (fun gk u a wx => ∃ (r : Nat) (bu : Bool), r ≤ k ∧ gk = k - r ∧ a = .int .i64 r ∧ u = .bool bu ∧ UsedP (ofF k (fun r => ((T r : Nat) : Int))) j r bu ∧ wo = wx)
        case atStart => exact ⟨0, false, Nat.zero_le _, rfl, rfl, rfl, UsedP.zero, rfl⟩
        case round =>
          obtain ⟨r, bu, hrk, rfl, rfl, rfl, hU, rfl⟩ := hrel
          have HU := Lib.hid hU
          clear hU
          by_cases hlr : r < k
          · obtain ⟨bt, ot, xt, hAt, hbt, hxt, t0⟩ := ht'.atI hlr
            subst hAt
            have HxT := Lib.hid (show gi (ofF k (fun r => ((T r : Nat) : Int))) r = xt from gi_eq hxt)
            have hri : (r : Int) < (k : Int) := by omega
            have hr0 : (0 : Int) ≤ (r : Int) := by omega
            clear hxt
            cases bu
            · by_cases he : xt = (j : Int)
              · have hd : (xt == (j : Int)) = true := by simp [he]
                have Hn := Lib.hid (UsedP.yes (u := true) (HxT.out.trans he))
                clear he
                go_wp2
                go_roundg (k - (r + 1))
                case rel => exact ⟨r + 1, true, by omega, rfl, by go_num, rfl, Hn.out, rfl⟩
                case measure => omega
              · have hd : (xt == (j : Int)) = false := by simp [he]
                have Hn := Lib.hid (UsedP.no HU.out (by rw [HxT.out]; exact he))
                clear he
                go_wp2
                go_roundg (k - (r + 1))
                case rel => exact ⟨r + 1, false, by omega, rfl, by go_num, rfl, Hn.out, rfl⟩
                case measure => omega
            · have Hn := Lib.hid HU.out.stay
              go_wp2
              go_roundg (k - (r + 1))
              case rel => exact ⟨r + 1, true, by omega, rfl, by go_num, rfl, Hn.out, rfl⟩
              case measure => omega
          · have er : r = k := by omega
            subst er
            have huse : bu = true ↔ ∃ a, a < r ∧ T a = j := by
              have hU := HU.out
              unfold UsedP at hU
              rw [hU]
              refine ⟨fun ⟨a, h1, h2⟩ => ⟨a, h1, ?_⟩, fun ⟨a, h1, h2⟩ => ⟨a, h1, ?_⟩⟩
              · rw [toL_at (T := T) h1] at h2; omega
              · rw [toL_at (T := T) h1]; omega
            cases bu
            · -- not used: go on with it
              have hnu : ∀ a, a < r → T a ≠ j := fun a h1 h2 => by have := huse.2 ⟨a, h1, h2⟩; cases this
              obtain ⟨bi, oi, xv, hAi, hbi, hxi, x0⟩ := rk.atI hlt
              subst hAi
              have Hxv := Lib.hid (show tb cl r j = xv by rw [tb, Hck.out]; exact gi_eq hxi)
              have x0' := (hbel.cell (p := ⟨bi, oi + j, none⟩) hbi).trans x0
              have hxb := Hcell.out r j hkm2 hlt
              rw [Hxv.out] at hxb
              have hsb := Hsb.out
              have hw1 : IntKind.i64.wrap (SU + xv) = SU + xv := IntWalk.i64_in _ (by omega)
              have hki : (r : Int) < (m : Int) := by omega
              have hk0 : (0 : Int) ≤ (r : Int) := by omega
              have HC := Lib.hid (fun A11 c11 w' (hb' : Below wo.heap.size wo w') (ht2 : RdI w' w'.heap.size A11 (r + 1) c11 (ofF r (fun r => ((T r : Nat) : Int)) ++ [(j : Int)])) => (show Calls Try.prog 38 #[.slice (some ⟨b, off, none⟩) m cap, .slice A11 (r + 1) c11, .int .i64 (SU + xv), u3, .int .i64 ls] w' (fun e w'' => ∃ bv2 least2, e = .returned (.tuple #[bv2, .int .i64 least2]) ∧ BestV w'' m (tb cl) bv2 least2 (SnJ m N r (j + 1) T) ∧ Below wo.heap.size wo w'') from by
                have h := IH.out j hlt u3 ls A11 c11 w' (hl.up ii_lasts (hbel.trans (hb'.mono hbel.size))) ht2 hnu (hbv.below hb')
                rw [Hxv.out] at h
                refine h.mono fun e w'' ⟨bv2, l2, h1, h2, h3⟩ => ⟨bv2, l2, h1, h2, hb'.trans (h3.mono hb'.size)⟩))
              have X0 : Below wo.heap.size wo wo.drew := (Below.refl wo.heap.size wo).drew
              have X1 := fun o => X0.alloc (Nat.le_refl wo.heap.size) o
              have hbi' := Nat.lt_of_lt_of_le hbi hbel.size
              have hbB1' := Nat.lt_of_lt_of_le hbB1 hbel.size
              have HSk := Lib.hid (show ∀ w', Below wo.heap.size wo w' → (w'.cell? ⟨b, off + r, none⟩ = some (.slice (some ⟨bi, oi, none⟩) N capk) ∧ w'.cell? ⟨bi, oi + j, none⟩ = some (.int .i64 xv)) from fun w' hb => ⟨(hb.cell (p := ⟨b, off + r, none⟩) hbB1').trans dk, (hb.cell (p := ⟨bi, oi + j, none⟩) hbi').trans x0'⟩)
              have hll : (ofF r (fun r => ((T r : Nat) : Int))).length = r := ofF_len ..
              have hll2 : (ofF r (fun r => ((T r : Nat) : Int)) ++ [(j : Int)]).length = r + 1 := by rw [List.length_append, ofF_len]; rfl
              obtain ⟨l, hle⟩ : ∃ l, l = ofF r (fun r => ((T r : Nat) : Int)) := ⟨_, rfl⟩
              rw [← hle] at hll hll2 ht' HC
              clear huse hxi x0 hnu IH hbv Hfin HU Hp hle d0 dk x0'
              go_wp2_with fail
              go_region_held3 (fun w' => w'.cell? ⟨b, off + r, none⟩ = some (.slice (some ⟨bi, oi, none⟩) N capk) ∧ w'.cell? ⟨bi, oi + j, none⟩ = some (.int .i64 xv))
                ((refine HSk.out _ ?_; first | exact X0 | exact X1 _ | exact (X1 _).alloc (by simp) _ | exact hb12 | exact hb11 | exact hb11.alloc hb11.size _ | exact hb10 | exact hb10.alloc hb10.size _))
                (first
                  | (refine step_app _ iSized (by rfl) _ _ 23 (by rfl) wo.heap.size 3 i0 _ 8 Try.underlying23 hi0 hz0 hz1 hz2 rfl _ ([] : List Int) (by rfl) (Own.lit (w := wo.drew) (n := 0) iSized (Nat.le_refl wo.heap.size) [] #[] rfl rfl (by omega)) _ _ r _ l (by rfl) (ht'.below (flat_lasts _) (X1 _) (Nat.le_refl _) (Nat.le_refl _)) (by simp only [maxLen, List.length_nil]; omega) (by simp only [List.length_nil]; omega) (by simp) ?_
                     intro v10 w10 ho10 hg10 hx10
                     have hb10 : Below wo.heap.size wo w10 := Own.grow (Own.lit (w := wo.drew) (n := 0) iSized (Nat.le_refl wo.heap.size) [] #[] rfl rfl (by omega)) (Nat.le_refl _) (X1 _) (by simp) hg10
                     rw [List.nil_append] at ho10
                     clear hg10 hx10)
                  | (refine step_app _ iSized (by rfl) _ _ 23 (by rfl) wo.heap.size 3 i0 _ 8 Try.underlying23 hi0 hz0 hz1 hz2 rfl _ ([] : List Int) (by rfl) (Own.alloc (Own.lit (w := wo.drew) (n := 0) iSized (Nat.le_refl wo.heap.size) [] #[] rfl rfl (by omega)) _) _ _ r _ l (by rfl) (ht'.below (flat_lasts _) ((X1 _).alloc (by simp) _) (Nat.le_refl _) (Nat.le_refl _)) (by simp only [maxLen, List.length_nil]; omega) (by simp only [List.length_nil]; omega) (by simp; omega) ?_
                     intro v10 w10 ho10 hg10 hx10
                     have hb10 : Below wo.heap.size wo w10 := Own.grow (Own.alloc (Own.lit (w := wo.drew) (n := 0) iSized (Nat.le_refl wo.heap.size) [] #[] rfl rfl (by omega)) _) (Nat.le_refl _) ((X1 _).alloc (by simp) _) (by simp; omega) hg10
                     have r101 : RdI w10 w10.heap.size (some ⟨wo.heap.size + 1, 0, none⟩) 1 1 [(j : Int)] := (Rd.litG iSized (w := wo.drew.alloc (.cells #[] 3)) 3 [(j : Int)] #[.int .i64 j] 1 (wo.heap.size + 1) (by simp) rfl rfl (by omega)).keptS (grown_kept hg10) (Nat.le_refl _) hg10.size (fun _ b off e he => by
                       injection e with e; injection e with e; subst e
                       simp [Value.ownBlock] at he)
                     rw [List.nil_append] at ho10
                     clear hg10 hx10)
                  | (refine step_app _ iSized (by rfl) _ _ 23 (by rfl) wo.heap.size 3 i0 _ 8 Try.underlying23 hi0 hz0 hz1 hz2 rfl _ ([] : List Int) (by rfl) (Own.litB (w := wo.drew.alloc (.cells #[.int .i64 j] 3)) (H := wo.heap.size + 1) (by simp) (by simp)) _ _ r _ l (by rfl) (ht'.below (flat_lasts _) ((X1 _).alloc (by simp) _) (Nat.le_refl _) (Nat.le_refl _)) (by simp only [maxLen, List.length_nil]; omega) (by simp only [List.length_nil]; omega) (by simp; omega) ?_
                     intro v10 w10 ho10 hg10 hx10
                     have hb10 : Below wo.heap.size wo w10 := Own.grow (Own.litB (w := wo.drew.alloc (.cells #[.int .i64 j] 3)) (H := wo.heap.size + 1) (base := wo.heap.size) (by simp) (by simp)) (Nat.le_refl _) ((X1 _).alloc (by simp) _) (by simp; omega) hg10
                     have r101 : RdI w10 w10.heap.size (some ⟨wo.heap.size, 0, none⟩) 1 1 [(j : Int)] := (Rd.keep (flat_lasts _) (Rd.litG iSized (w := wo.drew) 3 [(j : Int)] #[.int .i64 j] 1 wo.heap.size rfl rfl rfl (by omega)) (Nat.le_refl _) (fun q hq => World.cell?_alloc_lt _ _ _ hq)).keptS (grown_kept hg10) (by simp) (by have := hg10.size; simp at this ⊢; omega) (fun _ b off e he => by
                       injection e with e; injection e with e; subst e
                       simp [Value.ownBlock] at he)
                     rw [List.nil_append] at ho10
                     clear hg10 hx10)
                  | (refine step_app _ iSized (by rfl) _ _ 23 (by rfl) wo.heap.size 3 i0 _ 8 Try.underlying23 hi0 hz0 hz1 hz2 rfl _ l (by rfl) (Own.alloc ho10 _) _ _ 1 _ [(j : Int)] (by rfl) (Rd.litG iSized (w := w10) 3 [(j : Int)] #[.int .i64 j] 1 w10.heap.size rfl rfl rfl (by omega)) (by rw [hll]; simp only [maxLen]; omega) (by rw [hll]; omega) (by have := hb10.size; simp; omega) ?_
                     intro v11 w11 ho11 hg11 hx11
                     have hb11 : Below wo.heap.size wo w11 := Own.grow (Own.alloc ho10 _) (Nat.le_refl _) (hb10.alloc hb10.size _) (by have := hb10.size; simp; omega) hg11
                     obtain ⟨A11, c11, hv11, r11⟩ := ho11.rd iSized (by rw [hll2]; omega)
                     rw [hll2] at hv11 r11
                     subst hv11
                     clear hg11 hx11 hb10 ho10 ho11)
                  | (refine step_app _ iSized (by rfl) _ _ 23 (by rfl) wo.heap.size 3 i0 _ 8 Try.underlying23 hi0 hz0 hz1 hz2 rfl _ l (by rfl) ho10 _ _ 1 _ [(j : Int)] (by rfl) r101 (by rw [hll]; simp only [maxLen]; omega) (by rw [hll]; omega) hb10.size ?_
                     intro v11 w11 ho11 hg11 hx11
                     have hb11 : Below wo.heap.size wo w11 := Own.grow ho10 (Nat.le_refl _) hb10 hb10.size hg11
                     obtain ⟨A11, c11, hv11, r11⟩ := ho11.rd iSized (by rw [hll2]; omega)
                     rw [hll2] at hv11 r11
                     subst hv11
                     clear hg11 hx11 hb10 ho10 ho11 r101)
                  | (go_at_call 38; refine (HC.out _ _ _ (by assumption) (by assumption)).mono ?_; rintro e w12 ⟨bv2, ls2, rfl, hB2, hb12⟩))
              all_goals
                have hbel2 := hbel.trans (hb12.mono hbel.size)
                go_wp2
                go_roundg (N - (j + 1))
                case rel => exact ⟨j + 1, ls2, by omega, rfl, by go_num, rfl, hB2, hbel2⟩
                case measure => omega
            · have Hn := Lib.hid (hbv.congr (fun F => snJ_used hkm2 (huse.1 rfl)))
              clear huse hbv
              go_wp2
              go_roundg (N - (j + 1))
              case rel => exact ⟨j + 1, ls, by omega, rfl, by go_num, rfl, Hn.out, hbel⟩
              case measure => omega
      · have ee : j = N := by omega
        subst ee
        have Hf := Lib.hid (Hfin.out _ _ _ hbv hbel)
        clear hbv
        go_wp2
        exact Hf.out
end Go.Proofs.Ytmcamadcoglodaa
