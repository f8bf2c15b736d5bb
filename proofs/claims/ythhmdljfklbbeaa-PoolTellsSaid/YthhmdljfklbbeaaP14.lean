/- Walk over the examples of the statements of layer 36. No condition. -/
import Derived.Test.YthhmdljfklbbeaaP13
namespace Go.Proofs.Ythhmdljfklbbeaa
open Go.RowKit
set_option linter.unusedVariables false

theorem Rd.litG {α : Type} {sz : Nat} {enc : α → List Value} (hs : Sized sz enc) {w : World} (e : TypeId) (l : List α) (cs : Array Value) (n H : Nat) (hH : w.heap.size = H) (hcs : cs = (l.flatMap enc).toArray) (hn : l.length = n) (hm : n ≤ 140737488351232) : Rd sz (flat enc) (w.alloc (.cells cs e)) (w.alloc (.cells cs e)).heap.size (some ⟨H, 0, none⟩) n n l := by
  subst hH
  obtain ⟨A, c, h1, h2⟩ := (Own.lit (e := e) hs (Nat.le_refl w.heap.size) l cs hcs hn hm).rd hs (by rw [hn]; exact hm)
  injection h1 with h1 h3 h4
  subst h1 h4
  rw [hn] at h2
  exact h2
theorem rdII_of {w : World} {A : Option Addr} {n cap : Nat} {raw : List Iw} {l : List (List Int)} (hr : Rd 1 (flat qEnc) w w.heap.size A n cap raw) (hl : l.length = raw.length)
    (h : ∀ k (h1 : k < raw.length) (h2 : k < l.length), RdI w w.heap.size raw[k].1 raw[k].2.1 raw[k].2.2 l[k]) : RdII w w.heap.size A n cap l := by
  refine ⟨hl.trans hr.1, hr.2.1, hr.2.2.1, fun hn => ?_⟩
  obtain ⟨b, off, rfl, hb, hc⟩ := hr.2.2.2 hn
  refine ⟨b, off, rfl, hb, fun k hk => ?_⟩
  obtain ⟨cs, hr', hl', hj⟩ := hc k (by omega)
  exact ⟨cs, ⟨_, _, _, hr', h k (by omega) hk⟩, hl', hj⟩
def somP (pr : Int) : Pl := ⟨100, pr, 30, 2, 3, 90⟩
theorem some_any (pr : Int) (w : World) : Calls Try.prog 24 #[.int .i64 pr] w fun e w' => e = .returned (plV (somP pr)) ∧ Below w.heap.size w w' := by
  simp only [plV, plC, somP]
  go_enter Try.func24, Try.ntmps24
  go_wp2
  go_returns
  exact ⟨rfl, (Below.refl _ _).alloc (Nat.le_refl _) _⟩
theorem small_facts : (∀ k, k < 5 → argF (somP 30) (k : Nat) = true ∧ ([0, 60, 90, 90, 150] : List Int)[k]? = some (worstF (somP 30) k)) ∧ (solvB (somP 30) 8 = true ∧ solvL (somP 30) 8 = [] ∧ solvE (somP 30) 8 = 0) ∧ (solvB (somP 10) 8 = false ∧ solvL (somP 10) 8 = [[30, 30], [30], [], [30, 30]] ∧ solvE (somP 10) 8 = 0) ∧
    runE (somP 30) [[31]] = 30 ∧ (runL (somP 10) [[30, 30], [30], [], [30, 30]] = [50, 30, 40, -10] ∧ runE (somP 10) [[30, 30], [30], [], [30, 30]] = 0) ∧ admF (somP 10) [[30, 30], [30], [], [30, 30]] = true ∧ rightF (somP 10) = true := by
  refine ⟨fun k hk => ?_, by decide +kernel, by decide +kernel, by decide +kernel, by decide +kernel, by decide +kernel, by decide +kernel⟩
  match k, hk with
  | 0, _ => decide +kernel
  | 1, _ => decide +kernel
  | 2, _ => decide +kernel
  | 3, _ => decide +kernel
  | 4, _ => decide +kernel

set_option maxRecDepth 100000 in
set_option maxHeartbeats 4000000 in
theorem small_any (w : World) : Calls Try.prog 8 #[] w fun e w' => e = .returned (.bool true) ∧ Below w.heap.size w w' := by
  obtain ⟨h1, ⟨h2, h3, h4⟩, ⟨h5, h6, h7⟩, h8, ⟨h9, h10⟩, h11, h12⟩ := small_facts
  have Hsome := Lib.hid (fun pr w => some_any pr w)
  have hworst : ∀ (k : Nat) w, k < 5 → Calls Try.prog 10 #[plV (somP 30), .int .i64 k] w fun e w' => e = .returned (.tuple #[.int .i64 (worstF (somP 30) k), .int .i64 0]) ∧ Below w.heap.size w w' := fun k w hk => by
    have h := worst_any (somP 30) (k : Int) w (by omega)
    rw [(h1 k hk).1, Int.toNat_natCast] at h
    exact h
  have hs1 := fun w => solvent_any (somP 30) 8 w (by omega)
  rw [h2, h3, h4] at hs1
  have hs2 := fun w => solvent_any (somP 10) 8 w (by omega)
  rw [h5, h6, h7] at hs2
  have hr1 := fun A w hl => run_any (somP 30) A 1 1 [[31]] w hl
  rw [h8] at hr1
  have hr2 := fun A m cap w hl => run_any (somP 10) A m cap [[30, 30], [30], [], [30, 30]] w hl
  rw [h9, h10] at hr2
  have had := fun A m cap w hl => admits_any (somP 10) A m cap [[30, 30], [30], [], [30, 30]] w hl
  rw [h11] at had
  have hri := fun w => right_any (somP 10) w
  rw [h12] at hri
  have H1 := Lib.hid (fun k hk => (h1 k hk).2)
  have Hworst := Lib.hid hworst; have Hs1 := Lib.hid hs1; have Hs2 := Lib.hid hs2; have Hr1 := Lib.hid hr1; have Hr2 := Lib.hid hr2; have Had := Lib.hid had; have Hri := Lib.hid hri
  clear h1 h2 h3 h4 h5 h6 h7 h8 h9 h10 h11 h12 hworst hs1 hs2 hr1 hr2 had hri
  have hwant := Rd.litI (w := w) 3 [0, 60, 90, 90, 150] #[.int .i64 0, .int .i64 60, .int .i64 90, .int .i64 90, .int .i64 150] 5 rfl rfl (by omega)
  have hb0 := (Below.refl w.heap.size w).alloc (Nat.le_refl _) (.cells #[.int .i64 0, .int .i64 60, .int .i64 90, .int .i64 90, .int .i64 150] 3)
  go_enter Try.func8, Try.ntmps8
  go_wp2
  generalize w.alloc (.cells #[.int .i64 0, .int .i64 60, .int .i64 90, .int .i64 90, .int .i64 150] 3) = w0 at *
  go_loopg [2] 5 (fun gk i wr => ∃ k : Nat, k ≤ 5 ∧ gk = 5 - k ∧ i = .int .i64 k ∧ Below w0.heap.size w0 wr)
  case atStart => exact ⟨0, by omega, rfl, rfl, Below.refl _ _⟩
  case round =>
    obtain ⟨k, hk, rfl, rfl, hb⟩ := hrel
    have hb0r := hb0.trans (hb.mono hb0.size)
    by_cases hlt : k < 5
    · obtain ⟨b, off, x, hA, hbB, hx, c0⟩ := (hwant.up (flat_lasts _) hb).atI hlt
      simp only [Option.some.injEq, Addr.mk.injEq] at hA
      obtain ⟨rfl, rfl, -⟩ := hA
      rw [Nat.zero_add] at c0
      have hxe : x = worstF (somP 30) k := by
        have := H1.out k hlt
        rw [hx] at this
        exact Option.some.inj this
      subst hxe
      clear hx
      have hki : (k : Int) < 5 := by omega
      have hk0 : (0 : Int) ≤ (k : Int) := by omega
      have hd5 : decide ((k : Int) < 5) = true := by simpa using hki
      have hwo := fun w => Hworst.out k w hlt
      have Hwo := Lib.hid hwo
      clear hwo
      generalize worstF (somP 30) k = X at *
      have hXX : (X != X) = false := by simp
      go_wp2_with fail
      refine (Hsome.out 30 _).mono ?_
      rintro e w1 ⟨rfl, hb1⟩
      go_wp2_with fail
      refine (Hwo.out _).mono ?_
      rintro e w2 ⟨rfl, hb2⟩
      have hb12 := hb1.trans (hb2.mono hb1.size)
      have c0' := (hb12.cell hbB).trans c0
      go_wp2
      go_roundg (5 - (k + 1))
      case rel => exact ⟨k + 1, by omega, rfl, by go_num, hb.trans (hb12.mono hb.size)⟩
      case measure => omega
    · have e : k = 5 := by omega
      subst e
      go_wp2_with fail
      refine (Hsome.out 30 _).mono ?_
      rintro e w1 ⟨rfl, hb1⟩
      go_wp2_with fail
      refine (Hs1.out _).mono ?_
      rintro e w2 ⟨A2, m2, c2, rfl, r2, hb2⟩
      have hb12 := hb1.trans (hb2.mono hb1.size)
      have hm2 : m2 = 0 := r2.len.symm
      subst hm2
      go_wp2_with fail
      refine (Hsome.out 10 _).mono ?_
      rintro e w3 ⟨rfl, hb3⟩
      have hb13 := hb12.trans (hb3.mono hb12.size)
      go_wp2_with fail
      refine (Hs2.out _).mono ?_
      rintro e w4 ⟨A4, m4, c4, rfl, r4, hb4⟩
      have hb14 := hb13.trans (hb4.mono hb13.size)
      have hm4 : m4 = 4 := r4.len.symm
      subst hm4
      go_wp2_with fail
      refine (Hsome.out 30 _).mono ?_
      rintro e w5 ⟨rfl, hb5⟩
      have hb15 := hb14.trans (hb5.mono hb14.size)
      clear hb1 hb2 hb3 hb4 hb12 hb13 r2
      go_wp2_with fail
      have q1 := Rd.litG iSized (w := w5) 3 [31] #[.int .i64 31] 1 w5.heap.size rfl rfl rfl (by omega)
      have q2 := rdII_of (l := [[31]]) (Rd.litG qSized (w := w5.alloc (.cells #[.int .i64 31] 3)) 32 [(some ⟨w5.heap.size, 0, none⟩, 1, 1)] #[.slice (some ⟨w5.heap.size, 0, none⟩) 1 1] 1 (w5.heap.size + 1) (by simp) rfl rfl (by omega)) rfl (fun k h1 h2 => by
        match k, h1, h2 with
        | 0, _, _ => exact q1.up (flat_lasts _) ((Below.refl _ _).alloc (Nat.le_refl _) _)
        | k + 1, h1, _ => exact absurd h1 (by simp))
      refine (Hr1.out _ _ q2).mono ?_
      rintro e w6 ⟨v6, rfl, ho6, hb6⟩
      have hb56 : Below w5.heap.size w5 w6 := (((Below.refl w5.heap.size w5).alloc (Nat.le_refl _) _).alloc (by simp) _).trans (hb6.mono (by simp <;> omega))
      have hb16 := hb15.trans (hb56.mono hb15.size)
      clear q1 q2 hb6
      go_wp2_with fail
      refine (Hsome.out 10 _).mono ?_
      rintro e w7 ⟨rfl, hb7⟩
      have hb17 := hb16.trans (hb7.mono hb16.size)
      have hb47 := (hb5.trans (hb56.mono hb5.size)).trans (hb7.mono (hb5.trans (hb56.mono hb5.size)).size)
      have r47 := r4.up ii_lasts hb47
      go_wp2_with fail
      refine (Hr2.out A4 4 c4 w7 r47).mono ?_
      rintro e w8 ⟨v8, rfl, ho8, hb8⟩
      obtain ⟨A8, c8, rfl, r8⟩ := ho8.rd iSized (by decide)
      have hlen8 : ([50, 30, 40, -10] : List Int).length = 4 := rfl
      rw [hlen8] at r8 ⊢
      clear hlen8 ho8
      have hb18 := hb17.trans (hb8.mono hb17.size)
      have r48 := r47.up ii_lasts hb8
      clear hb5 hb56 hb7 hb47 hb16 hb17 hb15 hb14 r4 r47 hb8
      go_wp2_with fail
      have x1 := Rd.litG iSized (w := w8) 3 [30, 30] #[.int .i64 30, .int .i64 30] 2 w8.heap.size rfl rfl rfl (by omega)
      have x2 := Rd.litG iSized (w := w8.alloc (.cells #[.int .i64 30, .int .i64 30] 3)) 3 [30] #[.int .i64 30] 1 (w8.heap.size + 1) (by simp) rfl rfl (by omega)
      have x3 := Rd.litG iSized (w := (w8.alloc (.cells #[.int .i64 30, .int .i64 30] 3)).alloc (.cells #[.int .i64 30] 3)) 3 [30, 30] #[.int .i64 30, .int .i64 30] 2 (w8.heap.size + 2) (by simp) rfl rfl (by omega)
      have x4 := rdII_of (l := [[30, 30], [30], [], [30, 30]]) (Rd.litG qSized (w := ((w8.alloc (.cells #[.int .i64 30, .int .i64 30] 3)).alloc (.cells #[.int .i64 30] 3)).alloc (.cells #[.int .i64 30, .int .i64 30] 3)) 32 [(some ⟨w8.heap.size, 0, none⟩, 2, 2), (some ⟨w8.heap.size + 1, 0, none⟩, 1, 1), (none, 0, 0), (some ⟨w8.heap.size + 2, 0, none⟩, 2, 2)] #[.slice (some ⟨w8.heap.size, 0, none⟩) 2 2, .slice (some ⟨w8.heap.size + 1, 0, none⟩) 1 1, .slice none 0 0, .slice (some ⟨w8.heap.size + 2, 0, none⟩) 2 2] 4 (w8.heap.size + 3) (by simp) rfl rfl (by omega)) rfl (fun k h1 h2 => by
        match k, h1, h2 with
        | 0, _, _ => exact x1.up (flat_lasts _) ((((Below.refl _ _).alloc (Nat.le_refl _) _).alloc (by simp) _).alloc (by simp <;> omega) _)
        | 1, _, _ => exact x2.up (flat_lasts _) (((Below.refl _ _).alloc (Nat.le_refl _) _).alloc (by simp) _)
        | 2, _, _ => exact Rd.nil
        | 3, _, _ => exact x3.up (flat_lasts _) ((Below.refl _ _).alloc (Nat.le_refl _) _)
        | k + 4, h1, _ => exact absurd h1 (by simp))
      have hb89 : Below w8.heap.size w8 ((((w8.alloc (.cells #[.int .i64 30, .int .i64 30] 3)).alloc (.cells #[.int .i64 30] 3)).alloc (.cells #[.int .i64 30, .int .i64 30] 3)).alloc (.cells #[.slice (some ⟨w8.heap.size, 0, none⟩) 2 2, .slice (some ⟨w8.heap.size + 1, 0, none⟩) 1 1, .slice none 0 0, .slice (some ⟨w8.heap.size + 2, 0, none⟩) 2 2] 32)) := ((((Below.refl w8.heap.size w8).alloc (Nat.le_refl _) _).alloc (by simp) _).alloc (by simp <;> omega) _).alloc (by simp <;> omega) _
      refine (sameII_any A4 _ 4 4 c4 4 _ _ _ (r48.up ii_lasts hb89) x4).mono ?_
      rw [decide_eq_true rfl]
      rintro e w9 ⟨rfl, q9, hq9⟩
      have hb9 : Below w8.heap.size w8 w9 := by rw [hq9]; exact below_drewN hb89 _
      clear x1 x2 x3 x4 hq9 hb89
      have r49 := r48.up ii_lasts hb9
      have r89 := r8.up (flat_lasts _) hb9
      have hb19 := hb18.trans (hb9.mono hb18.size)
      clear r48 r8 hb18 hb9
      go_wp2_with fail
      have y1 := Rd.litG iSized (w := w9) 3 [50, 30, 40, -10] #[.int .i64 50, .int .i64 30, .int .i64 40, .int .i64 (-10)] 4 w9.heap.size rfl rfl rfl (by omega)
      have hb9a := (Below.refl w9.heap.size w9).alloc (Nat.le_refl _) (.cells #[.int .i64 50, .int .i64 30, .int .i64 40, .int .i64 (-10)] 3)
      refine (ints_any A8 _ 4 4 c8 4 _ _ _ (r89.up (flat_lasts _) hb9a) y1).mono ?_
      rw [decide_eq_true rfl]
      rintro e w10 ⟨rfl, q10, hq10⟩
      have hb10 : Below w9.heap.size w9 w10 := by rw [hq10]; exact below_drewN hb9a _
      clear y1 hq10 hb9a
      have r410 := r49.up ii_lasts hb10
      have hb110 := hb19.trans (hb10.mono hb19.size)
      go_wp2_with fail
      refine (Hsome.out 10 _).mono ?_
      rintro e w11 ⟨rfl, hb11⟩
      have hb111 := hb110.trans (hb11.mono hb110.size)
      go_wp2_with fail
      refine (Had.out A4 4 c4 w11 (r410.up ii_lasts hb11)).mono ?_
      rintro e w12 ⟨rfl, hb12⟩
      have hb112 := hb111.trans (hb12.mono hb111.size)
      go_wp2_with fail
      refine (Hsome.out 10 _).mono ?_
      rintro e w13 ⟨rfl, hb13⟩
      have hb113 := hb112.trans (hb13.mono hb112.size)
      go_wp2_with fail
      refine (Hri.out _).mono ?_
      rintro e w14 ⟨rfl, hb14⟩
      have hb114 := hb113.trans (hb14.mono hb113.size)
      go_wp2_with fail
      go_ret
      exact ⟨rfl, hb0r.trans (hb114.mono hb0r.size)⟩
end Go.Proofs.Ythhmdljfklbbeaa
