/- Walk over the statement BallotLies. Conditions stand in the theorem. -/
import Derived.Test.YtfidjhhpcjmioaaBq
namespace Go.Proofs.Ytfidjhhpcjmioaa
open Go.RowKit Alg
set_option linter.unusedVariables false

set_option maxRecDepth 100000 in
set_option maxHeartbeats 4000000 in
theorem ballotLies_walk (A : Option Addr) (n cap : Nat) (l : List Vt) (t k at' by' : Int) (w : World)
    (rl : RdV w w.heap.size A n cap l) (hvl : ∀ x ∈ l, I64 x.1 ∧ I64 x.2.2) (h1 : 0 ≤ t ∧ t ≤ 255) (h2 : 0 ≤ k ∧ k ≤ 255) (h4 : 0 ≤ at' ∧ at' ≤ 255) (h5 : -9223372036854775808 ≤ by' ∧ by' ≤ 9223372036854775807) :
    Calls Try.prog 9 #[.slice A n cap, .int .u8 t, .int .u8 k, .int .u8 at', .int .i64 by'] w fun e w' => e = .returned (.bool true) ∧ Below w.heap.size w w' := by
  obtain ⟨i0, hi0, hz0, hz1, hz2⟩ := info_parts share_info
  have hcaps := rl.caps
  by_cases h20 : 20 < n
  · have hd : decide ((20 : Int) < (n : Int)) = true := by simp; omega
    go_enter Try.func9, Try.ntmps9
    go_wp2_with (go_at_call 23; refine (bsmall_any _).mono ?_; rintro e w1 ⟨rfl, hb1⟩)
    go_ret
    exact ⟨rfl, hb1⟩
  have hd20 : decide ((20 : Int) < (n : Int)) = false := by simp; omega
  have Hdiff := Lib.hid (fun w => different_any A n cap l w)
  cases hdf : diffN l n
  · have Hdf := Lib.hid hdf; clear hdf
    go_enter Try.func9, Try.ntmps9
    go_wp2_with (first
      | (go_at_call 23; refine (bsmall_any _).mono ?_; rintro e w1 ⟨rfl, hb1⟩)
      | (go_at_call 34; refine (Hdiff.out _ (rl.up (flat_lasts _) hb1)).mono ?_; rw [Hdf.out]; rintro e w2 ⟨rfl, hb2⟩))
    go_ret
    exact ⟨rfl, hb1.trans (hb2.mono hb1.size)⟩
  have Hdf := Lib.hid hdf
  obtain ⟨hmem, hdis⟩ := diffN_facts hdf
  obtain ⟨T, hT⟩ : ∃ T : Nat, (T : Int) = 1 + t % 20 := ⟨(1 + t % 20).toNat, by omega⟩
  have hr1 := Int.emod_nonneg k (show 1 + t % 20 ≠ 0 by omega)
  have hr2 := Int.emod_lt_of_pos k (show 0 < 1 + t % 20 by omega)
  obtain ⟨K, hK⟩ : ∃ K : Nat, (K : Int) = 1 + k % (1 + t % 20) := ⟨(1 + k % (1 + t % 20)).toNat, by omega⟩
  have hT1 : 1 ≤ T := by omega
  have hT2 : T ≤ 20 := by omega
  have hK1 : 1 ≤ K := by omega
  have hK2 : K ≤ T := by omega
  have hscene := fun w => scene_any t k w h1 h2
  rw [← hT] at hscene hK
  rw [← hK] at hscene
  have hcards := fun w rl => cards_at A n cap l T K w rl hmem (fun x hx => (hvl x hx).2) hK1 hK2 hT2 (by omega) (cardsL T K (vAt l) n) rfl
  have hchk := cards_check (t := T) (k := K) (n := n) (V := vAt l) hT1 hT2 (by omega) hmem hdis
  have Hsum := Lib.hid (fun A2 c2 w r2 => bsum_at A2 n c2 (cardsL T K (vAt l) n) T w r2 hchk _ (sumsL_eq T K (vAt l) n) (by omega))
  have Hscene := Lib.hid hscene; have Hcards := Lib.hid hcards
  obtain ⟨r, hr⟩ : ∃ r, by'.tmod 2147483647 = r := ⟨_, rfl⟩
  have hrb : -2147483647 < r ∧ r < 2147483647 := by
    rw [← hr]; exact ⟨Int.lt_tmod_of_pos by' (by omega), Int.tmod_lt_of_pos by' (by omega)⟩
  obtain ⟨hrb1, hrb2⟩ := hrb
  have hMM : ((T : Int) != (T : Int)) = false := by simp
  obtain ⟨I, hI⟩ : ∃ I : Nat, at' % (T : Int) = (I : Int) := ⟨(at' % (T : Int)).toNat, by have := Int.emod_nonneg at' (show (T : Int) ≠ 0 by omega); omega⟩
  have hIM : I < T := by have := Int.emod_lt_of_pos at' (show (0 : Int) < T by omega); omega
  have htm : at'.tmod (T : Int) = (I : Int) := by rw [Int.tmod_eq_emod_of_nonneg h4.1]; exact hI
  obtain ⟨at1, at2⟩ := h4
  clear hscene hcards hchk hmem hdis hdf hT hK hr1 hr2 h1 h2 h5 hvl
  go_enter Try.func9, Try.ntmps9
  go_wp2_with (first
      | (go_at_call 23; refine (bsmall_any _).mono ?_; rintro e w1 ⟨rfl, hb1⟩)
      | (go_at_call 34; refine (Hdiff.out _ (rl.up (flat_lasts _) hb1)).mono ?_; rw [Hdf.out]; rintro e w2 ⟨rfl, hb2⟩))
  have hb02 := hb1.trans (hb2.mono hb1.size)
  refine (Hscene.out _).mono ?_
  rintro e w3 ⟨rfl, hb3⟩
  have hb03 := hb02.trans (hb3.mono hb02.size)
  go_wp2_with fail
  refine (Hcards.out _ (rl.up (flat_lasts _) hb03)).mono ?_
  rintro e w4 ⟨A4, c4, rfl, r4, hb4⟩
  have hb04 := hb03.trans (hb4.mono hb03.size)
  go_wp2_with fail
  refine (Hsum.out _ _ _ r4).mono ?_
  rintro e w5 ⟨A5, c5, rfl, r5, hb5⟩
  have hb05 := hb04.trans (hb5.mono hb04.size)
  clear hb1 hb2 hb3 hb4 hb5 hb02 hb03 hb04 r4
  by_cases hKT : K = T
  · subst hKT
    go_wp2_with fail
    go_ret
    exact ⟨rfl, hb05⟩
  have hKTd : ((K : Int) == (T : Int)) = false := by simp; omega
  have hlt : K < T := by omega
  have hall := allS_open (V := vAt l) (n := n) hK1 hK2 hT2 (by omega) (Int.le_refl _)
  have hbent := fun D hD => bentS_open (V := vAt l) (n := n) (d := D) hK1 hlt hT2 (by omega) hIM hD
  have hrest := fun y => restS_open (V := vAt l) (n := n) (y := y) hK1 hlt hT2 (by omega) hIM
  have hyy := sumsL_bd T K (vAt l) n hIM
  have hLl := sumsL_len T K (vAt l) n
  generalize sumsL T K (vAt l) n = L at *
  generalize yesN (vAt l) n = Y at *
  obtain ⟨y1, y2⟩ := hyy
  have Hall := Lib.hid hall; have Hbent := Lib.hid hbent; have Hrest := Lib.hid hrest
  have hYY : (Y == Y) = true := by simp
  have hcaps5 := r5.caps
  clear hall hbent hrest
  go_wp2_with fail
  refine (open_any A5 T c5 L K n w5 r5).mono ?_
  rw [Hall.out]
  rintro e w3 ⟨rfl, hbo⟩
  have hb03 := hb05.trans (hbo.mono hb05.size)
  have r3 := r5.up (flat_lasts _) hbo
  clear r5 hbo hb05 hKTd
  have hDD : ∃ D, inF D = true ∧ ((r < 0 ∧ r + 2147483647 = D) ∨ (¬ r < 0 ∧ D = r)) := by
    by_cases hr0 : r < 0
    · exact ⟨r + 2147483647, inF_ph (by omega) (by omega), Or.inl ⟨hr0, rfl⟩⟩
    · exact ⟨r, inF_ph (by omega) (by omega), Or.inr ⟨hr0, rfl⟩⟩
  obtain ⟨D, hDF, hDc⟩ := hDD
  obtain ⟨f1, e1, hj1, p1, p2⟩ := Hbent.out D hDF
  have Hj1 := Lib.hid hj1; have Hp := Lib.hid (And.intro p1 p2)
  have hdb : 0 ≤ D ∧ D < 2147483647 := by simpa [inF] using hDF
  obtain ⟨d1, d2⟩ := hdb
  obtain ⟨b3, off3, rfl, hbB, -⟩ := r3.2.2.2 (by omega)
  clear hj1 p1 p2 hDF Hbent
  rcases hDc with ⟨hr0, hrD⟩ | ⟨hr0, rfl⟩
  all_goals
    go_wp2_with (at_builtin; refine wpList_app _ pSized rfl _ _ 22 rfl w3.heap.size 39 i0 _ 16 Try.underlying22 hi0 hz0 hz1 hz2 rfl _ ([] : List (Int × Int)) rfl (Own.lit (n := 0) pSized (Nat.le_refl _) [] #[] rfl rfl (by omega)) _ _ T c5 L rfl (r3.below (flat_lasts _) ((Below.refl w3.heap.size w3).alloc (Nat.le_refl _) _) (Nat.le_refl _) (Nat.le_refl _)) (by simp only [maxLen, List.length_nil]; omega) (by simp only [List.length_nil]; omega) (by simp) ?_
                 intro v4 w4 ho4 hg4 hx4
                 have hb4 : Below w3.heap.size w3 w4 := Own.grow (Own.lit (n := 0) pSized (Nat.le_refl _) [] #[] rfl rfl (by omega)) (Nat.le_refl _) ((Below.refl w3.heap.size w3).alloc (Nat.le_refl _) _) (by simp) hg4
                 rw [List.nil_append] at ho4
                 obtain ⟨g4, c4, rfl, hg1, hg2, hg3, hg5, hfz, -⟩ := ho4.form (by omega)
                 rw [hLl] at hg3 ⊢
                 rw [hLl, ofF_self hLl] at ho4
                 have hcl := (Own.cellP ho4 hIM).2.1
                 have hfr := (Own.cellP ho4 hIM).2.2.2
                 simp only at hcl
                 have hw6 : IntKind.i64.wrap (fy L I + D) = fy L I + D := IntWalk.i64_in _ (by omega)
                 have ho5 := Own.setY ho4 hIM ((fy L I + D) % 2147483647)
                 simp only [bent_ofF hLl] at ho5
                 have hi0' : (0 : Int) ≤ (I : Int) := by omega
                 have hi1' : (I : Int) < (T : Int) := by omega
                 clear hg4 hx4)
    have hb5 : Below w3.heap.size w3 (w4.setCell ⟨g4, I * 2 + 1, none⟩ (.int .i64 ((fy L I + D) % 2147483647))) := hb4.setCell hg1 _
    obtain ⟨A5', c5', he5, r5⟩ := ho5.rd pSized (by rw [bentL_len, hLl]; omega)
    rw [bentL_len, hLl] at he5 r5
    injection he5 with e1' e2' e3'
    subst e1' e3'
    generalize w4.setCell ⟨g4, I * 2 + 1, none⟩ (.int .i64 ((fy L I + D) % 2147483647)) = w5' at *
    clear hcl hfr hfz ho4 ho5 hb4
    refine (open_any _ T _ _ K n w5' r5).mono ?_
    rw [Hj1.out]
    rintro e w6 ⟨rfl, hb6⟩
    have hb36 := hb5.trans (hb6.mono hb5.size)
    have hb06 := hb03.trans (hb36.mono hb03.size)
    have r6 := r5.up (flat_lasts _) hb6
    have Hr := Lib.hid (Hrest.out ((fy L I + D) % 2147483647))
    have hBl : (bentL L I ((fy L I + D) % 2147483647)).length = T := by rw [bentL_len, hLl]
    generalize bentL L I ((fy L I + D) % 2147483647) = Q at *
    have r6t := r6.take (k := I) (by omega)
    have hw7 : IntKind.i64.wrap ((I : Int) + 1) = (I : Int) + 1 := IntWalk.i64_in _ (by omega)
    have htn : ((I : Int) + 1).toNat = I + 1 := by omega
    clear r5 hb5 hb6 hb36 r3 hb03
    have hi2' : (I : Int) + 1 ≤ (T : Int) := by omega
    have hi3' : (I : Int) ≤ (c4 : Int) := by omega
    have hMI : T - (I + 1) ≤ 20 := by omega
    have hrl : (Q.take I).length = I := by rw [List.length_take, hBl]; omega
    have hRl : (restL Q I).length = T - 1 := by rw [restL_len (by omega), hBl]
    have hrl2 : (Q.drop (I + 1)).length = T - (I + 1) := by rw [List.length_drop, hBl]
    have hsp : c4 = I + 1 ∨ ¬ c4 = I + 1 := by omega
    have hi4' : (0 : Int) ≤ (I : Int) + 1 := by omega
    have r6d : ∀ A' m c, m = T - (I + 1) → m ≤ c → c ≤ c4 → (I + 1 < T → A' = some ⟨g4, (I + 1) * 2, none⟩) → Rd 2 (flat pEnc) w6 w6.heap.size A' m c (Q.drop (I + 1)) := fun A' m c h0 h1 h2 h3 => r6.drop (k := I + 1) (by omega) h0 ⟨h1, h2⟩ fun hlt => (h3 hlt).trans (by rw [addr_map, Nat.zero_add])
    have hi5' : (I : Int) ≤ (I : Int) + 1 := by omega
    clear hLl hBl hrl2
    rcases hsp with rfl | hcI
    all_goals
      go_wp2
      go_region_held3 (fun w' => Below w6.heap.size w6 w')
        (first | exact (Below.refl _ _).drew | exact (Below.refl w6.heap.size w6).drew.alloc (Nat.le_refl w6.heap.size) _ | assumption | go_keep)
        (first
          | (refine step_app _ pSized (by rfl) _ _ 22 (by rfl) w6.heap.size 39 i0 _ 16 Try.underlying22 hi0 hz0 hz1 hz2 rfl _ ([] : List (Int × Int)) (by rfl) (Own.lit (w := w6.drew) (n := 0) pSized (Nat.le_refl w6.heap.size) [] #[] rfl rfl (by omega)) _ _ I _ (Q.take I) (by rfl) (r6t.below (flat_lasts _) ((Below.refl w6.heap.size w6).drew.alloc (Nat.le_refl w6.heap.size) _) (Nat.le_refl _) (Nat.le_refl _)) (by simp only [maxLen, List.length_nil]; omega) (by simp only [List.length_nil]; omega) (by simp) ?_
             intro v7 w7 ho7 hg7 hx7
             have hb7 : Below w6.heap.size w6 w7 := Own.grow (Own.lit (w := w6.drew) (n := 0) pSized (Nat.le_refl w6.heap.size) [] #[] rfl rfl (by omega)) (Nat.le_refl _) ((Below.refl w6.heap.size w6).drew.alloc (Nat.le_refl w6.heap.size) _) (by simp) hg7
             rw [List.nil_append] at ho7
             clear hg7 hx7)
          | (refine step_app _ pSized (by rfl) _ _ 22 (by rfl) w6.heap.size 39 i0 _ 16 Try.underlying22 hi0 hz0 hz1 hz2 rfl _ (Q.take I) (by rfl) ho7 _ _ _ _ (Q.drop (I + 1)) (by rfl) ((r6d _ _ _ (by omega) (by omega) (by omega) (fun hlt => by first | rfl | omega)).below (flat_lasts _) hb7 (Nat.le_refl _) (Nat.le_refl _)) (by rw [hrl]; simp only [maxLen]; omega) (by rw [hrl]; omega) hb7.size ?_
             intro v8 w8 ho8 hg8 hx8
             have hb8 : Below w6.heap.size w6 w8 := Own.grow ho7 (Nat.le_refl _) hb7 hb7.size hg8
             have ho8' : Own 2 pEnc w8 w6.heap.size 39 v8 (restL Q I) := ho8
             obtain ⟨A8, c8, hv8, r8⟩ := ho8'.rd pSized (by rw [hRl]; omega)
             rw [hRl] at hv8 r8
             subst hv8
             clear hg8 hx8 hb7 ho7 ho8 ho8')
          | (go_at_call 29
             refine (open_any A8 (T - 1) c8 (restL Q I) K n w8 r8).mono ?_
             rw [Hr.out]
             rintro e w9 ⟨rfl, hb9⟩
             have hb10 := hb8.trans (hb9.mono hb8.size)
             clear hb8))
      have hbE := hb06.trans (hb10.mono hb06.size)
      obtain ⟨p1, p2⟩ := Hp.out
      by_cases hD0 : D = 0
      · have q1 := p1 hD0
        clear p1 p2
        have q2 : (D == 0) = true := by simp [hD0]
        have q3 : (D != 0) = false := by simp [hD0]
        subst q1
        go_wp2_with fail
        go_ret
        exact ⟨by simp, hbE⟩
      · have q1 := p2 hD0
        clear p1 p2
        have q2 : (D == 0) = false := by simpa using hD0
        have q3 : (D != 0) = true := by simpa using hD0
        subst q1
        go_wp2_with fail
        go_ret
        exact ⟨by simp, hbE⟩
end Go.Proofs.Ytfidjhhpcjmioaa
