/- Walk over the statement ShareChanges. Conditions stand in the theorem. -/
import Derived.Test.YtfidjhhpcjmioaaL5
import Derived.Test.YtfidjhhpcjmioaaShk
namespace Go.Proofs.Ytfidjhhpcjmioaa
open Go.RowKit Alg
set_option linter.unusedVariables false

theorem Rd.drop {α : Type} {sz : Nat} {R : Enc α} {w : World} {B : Nat} {A A' : Option Addr} {n cap : Nat} {l : List α} (h : Rd sz R w B A n cap l) {k m c : Nat} (hk : k ≤ n) (hm : m = n - k) (hc : m ≤ c ∧ c ≤ cap)
    (hA : k < n → A' = A.map (·.add (k * sz))) : Rd sz R w B A' m c (l.drop k) := by
  subst hm
  refine ⟨by rw [List.length_drop, h.1], hc.1, ⟨by have := h.2.2.1; omega, by have := h.2.2.1; omega⟩, fun hn => ?_⟩
  obtain ⟨b, off, rfl, hb, hcl⟩ := h.2.2.2 (by omega)
  refine ⟨b, off + k * sz, ?_, hb, fun j hj => ?_⟩
  · rw [hA (by omega)]
    simp only [Option.map_some, Addr.add]
    split
    · rename_i h0; rw [h0]; rfl
    · rfl
  · simp only [List.length_drop] at hj
    obtain ⟨cs, hr, hl, hj'⟩ := hcl (k + j) (by omega)
    refine ⟨cs, by rw [List.getElem_drop]; exact hr, hl, fun i u hu => ?_⟩
    rw [show off + k * sz + j * sz + i = off + (k + j) * sz + i by rw [Nat.add_mul]; omega]
    exact hj' i u hu
theorem addr_map (b off n : Nat) : (some (⟨b, off, none⟩ : Addr)).map (·.add n) = some ⟨b, off + n, none⟩ := by
  simp only [Option.map_some, Addr.add]
  split
  · rename_i h; rw [h]; rfl
  · rfl
theorem ofF_self {l : List (Int × Int)} {n : Nat} (h : l.length = n) : l = ofF n fun j => (fx l j, fy l j) := by
  apply List.ext_getElem?
  intro i
  by_cases hi : i < n
  · rw [ofF_get hi, List.getElem?_eq_getElem (by omega)]
    unfold fx fy
    rw [List.getD, List.getElem?_eq_getElem (by omega)]; rfl
  · rw [List.getElem?_eq_none (by omega), List.getElem?_eq_none (by rw [ofF_len]; omega)]
theorem bent_ofF {l : List (Int × Int)} {n : Nat} (h : l.length = n) (i : Nat) (y : Int) : ofF n (fun j => if j = i then (fx l i, y) else (fx l j, fy l j)) = bentL l i y := by
  subst h
  refine ofF_congr fun j _ => ?_
  by_cases e : j = i
  · rw [if_pos e, if_pos e, e]
  · rw [if_neg e, if_neg e]
/-- what the two joins return -/
theorem bent_none {a s : Int} {K M I : Nat} (hK1 : 1 ≤ K) (hK2 : K ≤ M) (hM2 : M ≤ 20) (hI : I < M) (hS : inF a = true) : joinF (bentL (splitL a K s M) I ((fy (splitL a K s M) I + 0) % 2147483647)) K = (a, 0) := by
  have h1 := splitL_ok a s K M hM2
  have h2 : bentL (splitL a K s M) I ((fy (splitL a K s M) I + 0) % 2147483647) = splitL a K s M := by
    conv => rhs; rw [ofF_self (splitL_len a K s M)]
    unfold bentL
    rw [splitL_len]
    refine ofF_congr fun j hj => ?_
    by_cases e : j = I
    · subst e
      rw [if_pos rfl]
      have h3 := splitL_at a K s M j hj
      have h4 := hor_bd (coef a s) ((j : Int) + 1) K K
      simp only [Int.toNat_natCast] at h3
      rw [h3.2, Int.add_zero, Int.emod_eq_of_lt (by omega) (by omega)]
    · rw [if_neg e]
  rw [h2]
  exact (part_join hK1 (by omega) hM2 hS (fun x hx => hx) (splitL_nodup a K s M) (by rw [splitL_len]; exact hK2)).1
theorem bent_all {a s d : Int} {K M I : Nat} (hK1 : 1 ≤ K) (hK2 : K ≤ M) (hM2 : M ≤ 20) (hI : I < M) (hS : inF a = true) (hd : inF d = true) :
    ∃ f c, joinF (bentL (splitL a K s M) I ((fy (splitL a K s M) I + d) % 2147483647)) K = (f, c) ∧ (d = 0 → f = a ∧ c = 0) ∧ (d ≠ 0 → K < M → f = 0 ∧ c = 23) ∧ (d ≠ 0 → K = M → f ≠ a ∧ c = 0) := by
  by_cases h0 : d = 0
  · subst h0
    exact ⟨a, 0, bent_none hK1 hK2 hM2 hI hS, fun _ => ⟨rfl, rfl⟩, fun h => absurd rfl h, fun h => absurd rfl h⟩
  · by_cases h1 : K < M
    · exact ⟨0, 23, bent_more hK1 h1 hM2 hI hd h0, fun h => absurd h h0, fun _ _ => ⟨rfl, rfl⟩, fun _ h => by omega⟩
    · have e : K = M := by omega
      subst e
      obtain ⟨c, hc, hne⟩ := bent_just (secret := a) (s := s) hK1 hM2 hI hd h0
      exact ⟨c, 0, hc, fun h => absurd h h0, fun _ h => absurd h h1, fun _ _ => ⟨hne, rfl⟩⟩
theorem rest_all {a s : Int} {K M I : Nat} (hK1 : 1 ≤ K) (hK2 : K ≤ M) (hM2 : M ≤ 20) (hI : I < M) (hS : inF a = true) :
    ∃ f c, joinF (restL (splitL a K s M) I) K = (f, c) ∧ (K < M → f = a ∧ c = 0) ∧ (K = M → f = 0 ∧ c = 21) := by
  have hl := restL_len (l := splitL a K s M) (i := I) (by rw [splitL_len]; exact hI)
  rw [splitL_len] at hl
  by_cases h1 : K < M
  · exact ⟨a, 0, (part_join hK1 (by omega) hM2 hS (restL_sub _ I) (restL_nodup (splitL_nodup a K s M) I) (by omega)).1, fun _ => ⟨rfl, rfl⟩, fun h => by omega⟩
  · exact ⟨0, 21, (part_few hK1 (by omega) hM2 (restL_sub _ I) (restL_nodup (splitL_nodup a K s M) I) (by omega)).1, fun h => absurd h h1, fun _ => ⟨rfl, rfl⟩⟩

set_option maxRecDepth 100000 in
set_option maxHeartbeats 1000000 in
theorem shareChanges_walk (one k n seed at' by' : Int) (w : World)
    (h0 : -9223372036854775808 ≤ one ∧ one ≤ 9223372036854775807) (h1 : 0 ≤ k ∧ k ≤ 255) (h2 : 0 ≤ n ∧ n ≤ 255) (h3 : -9223372036854775808 ≤ seed ∧ seed ≤ 9223372036854775807) (h4 : 0 ≤ at' ∧ at' ≤ 255) (h5 : -9223372036854775808 ≤ by' ∧ by' ≤ 9223372036854775807) :
    Calls Try.prog 6 #[.int .i64 one, .int .u8 k, .int .u8 n, .int .i64 seed, .int .u8 at', .int .i64 by'] w fun e w' => e = .returned (.bool true) ∧ Below w.heap.size w w' := by
  obtain ⟨i0, hi0, hz0, hz1, hz2⟩ := info_parts share_info
  have hS : inF (one % 2147483647) = true := inF_mod _
  have hO : inF (by' % 2147483647) = true := inF_mod _
  obtain ⟨a, hsec⟩ : ∃ s, s = one % 2147483647 := ⟨_, rfl⟩
  obtain ⟨d, hoth⟩ : ∃ s, s = by' % 2147483647 := ⟨_, rfl⟩
  obtain ⟨M, hM⟩ : ∃ M : Nat, (M : Int) = 1 + n % 20 := ⟨(1 + n % 20).toNat, by omega⟩
  have hr1 := Int.emod_nonneg k (show 1 + n % 20 ≠ 0 by omega)
  have hr2 := Int.emod_lt_of_pos k (show 0 < 1 + n % 20 by omega)
  obtain ⟨K, hK⟩ : ∃ K : Nat, (K : Int) = 1 + k % (1 + n % 20) := ⟨(1 + k % (1 + n % 20)).toNat, by omega⟩
  have hM1 : 1 ≤ M := by omega
  have hM2 : M ≤ 20 := by omega
  have hK1 : 1 ≤ K := by omega
  have hK2 : K ≤ M := by omega
  rw [← hsec] at hS
  rw [← hoth] at hO
  have hnum := fun w => numbers_any one k n w h0 h1 h2
  rw [← hsec, ← hK, ← hM] at hnum
  have hmod := fun w => mod_any by' w h5.1 h5.2
  rw [← hoth] at hmod
  have hdb : 0 ≤ d ∧ d < 2147483647 := by simpa [inF] using hO
  obtain ⟨d1, d2⟩ := hdb
  have Hnum := Lib.hid hnum; have Hmod := Lib.hid hmod
  have HS := Lib.hid hS; have HO := Lib.hid hO
  obtain ⟨I, hI⟩ : ∃ I : Nat, at' % (M : Int) = (I : Int) := ⟨(at' % (M : Int)).toNat, by have := Int.emod_nonneg at' (show (M : Int) ≠ 0 by omega); omega⟩
  have hIM : I < M := by have := Int.emod_lt_of_pos at' (show (0 : Int) < M by omega); omega
  have htm : at'.tmod (M : Int) = (I : Int) := by rw [Int.tmod_eq_emod_of_nonneg h4.1]; exact hI
  obtain ⟨at1, at2⟩ := h4
  clear hnum hmod hsec hoth hM hK hr1 hr2 hS hO h0 h5 h1 h2
  go_enter Try.func6, Try.ntmps6
  go_wp2_with (go_at_call 12; refine (small_any _).mono ?_; rintro e w1 ⟨rfl, hb1⟩)
  refine (Hnum.out w1).mono ?_
  rintro e w2 ⟨rfl, hb2⟩
  have hb02 := hb1.trans (hb2.mono hb1.size)
  go_wp2_with fail
  refine (Hmod.out w2).mono ?_
  rintro e _ ⟨rfl, rfl⟩
  go_wp2_with fail
  refine (split_ok a seed K M w2 HS.out hM1 hM2 hK1 hK2 h3.1 h3.2).mono ?_
  rintro e w3 ⟨v3, rfl, ho3, hb3⟩
  obtain ⟨A3, c3, rfl, r3⟩ := ho3.rd pSized (by rw [splitL_len]; omega)
  rw [splitL_len] at r3 ⊢
  clear ho3
  have hb03 := hb02.trans (hb3.mono hb02.size)
  have hMM : ((M : Int) != (M : Int)) = false := by simp
  obtain ⟨f1, c1, hj1, p1, p2, p3⟩ := bent_all (s := seed) hK1 hK2 hM2 hIM HS.out HO.out
  obtain ⟨f2, c2, hj2, q1, q2⟩ := rest_all (s := seed) hK1 hK2 hM2 hIM HS.out
  have hyy : 0 ≤ fy (splitL a K seed M) I ∧ fy (splitL a K seed M) I < 2147483647 := by
    have h3 := splitL_at a K seed M I hIM
    have h4 := hor_bd (coef a seed) ((I : Int) + 1) K K
    simp only [Int.toNat_natCast] at h3
    rw [h3.2]; exact h4
  have hLl := splitL_len a K seed M
  generalize splitL a K seed M = L at *
  have Hj1 := Lib.hid hj1; have Hj2 := Lib.hid hj2
  have Hp := Lib.hid (And.intro p1 (And.intro p2 (And.intro p3 (And.intro q1 q2))))
  obtain ⟨y1, y2⟩ := hyy
  have hcaps := r3.caps
  obtain ⟨b3, off3, rfl, hbB, -⟩ := r3.2.2.2 (by omega)
  clear hj1 hj2 p1 p2 p3 q1 q2 hb2 hb3 hb1 HS HO h3
  go_wp2_with (first
    | (go_at_call 21; refine (mod_any _ _ (by omega) (by omega)).mono ?_; rintro e w' ⟨rfl, rfl⟩)
    | (at_builtin; refine wpList_app _ pSized rfl _ _ 22 rfl w3.heap.size 39 i0 _ 16 Try.underlying22 hi0 hz0 hz1 hz2 rfl _ ([] : List (Int × Int)) rfl (Own.lit (n := 0) pSized (Nat.le_refl _) [] #[] rfl rfl (by omega)) _ _ M c3 L rfl (r3.below (flat_lasts _) ((Below.refl w3.heap.size w3).alloc (Nat.le_refl _) _) (Nat.le_refl _) (Nat.le_refl _)) (by simp only [maxLen, List.length_nil]; omega) (by simp only [List.length_nil]; omega) (by simp) ?_
       intro v4 w4 ho4 hg4 hx4
       have hb4 : Below w3.heap.size w3 w4 := Own.grow (Own.lit (n := 0) pSized (Nat.le_refl _) [] #[] rfl rfl (by omega)) (Nat.le_refl _) ((Below.refl w3.heap.size w3).alloc (Nat.le_refl _) _) (by simp) hg4
       rw [List.nil_append] at ho4
       obtain ⟨g4, c4, rfl, hg1, hg2, hg3, hg5, hfz, -⟩ := ho4.form (by omega)
       rw [hLl] at hg3 ⊢
       rw [hLl, ofF_self hLl] at ho4
       have hcl := (Own.cellP ho4 hIM).2.1
       have hfr := (Own.cellP ho4 hIM).2.2.2
       simp only at hcl
       have hw6 : IntKind.i64.wrap (fy L I + d) = fy L I + d := IntWalk.i64_in _ (by omega)
       have ho5 := Own.setY ho4 hIM ((fy L I + d) % 2147483647)
       simp only [bent_ofF hLl] at ho5
       have hi0' : (0 : Int) ≤ (I : Int) := by omega
       have hi1' : (I : Int) < (M : Int) := by omega
       clear hg4 hx4))
  have hb5 : Below w3.heap.size w3 (w4.setCell ⟨g4, I * 2 + 1, none⟩ (.int .i64 ((fy L I + d) % 2147483647))) := hb4.setCell hg1 _
  obtain ⟨A5, c5, he5, r5⟩ := ho5.rd pSized (by rw [bentL_len, hLl]; omega)
  rw [bentL_len, hLl] at he5 r5
  injection he5 with e1 e2 e3
  subst e1 e3
  generalize w4.setCell ⟨g4, I * 2 + 1, none⟩ (.int .i64 ((fy L I + d) % 2147483647)) = w5 at *
  clear hcl hfr hfz ho4 ho5 hb4
  refine (join_any _ M _ _ K w5 r5).mono ?_
  rw [Hj1.out]
  rintro e w6 ⟨rfl, hb6⟩
  have hb36 := hb5.trans (hb6.mono hb5.size)
  have hb06 := hb03.trans (hb36.mono hb03.size)
  have hs36 := hb36.size
  have r6 := r3.below (flat_lasts _) hb36 (Nat.le_refl _) (Nat.le_refl _)
  have r6t := r6.take (k := I) (by omega)
  have hw7 : IntKind.i64.wrap ((I : Int) + 1) = (I : Int) + 1 := IntWalk.i64_in _ (by omega)
  have htn : ((I : Int) + 1).toNat = I + 1 := by omega
  clear r5 hb5 hb6 hb36 r3 hb03
  have hi2' : (I : Int) + 1 ≤ (M : Int) := by omega
  have hi3' : (I : Int) ≤ (c3 : Int) := by omega
  have hMI : M - (I + 1) ≤ 20 := by omega
  have hrl : (L.take I).length = I := by rw [List.length_take, hLl]; omega
  have hRl : (restL L I).length = M - 1 := by rw [restL_len (by omega), hLl]
  have hrl2 : (L.drop (I + 1)).length = M - (I + 1) := by rw [List.length_drop, hLl]
  have hsp : c3 = I + 1 ∨ ¬ c3 = I + 1 := by omega
  have hi4' : (0 : Int) ≤ (I : Int) + 1 := by omega
  have r6d : ∀ A' m c, m = M - (I + 1) → m ≤ c → c ≤ c3 → (I + 1 < M → A' = some ⟨b3, off3 + (I + 1) * 2, none⟩) → Rd 2 (flat pEnc) w6 w3.heap.size A' m c (L.drop (I + 1)) := fun A' m c h0 h1 h2 h3 => r6.drop (k := I + 1) (by omega) h0 ⟨h1, h2⟩ fun hlt => (h3 hlt).trans (addr_map _ _ _).symm
  have hi5' : (I : Int) ≤ (I : Int) + 1 := by omega
  rcases hsp with rfl | hcI
  all_goals
    go_wp2
    go_region_held3 (fun w' => Below w6.heap.size w6 w')
      (first | exact (Below.refl _ _).drew | exact (Below.refl w6.heap.size w6).drew.alloc (Nat.le_refl w6.heap.size) _ | assumption | go_keep)
      (first
        | (refine step_app _ pSized (by rfl) _ _ 22 (by rfl) w6.heap.size 39 i0 _ 16 Try.underlying22 hi0 hz0 hz1 hz2 rfl _ ([] : List (Int × Int)) (by rfl) (Own.lit (w := w6.drew) (n := 0) pSized (Nat.le_refl w6.heap.size) [] #[] rfl rfl (by omega)) _ _ I _ (L.take I) (by rfl) (r6t.below (flat_lasts _) ((Below.refl w6.heap.size w6).drew.alloc (Nat.le_refl w6.heap.size) _) hs36 (Nat.le_refl _)) (by simp only [maxLen, List.length_nil]; omega) (by simp only [List.length_nil]; omega) (by simp) ?_
           intro v7 w7 ho7 hg7 hx7
           have hb7 : Below w6.heap.size w6 w7 := Own.grow (Own.lit (w := w6.drew) (n := 0) pSized (Nat.le_refl w6.heap.size) [] #[] rfl rfl (by omega)) (Nat.le_refl _) ((Below.refl w6.heap.size w6).drew.alloc (Nat.le_refl w6.heap.size) _) (by simp) hg7
           rw [List.nil_append] at ho7
           clear hg7 hx7)
        | (refine step_app _ pSized (by rfl) _ _ 22 (by rfl) w6.heap.size 39 i0 _ 16 Try.underlying22 hi0 hz0 hz1 hz2 rfl _ (L.take I) (by rfl) ho7 _ _ _ _ (L.drop (I + 1)) (by rfl) ((r6d _ _ _ (by omega) (by omega) (by omega) (fun hlt => by first | rfl | omega)).below (flat_lasts _) hb7 hs36 (Nat.le_refl _)) (by rw [hrl]; simp only [maxLen]; omega) (by rw [hrl]; omega) hb7.size ?_
           intro v8 w8 ho8 hg8 hx8
           have hb8 : Below w6.heap.size w6 w8 := Own.grow ho7 (Nat.le_refl _) hb7 hb7.size hg8
           have ho8' : Own 2 pEnc w8 w6.heap.size 39 v8 (restL L I) := ho8
           obtain ⟨A8, c8, hv8, r8⟩ := ho8'.rd pSized (by rw [hRl]; omega)
           rw [hRl] at hv8 r8
           subst hv8
           clear hg8 hx8 hb7 ho7 ho8 ho8')
        | (go_at_call 15
           refine (join_any A8 (M - 1) c8 (restL L I) K w8 r8).mono ?_
           rw [Hj2.out]
           rintro e w9 ⟨rfl, hb9⟩
           have hb10 := hb8.trans (hb9.mono hb8.size)
           clear hb8))
    have hbE := hb06.trans (hb10.mono hb06.size)
    obtain ⟨p1, p2, p3, q1, q2⟩ := Hp.out
    have hcs : (d = 0 ∧ K < M) ∨ (d = 0 ∧ K = M) ∨ (d ≠ 0 ∧ K < M) ∨ (d ≠ 0 ∧ K = M) := by omega
    rcases hcs with ⟨e1, e2⟩ | ⟨e1, e2⟩ | ⟨e1, e2⟩ | ⟨e1, e2⟩
    · obtain ⟨r1, r2⟩ := p1 e1
      obtain ⟨r3, r4⟩ := q1 e2
      have t1 : ((M : Int) == (K : Int)) = false := by simp; omega
      have t2 : (K : Int) < (M : Int) := by omega
      have t3 : decide ((K : Int) < (M : Int)) = true := by simp; omega
      have t4 : decide (K < M) = true := by simp; omega
      clear p1 p2 p3 q1 q2
      subst r1 r2 r3 r4 e1
      go_wp2_with fail
      go_ret
      exact ⟨by simp, hbE⟩
    · obtain ⟨r1, r2⟩ := p1 e1
      obtain ⟨r3, r4⟩ := q2 e2
      clear p1 p2 p3 q1 q2
      subst r1 r2 r3 r4 e1 e2
      go_wp2_with fail
      go_ret
      exact ⟨by simp, hbE⟩
    · obtain ⟨r1, r2⟩ := p2 e1 e2
      obtain ⟨r3, r4⟩ := q1 e2
      have t1 : ((M : Int) == (K : Int)) = false := by simp; omega
      have t2 : (K : Int) < (M : Int) := by omega
      have t3 : decide ((K : Int) < (M : Int)) = true := by simp; omega
      have t4 : decide (K < M) = true := by simp; omega
      have t5 : (d == 0) = false := by simp; omega
      clear p1 p2 p3 q1 q2
      subst r1 r2 r3 r4
      go_wp2_with fail
      go_ret
      exact ⟨by simp, hbE⟩
    · obtain ⟨r1, r2⟩ := p3 e1 e2
      obtain ⟨r3, r4⟩ := q2 e2
      have t5 : (d == 0) = false := by simp; omega
      have t6 : (f1 != a) = true := by simpa using r1
      have t7 : decide (f1 = a) = false := by simpa using r1
      clear p1 p2 p3 q1 q2
      subst r2 r3 r4 e2
      go_wp2_with fail
      go_ret
      exact ⟨by simp, hbE⟩
end Go.Proofs.Ytfidjhhpcjmioaa
