/- Walk over the statement ShareSums. Conditions stand in the theorem. -/
import Derived.Test.YtfidjhhpcjmioaaL4
import Derived.Deep.LoopGhost
import Derived.Test.YtfidjhhpcjmioaaStep
namespace Go.Proofs.Ytfidjhhpcjmioaa
open Go.RowKit Alg
set_option linter.unusedVariables false

/-- two owned slices lie in different blocks -/
def Dis (v1 v2 : Value) : Prop := ∀ g, v1.ownBlock = some g → v2.ownBlock ≠ some g
theorem Dis.symm {v1 v2 : Value} (h : Dis v1 v2) : Dis v2 v1 := fun g h2 h1 => h g h1 h2
section
variable {α : Type} {sz : Nat} {enc : α → List Value} {w w' : World} {base : Nat} {e : TypeId} {v1 v1' v2 : Value} {l : List α}
theorem Dis.app (h : Dis v1 v2) (ho : Own sz enc w base e v2 l) (hx : v1'.ownBlock = v1.ownBlock ∨ v1'.ownBlock = some w.heap.size) : Dis v1' v2 := fun g h1 h2 => by
  rcases hx with hx | hx
  · exact h g (hx.symm.trans h1) h2
  · have := ho.lt g h2
    rw [hx] at h1
    injection h1 with h1
    omega
theorem Dis.keep (h : Dis v1 v2) (ho : Own sz enc w base e v2 l) (hg : w.grownBy w' v1.ownBlock) : Own sz enc w' base e v2 l :=
  ho.kept hg (by
    cases h2 : v2.ownBlock with
    | none => exact .inl rfl
    | some g => exact .inr fun e1 => h g e1.symm h2)
end

/-- shares at 1, 2, .., with some values -/
def shL (y : Nat → Int) (n : Nat) : List (Int × Int) := ofF n fun i => ((i : Int) + 1, y i)
theorem shL_len (y : Nat → Int) (n : Nat) : (shL y n).length = n := ofF_len
theorem shL_succ (y : Nat → Int) (n : Nat) : shL y (n + 1) = shL y n ++ [((n : Int) + 1, y n)] := ofF_succ
theorem shL_at (y : Nat → Int) (n i : Nat) (h : i < n) : fx (shL y n) i = (i : Int) + 1 ∧ fy (shL y n) i = y i := by
  have := ofF_get (f := fun i : Nat => ((i : Int) + 1, y i)) h
  exact ⟨fx_eq this, fy_eq this⟩
theorem shL_valid {y : Nat → Int} {n k : Nat} (hy : ∀ i, i < n → 0 ≤ y i ∧ y i < 2147483647) (hk : 1 ≤ k) (hk2 : k ≤ 20) (hn : n ≤ 20) : validF (shL y n) k = 0 := by
  refine valid_of hk hk2 (fun s hs => ?_) fun i j hi hj he => ?_
  · obtain ⟨i, hi, rfl⟩ := ofF_mem hs
    have := hy i hi
    simp [shOk, inF]; omega
  · rw [shL_len] at hi hj
    rw [(shL_at y n i hi).1, (shL_at y n j hj).1] at he
    omega
theorem shL_join {y : Nat → Int} {n k : Nat} (hy : ∀ i, i < n → 0 ≤ y i ∧ y i < 2147483647) (hk : 1 ≤ k) (hkn : k ≤ n) (hn : n ≤ 20) {g : Fp → Fp} (hg : IsP k g) (ho : ∀ i, i < n → ph (y i) = g (ph ((i : Int) + 1))) (c : Int) (hc : inF c = true) (hc0 : ph c = g 0) : joinF (shL y n) k = (c, 0) := by
  obtain ⟨c', h1, h2, h3, h4⟩ := join_onP (shL_valid hy hk (by omega) hn) (by rw [shL_len]; exact hkn) hg (fun i hi => by
    rw [shL_len] at hi
    rw [(shL_at y n i hi).1, (shL_at y n i hi).2]; exact ho i hi)
  rw [h1, (ph_eq (inF_ph h3 h4) hc).1 (h2.trans hc0.symm)]
theorem ph_split (secret s : Int) (k n i : Nat) (h : i < n) : ph (fy (splitL secret k s n) i) = secP secret s k (ph ((i : Int) + 1)) := by
  rw [(splitL_at secret k s n i h).2, Int.toNat_natCast, ph_hor_all]; rfl

set_option maxRecDepth 100000 in
theorem shareSums_walk (one two k n seed again : Int) (w : World)
    (h0 : -9223372036854775808 ≤ one ∧ one ≤ 9223372036854775807) (h0' : -9223372036854775808 ≤ two ∧ two ≤ 9223372036854775807) (h1 : 0 ≤ k ∧ k ≤ 255) (h2 : 0 ≤ n ∧ n ≤ 255) (h3 : -9223372036854775808 ≤ seed ∧ seed ≤ 9223372036854775807) (h4 : -9223372036854775808 ≤ again ∧ again ≤ 9223372036854775807) :
    Calls Try.prog 5 #[.int .i64 one, .int .i64 two, .int .u8 k, .int .u8 n, .int .i64 seed, .int .i64 again] w fun e w' => e = .returned (.bool true) ∧ Below w.heap.size w w' := by
  obtain ⟨i0, hi0, hz0, hz1, hz2⟩ := info_parts share_info
  have hS : inF (one % 2147483647) = true := inF_mod _
  have hO : inF (two % 2147483647) = true := inF_mod _
  obtain ⟨a, hsec⟩ : ∃ s, s = one % 2147483647 := ⟨_, rfl⟩
  obtain ⟨b, hoth⟩ : ∃ s, s = two % 2147483647 := ⟨_, rfl⟩
  obtain ⟨M, hM⟩ : ∃ M : Nat, (M : Int) = 1 + n % 20 := ⟨(1 + n % 20).toNat, by omega⟩
  have hr1 := Int.emod_nonneg k (show 1 + n % 20 ≠ 0 by omega)
  have hr2 := Int.emod_lt_of_pos k (show 0 < 1 + n % 20 by omega)
  obtain ⟨K, hK⟩ : ∃ K : Nat, (K : Int) = 1 + k % (1 + n % 20) := ⟨(1 + k % (1 + n % 20)).toNat, by omega⟩
  have hM1 : 1 ≤ M := by omega
  have hM2 : M ≤ 20 := by omega
  have hK1 : 1 ≤ K := by omega
  have hK2 : K ≤ M := by omega
  rw [← hsec] at hS
  rw [← hoth] at hO
  have hnum := fun w => numbers_any one k n w h0 h1 h2
  rw [← hsec, ← hK, ← hM] at hnum
  have hmod := fun w => mod_any two w h0'.1 h0'.2
  rw [← hoth] at hmod
  have hab : 0 ≤ a ∧ a < 2147483647 := by simpa [inF] using hS
  have hbb : 0 ≤ b ∧ b < 2147483647 := by simpa [inF] using hO
  obtain ⟨a1, a2⟩ := hab
  obtain ⟨b1, b2⟩ := hbb
  have Hnum := Lib.hid hnum; have Hmod := Lib.hid hmod
  have HS := Lib.hid hS; have HO := Lib.hid hO
  clear hnum hmod hsec hoth hM hK hr1 hr2 hS hO h0 h0' h1 h2
  go_enter Try.func5, Try.ntmps5
  go_wp2_with (go_at_call 12; refine (small_any _).mono ?_; rintro e w1 ⟨rfl, hb1⟩)
  refine (Hnum.out w1).mono ?_
  rintro e w2 ⟨rfl, hb2⟩
  have hb02 := hb1.trans (hb2.mono hb1.size)
  go_wp2_with fail
  refine (Hmod.out w2).mono ?_
  rintro e _ ⟨rfl, rfl⟩
  go_wp2_with fail
  refine (split_ok a seed K M w2 HS.out hM1 hM2 hK1 hK2 h3.1 h3.2).mono ?_
  rintro e w3 ⟨v3, rfl, ho3, hb3⟩
  obtain ⟨A3, c3, rfl, r3⟩ := ho3.rd pSized (by rw [splitL_len]; omega)
  rw [splitL_len] at r3 ⊢
  clear ho3
  have hb03 := hb02.trans (hb3.mono hb02.size)
  go_wp2_with fail
  refine (split_ok b again K M w3 HO.out hM1 hM2 hK1 hK2 h4.1 h4.2).mono ?_
  rintro e w4 ⟨v4, rfl, ho4, hb4⟩
  obtain ⟨A4, c4, rfl, r4⟩ := ho4.rd pSized (by rw [splitL_len]; omega)
  rw [splitL_len] at r4 ⊢
  clear ho4
  have hb04 := hb03.trans (hb4.mono hb03.size)
  have r34 := r3.up (flat_lasts _) hb4
  have hMM : ((M : Int) != (M : Int)) = false := by simp
  have hys : ∀ i, 0 ≤ (fy (splitL a K seed M) i + fy (splitL b K again M) i) % 2147483647 ∧ (fy (splitL a K seed M) i + fy (splitL b K again M) i) % 2147483647 < 2147483647 := fun i => mod_bd _
  have Hys := Lib.hid hys; clear hys
  have HX1 := Lib.hid (fun i hi => splitL_at a K seed M i hi)
  have HX2 := Lib.hid (fun i hi => splitL_at b K again M i hi)
  have Hj1 := Lib.hid (show joinF (shL (fun i => (fy (splitL a K seed M) i + fy (splitL b K again M) i) % 2147483647) M) K = ((a + b) % 2147483647, 0) from
    shL_join (fun i _ => mod_bd _) hK1 hK2 hM2 ((secP_isP a seed K).add (secP_isP b again K)) (fun i hi => by rw [ph_mod, ph_add, ph_split a seed K M i hi, ph_split b again K M i hi]) _ (inF_mod _) (by rw [ph_mod, ph_add, secP_zero a seed K hK1, secP_zero b again K hK1]))
  have Hj2 := Lib.hid (show joinF (shL (fun i => (fy (splitL a K seed M) i + b) % 2147483647) M) K = ((a + b) % 2147483647, 0) from
    shL_join (fun i _ => mod_bd _) hK1 hK2 hM2 ((secP_isP a seed K).add ((IsP.const (ph b)).le hK1)) (fun i hi => by rw [ph_mod, ph_add, ph_split a seed K M i hi]) _ (inF_mod _) (by rw [ph_mod, ph_add, secP_zero a seed K hK1]))
  have hsok := fun x hx => shOk_pt (splitL_ok a seed K M hM2 x hx)
  have htok := fun x hx => shOk_pt (splitL_ok b again K M hM2 x hx)
  generalize splitL a K seed M = L1 at *
  generalize splitL b K again M = L2 at *
  clear r3 hb2 hb3 hb1 hb4 HS HO h3 h4
  go_wp2_with fail
  go_loopg [22, 23, 24] M (fun gk u v i wr => ∃ j : Nat, j ≤ M ∧ gk = M - j ∧ i = .int .i64 j ∧ Own 2 pEnc wr w4.heap.size 39 u (shL (fun i => (fy L1 i + fy L2 i) % 2147483647) j) ∧ Own 2 pEnc wr w4.heap.size 39 v (shL (fun i => (fy L1 i + b) % 2147483647) j) ∧ Dis u v ∧ Below w4.heap.size w4 wr)
  case atStart => exact ⟨0, Nat.zero_le _, rfl, rfl, Own.nil, Own.nil, (fun g h => by simp [Value.ownBlock] at h), Below.refl _ _⟩
  case round =>
    obtain ⟨j, hj, rfl, rfl, ho1, ho2, hdis, hb⟩ := hrel
    by_cases hlt : j < M
    · obtain ⟨p, off, x, y, rfl, hpB, hxy, p0, p1⟩ := (r34.below (flat_lasts _) hb (Nat.le_refl _) (Nat.le_refl _)).atP hlt
      obtain ⟨p', off', x', y', rfl, hpB', hxy', q0, q1⟩ := (r4.below (flat_lasts _) hb (Nat.le_refl _) (Nat.le_refl _)).atP hlt
      obtain ⟨_, _, y1, y2⟩ := hsok _ (List.mem_of_getElem? hxy)
      obtain ⟨_, _, y1', y2'⟩ := htok _ (List.mem_of_getElem? hxy')
      simp only at y1 y2 y1' y2'
      have ex : x = (j : Int) + 1 := by rw [← fx_eq hxy]; exact (HX1.out j hlt).1
      have ex' : x' = (j : Int) + 1 := by rw [← fx_eq hxy']; exact (HX2.out j hlt).1
      subst ex ex'
      have Hy := Lib.hid (fy_eq hxy); have Hy' := Lib.hid (fy_eq hxy'); clear hxy hxy'
      have e1 : (((j : Int) + 1) != ((j : Int) + 1)) = false := by simp
      have hji : (j : Int) < (M : Int) := by omega
      have hj0 : (0 : Int) ≤ (j : Int) := by omega
      have w5 : IntKind.i64.wrap (y + y') = y + y' := IntWalk.i64_in _ (by omega)
      have w6 : IntKind.i64.wrap ((j : Int) + 1) = (j : Int) + 1 := IntWalk.i64_in _ (by omega)
      have hszr := hb.size
      have hl3 := Rd.new1 pSized wr ((j : Int) + 1, (y + y') % 2147483647) #[.int .i64 ((j : Int) + 1), .int .i64 ((y + y') % 2147483647)] rfl 39
      go_wp2
      go_region_held3 (fun w' => w'.cell? ⟨p, off + j * 2 + 1, none⟩ = some (.int .i64 y) ∧ w'.cell? ⟨p', off' + j * 2 + 1, none⟩ = some (.int .i64 y'))
        (first | go_keep | exact ⟨(hb5.cell hpB).trans ((hb.cell hpB).symm.trans p1), (hb5.cell hpB').trans ((hb.cell hpB').symm.trans q1)⟩)
        (first
          | (refine step_app _ pSized (by rfl) _ _ 22 (by rfl) w4.heap.size 39 i0 _ 16 Try.underlying22 hi0 hz0 hz1 hz2 rfl _ (shL (fun i => (fy L1 i + fy L2 i) % 2147483647) j) (by rfl) ((ho1.alloc _).drew) _ _ 1 1 [((j : Int) + 1, (y + y') % 2147483647)] (by rfl) (Rd.keep (flat_lasts _) hl3 (Nat.le_refl _) (fun _ _ => rfl)) (by rw [shL_len]; simp only [maxLen]; omega) (by rw [shL_len]; omega) (by simp; omega) ?_; intro u5 w5' ho5 hg5 hx5; have hb5 : Below w4.heap.size w4 w5' := Own.grow (ho1.alloc _).drew (Nat.le_refl _) (hb.alloc hb.size _).drew (by simp; omega) hg5)
          | (go_at_call 21; refine (mod_any _ _ (by omega) (by omega)).mono ?_; rintro e w' ⟨rfl, rfl⟩))
      have ho2' := Dis.keep hdis ((ho2.alloc _).drew) hg5
      have hdis' := Dis.app hdis ((ho2.alloc _).drew) hx5
      have p1' : w5'.cell? ⟨p, off + j * 2 + 1, none⟩ = some (.int .i64 y) := (hb5.cell hpB).trans ((hb.cell hpB).symm.trans p1)
      have ho5' : Own 2 pEnc w5' w4.heap.size 39 u5 (shL (fun i => (fy L1 i + fy L2 i) % 2147483647) (j + 1)) := by rw [shL_succ, Hy.out, Hy'.out]; exact ho5
      have hsz5 := hb5.size
      clear p0 p1 q0 q1 ho1 ho2 hb hl3 hg5 hx5 ho5 hdis hszr
      have hl6 := Rd.new1 pSized w5' ((j : Int) + 1, (y + b) % 2147483647) #[.int .i64 ((j : Int) + 1), .int .i64 ((y + b) % 2147483647)] rfl 39
      go_wp2_with (first
        | (go_at_call 21; refine (mod_any _ _ (by omega) (by omega)).mono ?_; rintro e w' ⟨rfl, rfl⟩)
        | (at_builtin; refine wpList_app _ pSized rfl _ _ 22 rfl w4.heap.size 39 i0 _ 16 Try.underlying22 hi0 hz0 hz1 hz2 rfl _ (shL (fun i => (fy L1 i + b) % 2147483647) j) rfl (ho2'.alloc _) _ _ 1 1 _ rfl hl6 (by rw [shL_len]; simp only [maxLen]; omega) (by rw [shL_len]; omega) (by simp; omega) ?_
           intro v6 w6' ho6 hg6 hx6
           have hb6 : Below w4.heap.size w4 w6' := Own.grow (ho2'.alloc _) (Nat.le_refl _) (hb5.alloc hb5.size _) (by simp; omega) hg6
           have ho5'' := Dis.keep hdis'.symm (ho5'.alloc _) hg6
           have hdis'' := (Dis.app hdis'.symm (ho5'.alloc _) hx6).symm
           clear hg6 hx6))
      go_roundg (M - (j + 1))
      case rel => exact ⟨j + 1, by omega, rfl, by go_num, ho5'', by rw [shL_succ, Hy.out]; exact ho6, hdis'', hb6⟩
      case measure => omega
    · have e : j = M := by omega
      subst e
      obtain ⟨A5, c5, rfl, r5⟩ := ho1.rd pSized (by rw [shL_len]; omega)
      obtain ⟨A6, c6, rfl, r6⟩ := ho2.rd pSized (by rw [shL_len]; omega)
      rw [shL_len] at r5 r6 ⊢
      rw [shL_len]
      clear ho1 ho2 hdis
      have hbw := hb04.trans (hb.mono hb04.size)
      have hss : ((a + b) % 2147483647 == (a + b) % 2147483647) = true := by simp
      go_wp2_with fail
      refine (join_any A5 j c5 _ K wr r5).mono ?_
      rw [Hj1.out]
      rintro e w7 ⟨rfl, hb7⟩
      go_wp2_with fail
      refine (join_any A6 j c6 _ K w7 (r6.up (flat_lasts _) hb7)).mono ?_
      rw [Hj2.out]
      rintro e w8 ⟨rfl, hb8⟩
      have hb9 := hbw.trans ((hb7.trans (hb8.mono hb7.size)).mono hbw.size)
      go_wp2_with (go_at_call 21; refine (mod_any _ _ (by omega) (by omega)).mono ?_; rintro e w' ⟨rfl, rfl⟩)
      go_ret
      exact ⟨by simp, hb9⟩
end Go.Proofs.Ytfidjhhpcjmioaa
