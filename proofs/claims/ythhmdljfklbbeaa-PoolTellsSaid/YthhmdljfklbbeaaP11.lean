/- Walk over greedy of package pool. Conditions stand in the theorem. -/
import Derived.Test.YthhmdljfklbbeaaP10
namespace Go.Proofs.Ythhmdljfklbbeaa
open Go.RowKit
set_option linter.unusedVariables false

theorem Win.drew {w : World} {H : Nat} {p : Pl} {v : Value} {i : Nat} {s : Nat → Int} {win : Int} (h : Win w H p v i s win) : Win w.drew H p v i s win := ⟨h.cw, h.ct, h.cs, h.fs, h.cn, h.fn, h.own, h.lt⟩
theorem repeat_all (x : Int) (A : Option Addr) (cap t : Nat) (w : World) (hl : RdI w w.heap.size A 1 cap [x]) (ht : t ≤ 1000000) :
  Calls Try.prog 35 #[.slice A 1 cap, .int .i64 t] w fun e w' => ∃ v, e = .returned v ∧ Own 1 iEnc w' w.heap.size 3 v (List.replicate t x) ∧ Below w.heap.size w w' := by
  by_cases h : t = 0
  · subst h; exact repeat_zero x A cap w hl
  · exact repeat_any x A cap t w hl (by omega) ht
theorem away_next {raw : Nat → Iw} {i H s0 s3 sL s6 : Nat} {v out v5 out' : Value} {x : Iw} (h : Away raw i (fun b => b < H + 3 ∨ v.ownBlock = some b ∨ out.ownBlock = some b)) (hlt : ∀ k, k < i → 0 < (raw k).2.1 → ∀ b off, (raw k).1 = some ⟨b, off, none⟩ → b < s0)
    (hx : 0 < x.2.1 → ∀ b off, x.1 = some ⟨b, off, none⟩ → s3 ≤ b ∧ b < sL) (hv : ∀ g, v.ownBlock = some g → g < s0) (ho : ∀ g, out.ownBlock = some g → g < s0) (hv5 : ∀ g, v5.ownBlock = some g → v.ownBlock = some g ∨ sL ≤ g) (ho' : out'.ownBlock = out.ownBlock ∨ out'.ownBlock = some s6)
    (h1 : s0 ≤ s3) (h2 : H + 3 ≤ s3) (h3 : s3 ≤ sL) (h4 : sL ≤ s6) : Away (fun j => if j < i then raw j else x) (i + 1) (fun b => b < H + 3 ∨ v5.ownBlock = some b ∨ out'.ownBlock = some b) := fun k hk hp b off he hS => by
  by_cases hki : k < i
  · simp only [if_pos hki] at hp he
    have hb := hlt k hki hp b off he
    refine h k hki hp b off he ?_
    rcases hS with hS | hS | hS
    · exact Or.inl hS
    · rcases hv5 b hS with h5 | h5
      · exact Or.inr (Or.inl h5)
      · omega
    · rcases ho' with h6 | h6
      · exact Or.inr (Or.inr (h6 ▸ hS))
      · rw [h6] at hS; injection hS with hS; omega
  · simp only [if_neg hki] at hp he
    obtain ⟨hb1, hb2⟩ := hx hp b off he
    rcases hS with hS | hS | hS
    · omega
    · rcases hv5 b hS with h5 | h5
      · have := hv b h5; omega
      · omega
    · rcases ho' with h6 | h6
      · have := ho b (h6 ▸ hS); omega
      · rw [h6] at hS; injection hS with hS; omega
theorem slices_info : (Try.prog.info? 32).map (fun i => (i.zero, i.size, i.bytes)) = some (some (.slice none 0 0), 1, 24) := by kernel_rfl
def GreedyPost (w : World) (p : Pl) (n : Nat) (e : Ending) (w' : World) : Prop := ∃ A cap, e = .returned (.slice A n cap) ∧ RdII w' w'.heap.size A n cap (ofF n (fun i => partsL p.ms (grP p i))) ∧ Below w.heap.size w w'

set_option maxRecDepth 100000 in
set_option maxHeartbeats 2000000 in
theorem greedy_any (p : Pl) (n : Nat) (w : World) (hp : rightF p = true) (hn : n ≤ 1000) :
  Calls Try.prog 29 #[plV p, .int .i64 n] w (GreedyPost w p n) := by
  obtain ⟨i0, hi0, hz0, hz1, hz2⟩ := info_parts int_info
  obtain ⟨j0, hj0, jz0, jz1, jz2⟩ := info_parts slices_info
  have hf := grP_facts hp
  have hb6 := rightF_iff hp
  have Hrest := Lib.hid (fun w => rest_any p w)
  have Hleft := Lib.hid (fun H i v w hi hw => left_gr H p i v w hp hi hw)
  have Hclaim := Lib.hid (fun H i v w hi hw => claim_gr H p i v w hp hi hw)
  have Hf := Lib.hid hf.2
  obtain ⟨hM1, hM2⟩ := hf.1
  obtain ⟨g, hg⟩ : ∃ g, g = grP p := ⟨_, rfl⟩
  rw [← hg] at Hleft Hclaim Hf
  have hpost : GreedyPost w p n = fun e w' => ∃ A cap, e = .returned (.slice A n cap) ∧ RdII w' w'.heap.size A n cap (ofF n (fun i => partsL p.ms (g i))) ∧ Below w.heap.size w w' := by rw [hg]; rfl
  have Hpost := Lib.hid hpost
  clear hf hpost hg hp
  obtain ⟨mo, pr, ms, co, wi, to⟩ := p
  simp only [plV, plC] at *
  obtain ⟨⟨p11, p12⟩, ⟨p21, p22⟩, ⟨p31, p32⟩, ⟨p41, p42⟩, ⟨p51, p52⟩, ⟨p61, p62⟩⟩ := hb6
  obtain ⟨M, hM⟩ : ∃ M, ms * co = M := ⟨_, rfl⟩
  rw [hM] at hM1 hM2
  have hMw : IntKind.i64.wrap M = M := IntWalk.i64_in _ (by omega)
  have hms0 : (ms == 0) = false := by simp; omega
  have hms1 : ¬ ms = 0 := by omega
  rw [Hpost.out]
  go_enter Try.func29, Try.ntmps29
  go_wp2_with (go_at_call 32; refine (Hrest.out _).mono ?_; rintro e w2 ⟨rfl, hwin, hb2⟩)
  have hb02 : Below w.heap.size w w2 := ((Below.refl w.heap.size w).alloc (Nat.le_refl _) _).trans (hb2.mono (by simp))
  have d2 : w2.cell? ⟨w.heap.size, 2, none⟩ = some (.int .i64 ms) := (hb2.cell (p := ⟨w.heap.size, 2, none⟩) (by simp)).trans (new_cell rfl rfl)
  have d3 : w2.cell? ⟨w.heap.size, 3, none⟩ = some (.int .i64 co) := (hb2.cell (p := ⟨w.heap.size, 3, none⟩) (by simp)).trans (new_cell rfl rfl)
  have hsz0 : (w.alloc (.cells #[.int .i64 mo, .int .i64 pr, .int .i64 ms, .int .i64 co, .int .i64 wi, .int .i64 to] 23)).heap.size = w.heap.size + 1 := by simp
  rw [hsz0] at hwin
  clear hb2 hsz0
  obtain ⟨H, hH⟩ : ∃ H, w.heap.size + 1 = H := ⟨_, rfl⟩
  rw [hH] at hwin ⊢
  have hH1 : w.heap.size < H := by omega
  have HH := Lib.hid hH
  clear hH
  go_loopg [7, 16] n (fun gk out i wr => ∃ (j : Nat) (v : Value) (raw : Nat → Iw), j ≤ n ∧ gk = n - j ∧ i = .int .i64 j ∧ Win wr H ⟨mo, pr, ms, co, wi, to⟩ v j g (sumN g j - sumN g (j - wi.toNat)) ∧ Own 1 qEnc wr (H + 3) 32 out (ofF j raw) ∧ FitI wr raw (fun i => partsL ms (g i)) j ∧ Away raw j (fun b => b < H + 3 ∨ v.ownBlock = some b ∨ out.ownBlock = some b) ∧
    (∀ b, v.ownBlock = some b → out.ownBlock ≠ some b) ∧ wr.cell? ⟨w.heap.size, 2, none⟩ = some (.int .i64 ms) ∧ wr.cell? ⟨w.heap.size, 3, none⟩ = some (.int .i64 co) ∧ Below w.heap.size w wr)
  case atStart => exact ⟨0, _, fun _ => (none, 0, 0), Nat.zero_le _, rfl, rfl, hwin.congr (fun j hj => absurd hj (by omega)) (by simp [sumN]), Own.nil, (fun k hk => absurd hk (by omega)), (fun k hk => absurd hk (by omega)), (fun b hb => by simp [Value.ownBlock] at hb), d2, d3, hb02⟩
  case round =>
    obtain ⟨j, v, raw, hj, rfl, rfl, hw, ho, hfit, haway, hdis, c2, c3, hb⟩ := hrel
    by_cases hlt : j < n
    · have hfj := Hf.out j
      obtain ⟨⟨g1, g2, g3⟩, hmin, hl0, -⟩ := hfj
      have hcl := fun v w hw => Hclaim.out H j v w (by omega) hw
      have hlf := fun w hw => Hleft.out H j v w (by omega) hw
      rw [hM] at hmin g3
      have HLk := Lib.hid (show partsL ms (g j) = List.replicate (g j / ms).toNat ms ++ (if 0 < g j % ms then [g j % ms] else []) from rfl)
      obtain ⟨LV, hLV⟩ : ∃ x, to - (sumN g j - sumN g (wb wi.toNat j)) = x := ⟨_, rfl⟩
      rw [hLV] at hmin hl0 hlf
      have hQ1 : 0 ≤ g j / ms := Int.ediv_nonneg g1 (by omega)
      have hQ2 : g j / ms ≤ co := Int.ediv_le_of_le_mul (by omega) (by rw [Int.mul_comm, hM]; exact g3)
      have hR1 := Int.emod_nonneg (g j) (show ms ≠ 0 by omega)
      have hR2 := Int.emod_lt_of_pos (g j) (show 0 < ms by omega)
      have ht1 : (g j).tdiv ms = g j / ms := Int.tdiv_eq_ediv_of_nonneg g1
      have ht2 : (g j).tmod ms = g j % ms := Int.tmod_eq_emod_of_nonneg g1
      have Hcl := Lib.hid hcl; have Hlf := Lib.hid hlf; have HLV := Lib.hid hLV
      clear hcl hlf hLV
      obtain ⟨Q, hQ⟩ : ∃ Q : Nat, g j / ms = (Q : Int) := ⟨(g j / ms).toNat, by omega⟩
      obtain ⟨R, hR⟩ : ∃ R, g j % ms = R := ⟨_, rfl⟩
      rw [hQ] at ht1 hQ1 hQ2 HLk
      rw [hR] at ht2 hR1 hR2 HLk
      simp only [Int.toNat_natCast] at HLk
      have hwQ : IntKind.i64.wrap (Q : Int) = (Q : Int) := IntWalk.i64_in _ (by omega)
      obtain ⟨G, hG⟩ : ∃ G, g j = G := ⟨_, rfl⟩
      rw [hG] at hmin g1 g2 g3 ht1 ht2 hQ hR Hcl
      have HG := Lib.hid hG
      clear hG
      have hji : (j : Int) < (n : Int) := by omega
      go_wp2
      go_region_held3 (fun w' => w'.cell? ⟨w.heap.size, 2, none⟩ = some (.int .i64 ms) ∧ w'.cell? ⟨w.heap.size, 3, none⟩ = some (.int .i64 co))
        (first | exact ⟨c2, c3⟩ | exact ⟨f2, f3⟩)
        (first
          | (go_at_call 36; refine (Hlf.out _ hw.drew).mono ?_; rintro e w3 ⟨rfl, hw3, hk3⟩
             have f2 := (hk3.cell (p := ⟨w.heap.size, 2, none⟩) (by show w.heap.size < _; have := hw.lt; show w.heap.size < wr.heap.size; omega) (by show ¬ w.heap.size = _; omega)).trans c2
             have f3 := (hk3.cell (p := ⟨w.heap.size, 3, none⟩) (by show w.heap.size < _; have := hw.lt; show w.heap.size < wr.heap.size; omega) (by show ¬ w.heap.size = _; omega)).trans c3))
      have hk03 : Kept (fun b => b = H + 2) wr w3 := ((Kept.refl (fun b => b = H + 2) wr).drew).trans hk3 (fun _ _ h => h)
      have hlt0 := hw.lt
      have hsz3 := hk03.size
      have hp3 : w.heap.size < w3.heap.size := by omega
      clear hk3
      go_wp2
      go_region_held3 (fun w' => w'.cell? ⟨w.heap.size, 2, none⟩ = some (.int .i64 ms))
        (first | exact f2 | exact (World.cell?_alloc_lt _ _ _ hp3).trans f2 | exact (hb4.cell (by show w.heap.size < _; simp; omega)).trans ((World.cell?_alloc_lt _ _ _ hp3).trans f2))
        (first
          | (go_at_call 35; refine (repeat_all ms _ 1 Q _ (Rd.drewN (flat_lasts _) (Rd.litI (w := w3) 3 [ms] #[.int .i64 ms] 1 rfl rfl (by omega)) 1) (by omega)).mono ?_; rintro e w4 ⟨v4, rfl, ho4, hb4⟩))
      have hb34 : Below w3.heap.size w3 w4 := (((Below.refl w3.heap.size w3).alloc (Nat.le_refl _) _).drew).trans (hb4.mono (by simp))
      have ho4' : Own 1 iEnc w4 w3.heap.size 3 v4 (List.replicate Q ms) := ho4.mono (by simp)
      have f24 := (hb34.cell (p := ⟨w.heap.size, 2, none⟩) hp3).trans f2
      have f34 := (hb34.cell (p := ⟨w.heap.size, 3, none⟩) hp3).trans f3
      have hsz4 := hb34.size
      clear ho4 hb4
      by_cases hRp : 0 < R
      · rw [if_pos hRp] at HLk
        go_wp2_with (at_builtin
                     refine wpList_app _ iSized rfl _ _ 32 rfl w3.heap.size 3 i0 _ 8 Try.underlying32 hi0 hz0 hz1 hz2 rfl _ (List.replicate Q ms) rfl (ho4'.alloc _) _ _ 1 1 [R] rfl (Rd.new1 iSized w4 R #[.int .i64 R] rfl 3) (by simp only [maxLen, List.length_replicate]; omega) (by simp only [List.length_replicate]; omega) (by simp; omega) ?_
                     intro vL wL hoL hgL hxL
                     have hbL : Below w3.heap.size w3 wL := Own.grow (ho4'.alloc _) (Nat.le_refl _) (hb34.alloc hsz4 _) (by simp; omega) hgL
                     obtain ⟨AL, cL, rfl, rL⟩ := hoL.rd iSized (by simp; omega))
        have hlen : (List.replicate Q ms ++ [R]).length = Q + 1 := by simp
        obtain ⟨Lj, hLj⟩ : ∃ Lj, Lj = List.replicate Q ms ++ [R] := ⟨_, rfl⟩
        have HLj := Lib.hid (HLk.out.trans hLj.symm)
        rw [hlen, ← hLj] at rL hoL
        clear hLj hlen
        obtain ⟨N, hN⟩ : ∃ N, Q + 1 = N := ⟨_, rfl⟩
        rw [hN] at rL hoL ⊢
        clear hN
        have hwL := hw3.below hbL
        refine (Hcl.out v wL hwL).mono ?_
        rintro e w5 ⟨rfl, v5, hw5, hk5, hv5⟩
        have hszL := hbL.size
        have hsz5 := hk5.size
        have hvo := fun gg (hgg : u7.ownBlock = some gg) => ho.lt gg hgg
        have hvv := fun gg (hgg : v.ownBlock = some gg) => hw.own.lt gg hgg
        have ho3 := ho.keptS hk03 (fun gg hgg h => by have := (hvo gg hgg).1; omega)
        have hoW := ho3.below hbL
        have ho5 := hoW.keptS hk5 (fun gg hgg h => by
          rcases h with h | h | h
          · have := (hvo gg hgg).1; omega
          · have := (hvo gg hgg).1; omega
          · exact hdis gg h hgg)
        have hfit3 := hfit.keptS hk03 (haway.mono (fun b hb => Or.inl (by omega)))
        have hfit5 := (hfit3.below hbL).keptS hk5 (haway.mono (fun b hb => by
          rcases hb with hb | hb | hb
          · exact Or.inl (by omega)
          · exact Or.inl (by omega)
          · exact Or.inr (Or.inl hb)))
        have hAL : 0 < N → ∀ b off, AL = some ⟨b, off, none⟩ → w3.heap.size ≤ b ∧ b < wL.heap.size := fun hp b off he => by
          obtain ⟨b', off', he', hlt', -⟩ := rL.2.2.2 hp
          rw [he] at he'
          injection he' with he'
          injection he' with he1
          exact ⟨(hoL.lt b (by rw [he]; rfl)).1, by omega⟩
        have r5 := rL.keptS hk5 (Nat.le_refl _) hsz5 (fun hp b off he hS => by
          have := (hAL hp b off he).1
          rcases hS with h | h | h
          · omega
          · omega
          · have := (hvv b h).2; omega)
        have hnS : ¬ (w.heap.size = H + 1 ∨ w.heap.size = H + 2 ∨ v.ownBlock = some w.heap.size) := fun hS => by
          rcases hS with h | h | h
          · omega
          · omega
          · have := (hvv _ h).1; omega
        have f25 := (hk5.cell (p := ⟨w.heap.size, 2, none⟩) (by show w.heap.size < _; omega) (hnS)).trans ((hbL.cell (p := ⟨w.heap.size, 2, none⟩) hp3).trans f2)
        have f35 := (hk5.cell (p := ⟨w.heap.size, 3, none⟩) (by show w.heap.size < _; omega) (hnS)).trans ((hbL.cell (p := ⟨w.heap.size, 3, none⟩) hp3).trans f3)
        have hb3 : Below w.heap.size w w3 := hb.trans (hk03.below hb.size (fun i hi => by omega))
        have hbW : Below w.heap.size w wL := hb3.trans (hbL.mono hb3.size)
        have hb5 : Below w.heap.size w w5 := hbW.trans (hk5.below hbW.size (fun i hi => by rcases hi with h | h | h; omega; omega; have := (hvv _ h).1; omega))
        go_wp2_with (at_builtin
                     refine wpList_app _ qSized rfl _ _ 24 rfl (H + 3) 32 j0 _ 24 Try.underlying24 hj0 jz0 jz1 jz2 rfl _ (ofF j raw) rfl (ho5.alloc _) _ _ 1 1 [(AL, N, cL)] rfl (Rd.new1 qSized w5 (AL, N, cL) #[.slice AL N cL] rfl 32) (by simp only [maxLen, ofF_len]; omega) (by simp only [ofF_len]; omega) (by simp; omega) ?_
                     intro out6 w6 ho6 hg6 hx6
                     have hkA : Kept (fun b => u7.ownBlock = some b) w5 w6 := ((Kept.refl (fun b => u7.ownBlock = some b) w5).alloc _).trans (grown_kept hg6) (fun _ _ h => h)
                     have hsz6 := hkA.size
                     have hw6 := hw5.keptS hkA (fun h => by have := (hvo _ h).1; omega) (fun h => by have := (hvo _ h).1; omega) (fun h => by have := (hvo _ h).1; omega) (fun gg hgg h => by
                       rcases hv5 gg hgg with h5 | h5
                       · exact hdis gg h5 h
                       · have := (hvo _ h).2; omega)
                     have hfit6 := (hfit5.keptS hkA (haway.mono (fun b hb => Or.inr (Or.inr hb)))).more (x := (AL, N, cL)) (L := fun i => partsL ms (g i)) (by
                       show RdI w6 w6.heap.size AL N cL (partsL ms (g j))
                       rw [HLj.out]
                       exact r5.keptS hkA (Nat.le_refl _) hsz6 (fun hp b off he h => by have := (hAL hp b off he).1; have := (hvo _ h).2; omega))
                     have haway6 := away_next (v5 := v5) (out' := out6) (s0 := wr.heap.size) (s3 := w3.heap.size) (sL := wL.heap.size) (s6 := (w5.alloc (.cells #[.slice AL N cL] 32)).heap.size) (x := (AL, N, cL)) haway (fun k hk hp b off he => by
                       obtain ⟨b', off', he', hlt', -⟩ := (hfit k hk).2.2.2 hp
                       rw [he] at he'
                       injection he' with he'
                       injection he' with he1
                       omega) hAL (fun gg h => (hvv gg h).2) (fun gg h => (hvo gg h).2) hv5 hx6 hsz3 (by omega) hszL (by simp; omega)
                     have hdis6 : ∀ b, v5.ownBlock = some b → out6.ownBlock ≠ some b := fun b h5 h6 => by
                       rcases hx6 with hx | hx
                       · rw [hx] at h6
                         rcases hv5 b h5 with h7 | h7
                         · exact hdis b h7 h6
                         · have := (hvo _ h6).2; omega
                       · rw [hx] at h6
                         injection h6 with h6
                         have := (hw5.own.lt b h5).2
                         simp at h6; omega
                     have f26 := (hkA.cell (p := ⟨w.heap.size, 2, none⟩) (by show w.heap.size < _; omega) (fun h => by have := (hvo w.heap.size h).1; omega)).trans f25
                     have f36 := (hkA.cell (p := ⟨w.heap.size, 3, none⟩) (by show w.heap.size < _; omega) (fun h => by have := (hvo w.heap.size h).1; omega)).trans f35
                     have hb6' : Below w.heap.size w w6 := hb5.trans (hkA.below hb5.size (fun i hi => by have := (hvo _ hi).1; omega))
                     rw [ofF_more] at ho6)
        go_roundg (n - (j + 1))
        case rel => exact ⟨j + 1, v5, _, by omega, rfl, by go_num, hw6, ho6, hfit6, haway6, hdis6, f26, f36, hb6'⟩
        case measure => omega
      · rw [if_neg hRp, List.append_nil] at HLk
        have hoL := ho4'
        have hbL := hb34
        obtain ⟨AL, cL, rfl, rL⟩ := hoL.rd iSized (by simp; omega)
        go_wp2_with fail
        have hlen : (List.replicate Q ms).length = Q := by simp
        obtain ⟨Lj, hLj⟩ : ∃ Lj, Lj = List.replicate Q ms := ⟨_, rfl⟩
        have HLj := Lib.hid (HLk.out.trans hLj.symm)
        rw [hlen, ← hLj] at rL hoL
        clear hLj hlen
        obtain ⟨N, hN⟩ : ∃ N, Q = N := ⟨_, rfl⟩
        rw [hN] at rL hoL ⊢
        clear hN
        have hwL := hw3.below hbL
        refine (Hcl.out v w4 hwL).mono ?_
        rintro e w5 ⟨rfl, v5, hw5, hk5, hv5⟩
        have hszL := hbL.size
        have hsz5 := hk5.size
        have hvo := fun gg (hgg : u7.ownBlock = some gg) => ho.lt gg hgg
        have hvv := fun gg (hgg : v.ownBlock = some gg) => hw.own.lt gg hgg
        have ho3 := ho.keptS hk03 (fun gg hgg h => by have := (hvo gg hgg).1; omega)
        have hoW := ho3.below hbL
        have ho5 := hoW.keptS hk5 (fun gg hgg h => by
          rcases h with h | h | h
          · have := (hvo gg hgg).1; omega
          · have := (hvo gg hgg).1; omega
          · exact hdis gg h hgg)
        have hfit3 := hfit.keptS hk03 (haway.mono (fun b hb => Or.inl (by omega)))
        have hfit5 := (hfit3.below hbL).keptS hk5 (haway.mono (fun b hb => by
          rcases hb with hb | hb | hb
          · exact Or.inl (by omega)
          · exact Or.inl (by omega)
          · exact Or.inr (Or.inl hb)))
        have hAL : 0 < N → ∀ b off, AL = some ⟨b, off, none⟩ → w3.heap.size ≤ b ∧ b < w4.heap.size := fun hp b off he => by
          obtain ⟨b', off', he', hlt', -⟩ := rL.2.2.2 hp
          rw [he] at he'
          injection he' with he'
          injection he' with he1
          exact ⟨(hoL.lt b (by rw [he]; rfl)).1, by omega⟩
        have r5 := rL.keptS hk5 (Nat.le_refl _) hsz5 (fun hp b off he hS => by
          have := (hAL hp b off he).1
          rcases hS with h | h | h
          · omega
          · omega
          · have := (hvv b h).2; omega)
        have hnS : ¬ (w.heap.size = H + 1 ∨ w.heap.size = H + 2 ∨ v.ownBlock = some w.heap.size) := fun hS => by
          rcases hS with h | h | h
          · omega
          · omega
          · have := (hvv _ h).1; omega
        have f25 := (hk5.cell (p := ⟨w.heap.size, 2, none⟩) (by show w.heap.size < _; omega) (hnS)).trans ((hbL.cell (p := ⟨w.heap.size, 2, none⟩) hp3).trans f2)
        have f35 := (hk5.cell (p := ⟨w.heap.size, 3, none⟩) (by show w.heap.size < _; omega) (hnS)).trans ((hbL.cell (p := ⟨w.heap.size, 3, none⟩) hp3).trans f3)
        have hb3 : Below w.heap.size w w3 := hb.trans (hk03.below hb.size (fun i hi => by omega))
        have hbW : Below w.heap.size w w4 := hb3.trans (hbL.mono hb3.size)
        have hb5 : Below w.heap.size w w5 := hbW.trans (hk5.below hbW.size (fun i hi => by rcases hi with h | h | h; omega; omega; have := (hvv _ h).1; omega))
        go_wp2_with (at_builtin
                     refine wpList_app _ qSized rfl _ _ 24 rfl (H + 3) 32 j0 _ 24 Try.underlying24 hj0 jz0 jz1 jz2 rfl _ (ofF j raw) rfl (ho5.alloc _) _ _ 1 1 [(AL, N, cL)] rfl (Rd.new1 qSized w5 (AL, N, cL) #[.slice AL N cL] rfl 32) (by simp only [maxLen, ofF_len]; omega) (by simp only [ofF_len]; omega) (by simp; omega) ?_
                     intro out6 w6 ho6 hg6 hx6
                     have hkA : Kept (fun b => u7.ownBlock = some b) w5 w6 := ((Kept.refl (fun b => u7.ownBlock = some b) w5).alloc _).trans (grown_kept hg6) (fun _ _ h => h)
                     have hsz6 := hkA.size
                     have hw6 := hw5.keptS hkA (fun h => by have := (hvo _ h).1; omega) (fun h => by have := (hvo _ h).1; omega) (fun h => by have := (hvo _ h).1; omega) (fun gg hgg h => by
                       rcases hv5 gg hgg with h5 | h5
                       · exact hdis gg h5 h
                       · have := (hvo _ h).2; omega)
                     have hfit6 := (hfit5.keptS hkA (haway.mono (fun b hb => Or.inr (Or.inr hb)))).more (x := (AL, N, cL)) (L := fun i => partsL ms (g i)) (by
                       show RdI w6 w6.heap.size AL N cL (partsL ms (g j))
                       rw [HLj.out]
                       exact r5.keptS hkA (Nat.le_refl _) hsz6 (fun hp b off he h => by have := (hAL hp b off he).1; have := (hvo _ h).2; omega))
                     have haway6 := away_next (v5 := v5) (out' := out6) (s0 := wr.heap.size) (s3 := w3.heap.size) (sL := w4.heap.size) (s6 := (w5.alloc (.cells #[.slice AL N cL] 32)).heap.size) (x := (AL, N, cL)) haway (fun k hk hp b off he => by
                       obtain ⟨b', off', he', hlt', -⟩ := (hfit k hk).2.2.2 hp
                       rw [he] at he'
                       injection he' with he'
                       injection he' with he1
                       omega) hAL (fun gg h => (hvv gg h).2) (fun gg h => (hvo gg h).2) hv5 hx6 hsz3 (by omega) hszL (by simp; omega)
                     have hdis6 : ∀ b, v5.ownBlock = some b → out6.ownBlock ≠ some b := fun b h5 h6 => by
                       rcases hx6 with hx | hx
                       · rw [hx] at h6
                         rcases hv5 b h5 with h7 | h7
                         · exact hdis b h7 h6
                         · have := (hvo _ h6).2; omega
                       · rw [hx] at h6
                         injection h6 with h6
                         have := (hw5.own.lt b h5).2
                         simp at h6; omega
                     have f26 := (hkA.cell (p := ⟨w.heap.size, 2, none⟩) (by show w.heap.size < _; omega) (fun h => by have := (hvo w.heap.size h).1; omega)).trans f25
                     have f36 := (hkA.cell (p := ⟨w.heap.size, 3, none⟩) (by show w.heap.size < _; omega) (fun h => by have := (hvo w.heap.size h).1; omega)).trans f35
                     have hb6' : Below w.heap.size w w6 := hb5.trans (hkA.below hb5.size (fun i hi => by have := (hvo _ hi).1; omega))
                     rw [ofF_more] at ho6)
        go_roundg (n - (j + 1))
        case rel => exact ⟨j + 1, v5, _, by omega, rfl, by go_num, hw6, ho6, hfit6, haway6, hdis6, f26, f36, hb6'⟩
        case measure => omega
    · have e : j = n := by omega
      subst e
      obtain ⟨A, cap, rfl, rd⟩ := ho.rd qSized (by rw [ofF_len]; omega)
      rw [ofF_len] at rd ⊢
      go_wp2
      go_ret
      exact ⟨A, cap, rfl, hfit.rd rd, hb⟩
end Go.Proofs.Ythhmdljfklbbeaa
