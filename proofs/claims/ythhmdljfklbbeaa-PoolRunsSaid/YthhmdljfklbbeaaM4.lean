/- Walk over the statement PoolRuns. Conditions stand in the theorem. -/
import Derived.Test.YthhmdljfklbbeaaPt
import Derived.Deep.RegionHeld3
namespace Go.Proofs.Ythhmdljfklbbeaa
open Go.RowKit
set_option linter.unusedVariables false

set_option maxRecDepth 100000 in
set_option maxHeartbeats 4000000 in
theorem poolRuns_walk (p : Pl) (A : Option Addr) (n cap : Nat) (cl : List (List Int)) (t : Int) (w : World) (h0 : True) (rl : RdII w w.heap.size A n cap cl) (wf : ∀ x ∈ cl, ∀ y ∈ x, -9223372036854775808 ≤ y ∧ y ≤ 9223372036854775807) (h1 : 0 ≤ t ∧ t ≤ 255) :
    Calls Try.prog 6 #[plV p, .slice A n cap, .int .u8 t] w fun e w' => e = .returned (.bool true) ∧ Below w.heap.size w w' := by
  have hcaps := rl.caps
  have hlen := rl.len
  have Hfew := Lib.hid (fun w hl => few_len2 p A n cap cl w hl)
  have Hright := Lib.hid (fun w => right_any p w)
  have hcx : ∀ w1, Below (w.alloc (.cells (plC p) 23)).heap.size (w.alloc (.cells (plC p) 23)) w1 → (∀ (j : Nat) u, (plC p)[j]? = some u → w1.cell? ⟨w.heap.size, j, none⟩ = some u) ∧ Below w.heap.size w w1 ∧ w.heap.size < w1.heap.size := fun w1 hb => ⟨fun j u hu => (hb.cell (p := ⟨w.heap.size, j, none⟩) (by simp)).trans (new_cell rfl hu), ((Below.refl w.heap.size w).alloc (Nat.le_refl _) _).trans (hb.mono (by simp)), by have := hb.size; simp at this; omega⟩
  have Hcx := Lib.hid hcx
  clear hcx
  cases hr : rightF p
  · have Hr := Lib.hid hr; clear hr
    obtain ⟨mo, pr, ms, co, wi, to⟩ := p
    simp only [plV, plC] at *
    go_enter Try.func6, Try.ntmps6
    go_wp2_with fail
    refine (small_any _).mono ?_
    rintro e w1 ⟨rfl, hb1⟩
    obtain ⟨hc1, hb01, hl1⟩ := Hcx.out _ hb1
    have c0 := hc1 0 _ rfl; have c1 := hc1 1 _ rfl; have c2 := hc1 2 _ rfl; have c3 := hc1 3 _ rfl; have c4 := hc1 4 _ rfl; have c5 := hc1 5 _ rfl
    clear hc1 hb1
    go_wp2_with fail
    refine (Hfew.out _ (rl.up ii_lasts hb01)).mono ?_
    rintro e w2 ⟨b, rfl, -, hb2⟩
    have hb02 := hb01.trans (hb2.mono hb01.size)
    have d0 := (hb2.cell (p := ⟨w.heap.size, 0, none⟩) hl1).trans c0
    have d1 := (hb2.cell (p := ⟨w.heap.size, 1, none⟩) hl1).trans c1
    have d2 := (hb2.cell (p := ⟨w.heap.size, 2, none⟩) hl1).trans c2
    have d3 := (hb2.cell (p := ⟨w.heap.size, 3, none⟩) hl1).trans c3
    have d4 := (hb2.cell (p := ⟨w.heap.size, 4, none⟩) hl1).trans c4
    have d5 := (hb2.cell (p := ⟨w.heap.size, 5, none⟩) hl1).trans c5
    cases b
    · go_wp2
      go_ret
      exact ⟨rfl, hb02⟩
    · go_wp2_with fail
      refine (Hright.out _).mono ?_
      rw [Hr.out]
      rintro e w3 ⟨rfl, hb3⟩
      go_wp2
      go_ret
      exact ⟨rfl, hb02.trans (hb3.mono hb02.size)⟩
  have Hr := Lib.hid hr
  obtain ⟨⟨p11, p12⟩, ⟨p21, p22⟩, ⟨p31, p32⟩, ⟨p41, p42⟩, ⟨p51, p52⟩, ⟨p61, p62⟩⟩ := rightF_iff hr
  have Hrs : RowKit.Hid (∀ (A' : Option Addr) (n' cap' : Nat) (l : List Int) w, RdI w w.heap.size A' n' cap' l → Calls Try.prog 23 #[plV p, .slice A' n' cap'] w fun e w' => (∃ s, e = .returned (.int .i64 s) ∧ decide (0 ≤ s) = okP p l) ∧ Below w.heap.size w w') := Lib.hid (fun A' n' cap' l w h => (rsum_any p A' n' cap' l w hr h).mono fun e w' ⟨he, hb⟩ => ⟨⟨_, he, sumR_ok hr⟩, hb⟩)
  have Hls : RowKit.Hid (n ≤ 16 → p.co ≤ 12 → (∀ a, a < n → okP p (clAt cl a) = true) → ∀ (i m : Nat) (A' : Option Addr) (cap' : Nat) w, m ≤ n - i → RdII w w.heap.size A' (n - i) cap' (cl.drop i) → Calls Try.prog 22 #[.slice A' (n - i) cap', .int .i64 (m : Int)] w fun e w' => e = .returned (.int .i64 (wsum cl i m)) ∧ w = w') := Lib.hid (fun hn hco hok i m A' cap' w hm h => by
    have := lawsum_any A' (n - i) cap' (cl.drop i) m w h (by omega) (few_bd hr hco hn hok i m)
    rw [sI_drop, Nat.min_eq_left hm] at this
    exact this)
  have Hwa : RowKit.Hid (admN p cl n = true → ∀ a r, a + r ≤ n → r ≤ p.wi.toNat → wsum cl a r ≤ p.to) := Lib.hid (fun h a r h1 h2 => adm_win hr h h1 h2)
  have Haw : RowKit.Hid ((∀ a, a < n → okP p (clAt cl a) = true) → (∀ a r, a < n → a + r ≤ n → r ≤ p.wi.toNat → wsum cl a r ≤ p.to) → admN p cl n = true) := Lib.hid (fun h h2 => win_adm hr h h2 n (Nat.le_refl _))
  have Hok : RowKit.Hid (∀ a, a < n → okP p (clAt cl a) = false → admN p cl n = false) := Lib.hid (fun a ha h => by
    cases hA : admN p cl n
    · rfl
    · rw [(admN_at hA ha).1] at h; cases h)
  have Hadm : RowKit.Hid (n ≤ 16 → ∀ w, RdII w w.heap.size A n cap cl → Calls Try.prog 20 #[plV p, .slice A n cap] w fun e w' => e = .returned (.bool (admN p cl n)) ∧ Below w.heap.size w w') := Lib.hid (fun hn w h => by
    have h2 := admits_any p A n cap cl w h
    have e : admF p cl = admN p cl n := by simp [admF, hr, hlen]; omega
    rw [e] at h2; exact h2)
  have Hrun0 : RowKit.Hid (n ≤ 16 → admN p cl n = false → ∀ w, RdII w w.heap.size A n cap cl → Calls Try.prog 14 #[plV p, .slice A n cap] w (RunPost w [] 30)) := Lib.hid (fun hn ha w h => by
    have h2 := run_any p A n cap cl w h
    have e1 : runE p cl = 30 := by simp [runE, hr, hlen, ha]; omega
    have e2 : runL p cl = [] := by simp [runL, admF, hlen, ha]
    rw [e1, e2] at h2; exact h2)
  have HrunK : RowKit.Hid (n ≤ 16 → admN p cl n = true → ∀ (k : Nat) (A' : Option Addr) (cap' : Nat) w, k ≤ n → RdII w w.heap.size A' k cap' (cl.take k) → Calls Try.prog 14 #[plV p, .slice A' k cap'] w (RunPost w (ofF k (fun i => mny p cl (i + 1))) 0)) := Lib.hid (fun hn ha k A' cap' w hk h => by
    have h2 := run_any p A' k cap' (cl.take k) w h
    have el : (cl.take k).length = k := h.len
    have ea : admN p (cl.take k) k = true := by rw [adm_take p cl k k (Nat.le_refl _)]; exact admN_le ha hk
    have e1 : runE p (cl.take k) = 0 := by
      unfold runE
      rw [el, ea, hr, decide_eq_true (show k ≤ 1000 by omega)]; rfl
    have e2 : runL p (cl.take k) = ofF k (fun i => mny p cl (i + 1)) := by
      unfold runL
      have : admF p (cl.take k) = true := by unfold admF; rw [el, ea, hr, decide_eq_true (show k ≤ 1000 by omega)]; rfl
      rw [if_pos this, el]
      exact ofF_congr fun i hi => mny_take p cl k (i + 1) (by omega)
    rw [e1, e2] at h2; exact h2)
  have Hmb : RowKit.Hid (admN p cl n = true → ∀ i, i ≤ n → -((i : Int) * 1000000000000000) ≤ mny p cl i ∧ mny p cl i ≤ ((i : Int) + 1) * 1000000000000000) := Lib.hid (fun h i hi => mny_bd hr h i hi)
  have Hmny : RowKit.Hid (∀ i : Nat, mny p cl (i + 1) = p.mo + ((i : Int) + 1) * p.pr - wsum cl 0 (i + 1)) := Lib.hid (fun i => by
    rw [mny_eq, Int.natCast_succ, wsum, sumN_congr (f := fun j => sI cl (0 + j)) (g := sI cl) (i + 1) (fun j _ => by rw [Nat.zero_add])])
  obtain ⟨t1', t2'⟩ := h1
  clear hr
  obtain ⟨mo, pr, ms, co, wi, to⟩ := p
  simp only [plV, plC] at *
  obtain ⟨W, rfl⟩ := Int.eq_ofNat_of_zero_le (show 0 ≤ wi by omega)
  simp only [Int.toNat_natCast] at *
  go_enter Try.func6, Try.ntmps6
  go_wp2_with fail
  refine (small_any _).mono ?_
  rintro e w1 ⟨rfl, hb1⟩
  obtain ⟨hc1, hb01, hl1⟩ := Hcx.out _ hb1
  have Hc1 := Lib.hid hc1
  have c0 := hc1 0 _ rfl; have c1 := hc1 1 _ rfl; have c2 := hc1 2 _ rfl; have c3 := hc1 3 _ rfl; have c4 := hc1 4 _ rfl; have c5 := hc1 5 _ rfl
  clear hc1 hb1
  go_wp2_with fail
  refine (Hfew.out _ (rl.up ii_lasts hb01)).mono ?_
  rintro e w2 ⟨b, rfl, hn16, hb2⟩
  have hb02 := hb01.trans (hb2.mono hb01.size)
  clear c0 c1 c2 c3 c4 c5
  have hc2 : ∀ (j : Nat) u, (plC ⟨mo, pr, ms, co, (W : Int), to⟩)[j]? = some u → w2.cell? ⟨w.heap.size, j, none⟩ = some u := fun j u hu => (hb2.cell (p := ⟨w.heap.size, j, none⟩) hl1).trans (Hc1.out j u hu)
  have hl2 := Nat.lt_of_lt_of_le hl1 hb2.size
  have Hc2 := Lib.hid hc2
  have c0 := hc2 0 _ rfl; have c1 := hc2 1 _ rfl; have c2 := hc2 2 _ rfl; have c3 := hc2 3 _ rfl; have c4 := hc2 4 _ rfl; have c5 := hc2 5 _ rfl
  clear hb2 hl1 hb01 Hc1 hc2
  cases b
  · go_wp2
    go_ret
    exact ⟨rfl, hb02⟩
  obtain ⟨hn, hco⟩ := hn16 rfl
  have hco12 : co ≤ 12 := by omega
  clear hn16 hco
  go_wp2_with fail
  refine (Hright.out _).mono ?_
  rw [Hr.out]
  rintro e w3 ⟨rfl, hb3⟩
  have hb03 := hb02.trans (hb3.mono hb02.size)
  have hl3 := Nat.lt_of_lt_of_le hl2 hb3.size
  have Hce : RowKit.Hid (∀ wr, Below w3.heap.size w3 wr → ∀ (j : Nat) u, (plC ⟨mo, pr, ms, co, (W : Int), to⟩)[j]? = some u → wr.cell? ⟨w.heap.size, j, none⟩ = some u) := Lib.hid (fun wr hb j u hu => (hb.cell (p := ⟨w.heap.size, j, none⟩) hl3).trans ((hb3.cell (p := ⟨w.heap.size, j, none⟩) hl2).trans (Hc2.out j u hu)))
  clear c0 c1 c2 c3 c4 c5 hb3 hb02 Hc2 hl2
  have rl3 := rl.up ii_lasts hb03
  have Hls2 := Lib.hid (Hls.out hn hco12)
  go_wp2
  go_loopg [8, 9] n (fun gk f i wr => ∃ (j : Nat) (fb : Bool), j ≤ n ∧ gk = n - j ∧ i = .int .i64 j ∧ f = .bool fb ∧ (fb = true → ∀ a, a < j → okP ⟨mo, pr, ms, co, (W : Int), to⟩ (clAt cl a) = true) ∧ (fb = false → admN ⟨mo, pr, ms, co, (W : Int), to⟩ cl n = false) ∧ Below w3.heap.size w3 wr)
  case atStart => exact ⟨0, true, Nat.zero_le _, rfl, rfl, rfl, (fun _ a h => absurd h (by omega)), (fun h => by cases h), Below.refl _ _⟩
  case round =>
    obtain ⟨j, fb, hj, rfl, rfl, rfl, hf1, hf2, hb⟩ := hrel
    have Hf1 := Lib.hid hf1; have Hf2 := Lib.hid hf2
    clear hf1 hf2
    by_cases hlt : j < n
    · obtain ⟨b, off, A', n', cap', l, rfl, hbB, hx, k0, hl'⟩ := (rl3.up ii_lasts hb).atII hlt
      have hji : (j : Int) < (n : Int) := by omega
      have hj0 : (0 : Int) ≤ (j : Int) := by omega
      have hle := clAt_eq hx
      have hc := Hce.out wr hb
      have c0 := hc 0 _ rfl; have c1 := hc 1 _ rfl; have c2 := hc 2 _ rfl; have c3 := hc 3 _ rfl; have c4 := hc 4 _ rfl; have c5 := hc 5 _ rfl
      simp only [plC] at c0 c1 c2 c3 c4 c5
      have Hle := Lib.hid hle
      have hlr : w.heap.size < wr.heap.size := Nat.lt_of_lt_of_le hl3 hb.size
      clear hc hx hle
      go_wp2
      go_region_held3 (fun w' => (w'.cell? ⟨w.heap.size, 0, none⟩ = some (.int .i64 mo) ∧ w'.cell? ⟨w.heap.size, 1, none⟩ = some (.int .i64 pr) ∧ w'.cell? ⟨w.heap.size, 2, none⟩ = some (.int .i64 ms) ∧ w'.cell? ⟨w.heap.size, 3, none⟩ = some (.int .i64 co) ∧ w'.cell? ⟨w.heap.size, 4, none⟩ = some (.int .i64 (W : Int)) ∧ w'.cell? ⟨w.heap.size, 5, none⟩ = some (.int .i64 to)) ∧ w'.cell? ⟨b, off + j, none⟩ = some (.slice A' n' cap'))
        (first | exact ⟨⟨c0, c1, c2, c3, c4, c5⟩, k0⟩ | exact ⟨⟨(hk.cell hlr).trans c0, (hk.cell hlr).trans c1, (hk.cell hlr).trans c2, (hk.cell hlr).trans c3, (hk.cell hlr).trans c4, (hk.cell hlr).trans c5⟩, (hk.cell hbB).trans k0⟩ | go_keep)
        (first
          | (go_at_call 23
             refine (Hrs.out A' n' cap' l wr.drew (Rd.keep (flat_lasts _) hl' (Nat.le_refl _) (fun _ _ => rfl))).mono ?_
             rintro e w' ⟨⟨s, rfl, hs⟩, hbq⟩
             have hb' := hb.drew.trans (hbq.mono hb.size)
             have hk := (Below.refl wr.heap.size wr).drew.trans hbq
             clear hbq))
      clear hk
      cases hok : okP ⟨mo, pr, ms, co, (W : Int), to⟩ l
      · have hbad := Hok.out j hlt (by rw [Hle.out]; exact hok)
        rw [hok] at hs
        have Hbad := Lib.hid hbad
        clear hok hbad c0 c1 c2 c3 c4 c5 k0 hl'
        cases fb
        all_goals
          go_wp2
          go_roundg (n - (j + 1))
          case rel => exact ⟨j + 1, false, by omega, rfl, by go_num, by simp, (fun h => by cases h), (fun _ => Hbad.out), hb'⟩
          case measure => omega
      · rw [hok] at hs
        have Hk : RowKit.Hid (fb = true → ∀ a, a < j + 1 → okP ⟨mo, pr, ms, co, (W : Int), to⟩ (clAt cl a) = true) := Lib.hid (fun h a ha => by
          by_cases e : a = j
          · subst e; rw [Hle.out]; exact hok
          · exact Hf1.out h a (by omega))
        clear hok c0 c1 c2 c3 c4 c5 k0 hl'
        cases fb
        · go_wp2
          go_roundg (n - (j + 1))
          case rel => exact ⟨j + 1, false, by omega, rfl, by go_num, by simp, Hk.out, (fun _ => Hf2.out (by trivial)), hb'⟩
          case measure => omega
        · go_wp2
          go_roundg (n - (j + 1))
          case rel => exact ⟨j + 1, true, by omega, rfl, by go_num, by simp, (fun _ => Hk.out (by trivial)), (fun h => by cases h), hb'⟩
          case measure => omega
    · have e : j = n := by omega
      subst e
      have F0 : Fine2 ⟨mo, pr, ms, co, (W : Int), to⟩ cl j 0 fb := Fine2.start Hf1.out Hf2.out
      clear Hf1 Hf2
      go_wp2
      go_loopg [8, 11] j (fun gk f i wr => ∃ (a : Nat) (fb : Bool), a ≤ j ∧ gk = j - a ∧ i = .int .i64 a ∧ f = .bool fb ∧ Fine2 ⟨mo, pr, ms, co, (W : Int), to⟩ cl j a fb ∧ Below w3.heap.size w3 wr)
      case atStart => exact ⟨0, fb, Nat.zero_le _, rfl, rfl, rfl, F0, hb⟩
      case round =>
        clear F0 hb
        obtain ⟨a, fb, ha, rfl, rfl, rfl, F2, hb⟩ := hrel
        by_cases hlt2 : a < j ∧ fb = true
        · obtain ⟨hlt2, rfl⟩ := hlt2
          have hda : decide (a < j) = true := by simpa using hlt2
          have hai : (a : Int) < (j : Int) := by omega
          have ha0 : (0 : Int) ≤ (a : Int) := by omega
          have hwa1 : IntKind.i64.wrap ((a : Int) + 1) = (a : Int) + 1 := IntWalk.i64_in _ (by omega)
          have F3 := Fine3.start (p := ⟨mo, pr, ms, co, (W : Int), to⟩) p31 F2
          clear F2
          go_wp2
          go_loopg [8, 12] (j + 1 - (a + 1)) (fun gk f i wr => ∃ (k : Nat) (fb : Bool), a < k ∧ k ≤ j + 1 ∧ gk = j + 1 - k ∧ i = .int .i64 k ∧ f = .bool fb ∧ Fine3 ⟨mo, pr, ms, co, (W : Int), to⟩ cl j a k fb ∧ Below w3.heap.size w3 wr)
          case atStart => exact ⟨a + 1, true, by omega, by omega, rfl, by go_num, rfl, F3, hb⟩
          case round =>
            clear F3 hb
            obtain ⟨k, fb, hak, hk, rfl, rfl, rfl, F3, hb⟩ := hrel
            have hk0 : (0 : Int) ≤ (k : Int) := by omega
            have hc := Hce.out wr hb
            have c4 := hc 4 _ rfl; have c5 := hc 5 _ rfl
            simp only [plC] at c4 c5
            clear hc
            have hwaW : IntKind.i64.wrap ((a : Int) + (W : Int)) = (a : Int) + (W : Int) := IntWalk.i64_in _ (by omega)
            have hwk1 : IntKind.i64.wrap ((k : Int) + 1) = (k : Int) + 1 := IntWalk.i64_in _ (by omega)
            by_cases hin : k ≤ j ∧ k ≤ a + W
            · have hdk : decide (k ≤ j) = true := by simpa using hin.1
              have hdk2 : decide ((k : Int) ≤ (a : Int) + (W : Int)) = true := by simp; omega
              cases fb
              · have F4 : Fine3 ⟨mo, pr, ms, co, (W : Int), to⟩ cl j a (k + 1) false := Fine3.no F3.1
                go_wp2_with fail
                go_quiet (fail)
                go_wp2
                go_roundg (j + 1 - (k + 1))
                case rel => exact ⟨k + 1, false, by omega, by omega, rfl, by go_num, by simp, F4, below_drewN hb _⟩
                case measure => omega
              · have rlr := rl3.up ii_lasts hb
                obtain ⟨b, off, A', n', cap', l, rfl, hbB, hx, k0, hl'⟩ := rlr.atII hlt2
                have rd := rlr.dropK (i := a) hlt2
                rw [Nat.mul_one] at rd
                have hwka : IntKind.i64.wrap ((k : Int) - (a : Int)) = (k : Int) - (a : Int) := IntWalk.i64_in _ (by omega)
                have hkac : ((k - a : Nat) : Int) = (k : Int) - (a : Int) := by omega
                have hcl := fun r => (Hls2.out F3.1.ok a (k - a) (some ⟨b, off + a, none⟩) (cap - a) (wr.drewN r) (by omega) (Rd.keep ii_lasts rd (Nat.le_refl _) (fun _ _ => rfl))).mono fun e w'' ⟨he, h⟩ => (⟨he, r, h.symm⟩ : e = Ending.returned (.int .i64 (wsum cl a (k - a))) ∧ ∃ s, w'' = wr.drewN s)
                rw [hkac] at hcl
                have Hcl := Lib.hid hcl
                have hac : (a : Int) ≤ (j : Int) := by omega
                have hac2 : (j : Int) ≤ (cap : Int) := by omega
                have HF : RowKit.Hid (Fine3 ⟨mo, pr, ms, co, (W : Int), to⟩ cl j a (k + 1) (decide (wsum cl a (k - a) ≤ to))) := Lib.hid (by
                  by_cases h : wsum cl a (k - a) ≤ to
                  · rw [decide_eq_true h]; exact F3.step hak h
                  · rw [decide_eq_false h]; exact Fine3.bad Hr.out hak hin.1 (by simp; omega) h)
                clear hcl hx k0 hl' rd rlr F3 hkac
                generalize wsum cl a (k - a) = S at *
                go_wp2_with fail
                go_quiet ((go_at_call 22; exact Hcl.out _))
                go_wp2
                go_roundg (j + 1 - (k + 1))
                case rel => exact ⟨k + 1, _, by omega, by omega, rfl, by go_num, rfl, HF.out, below_drewN hb _⟩
                case measure => omega
            · have F4 := F3.fin (by simp only [Int.toNat_natCast]; omega) hak
              clear F3
              by_cases hkj : k ≤ j
              · have hdk : decide (k ≤ j) = true := by simpa using hkj
                have hdk2 : decide ((k : Int) ≤ (a : Int) + (W : Int)) = false := by simp; omega
                go_wp2
                go_roundg (j - (a + 1))
                case rel => exact ⟨a + 1, fb, by omega, rfl, by go_num, rfl, F4, hb⟩
                case measure => omega
              · have hdk : decide (k ≤ j) = false := by simpa using hkj
                go_wp2
                go_roundg (j - (a + 1))
                case rel => exact ⟨a + 1, fb, by omega, rfl, by go_num, rfl, F4, hb⟩
                case measure => omega
        · have hA := F2.fin Hr.out (fun h => by
            rcases Nat.lt_or_ge a j with h1 | h1
            · exact absurd ⟨h1, h⟩ hlt2
            · exact h1)
          have HF2 := Lib.hid F2
          clear F2
          cases fb
          · have Hr0 := Lib.hid (Hrun0.out hn hA)
            have Ha0 := Hadm.out hn
            rw [hA] at Ha0
            have Had0 := Lib.hid Ha0
            clear Ha0 hA hlt2
            by_cases haj : a < j
            all_goals
              have hda : decide (a < j) = decide (a < j) := rfl
              first
                | rw [decide_eq_true haj] at hda
                | rw [decide_eq_false haj] at hda
              have hc := Hce.out wr hb
              have c0 := hc 0 _ rfl; have c1 := hc 1 _ rfl; have c2 := hc 2 _ rfl; have c3 := hc 3 _ rfl; have c4 := hc 4 _ rfl; have c5 := hc 5 _ rfl
              simp only [plC] at c0 c1 c2 c3 c4 c5
              clear hc
              go_wp2_with fail
              refine (Hr0.out _ (rl3.up ii_lasts hb)).mono ?_
              rintro e w5 ⟨v5, rfl, ho5, hb5⟩
              obtain ⟨A5, cc5, rfl, r5⟩ := ho5.rd iSized (by simp)
              have hb35 := hb.trans (hb5.mono hb.size)
              have hc := Hce.out w5 hb35
              clear c0 c1 c2 c3 c4 c5 ho5
              have c0 := hc 0 _ rfl; have c1 := hc 1 _ rfl; have c2 := hc 2 _ rfl; have c3 := hc 3 _ rfl; have c4 := hc 4 _ rfl; have c5 := hc 5 _ rfl
              simp only [plC] at c0 c1 c2 c3 c4 c5
              clear hc
              go_wp2_with fail
              refine (Had0.out _ (rl3.up ii_lasts hb35)).mono ?_
              rintro e w6 ⟨rfl, hb6⟩
              have hbE := hb03.trans ((hb35.trans (hb6.mono hb35.size)).mono hb03.size)
              go_wp2
              go_ret
              exact ⟨rfl, hbE⟩
          · have haj : a = j := by
              rcases Nat.lt_or_ge a j with h1 | h1
              · exact absurd ⟨h1, rfl⟩ hlt2
              · omega
            subst haj
            have Ha0 := Hadm.out hn
            rw [hA] at Ha0
            have Had0 := Lib.hid Ha0
            have Hrk := Lib.hid (HrunK.out hn hA)
            have HmbT := Lib.hid (Hmb.out hA)
            have htk : cl.take a = cl := by rw [← hlen]; exact List.take_length
            have Hr1 : RowKit.Hid (∀ w, RdII w w.heap.size A a cap cl → Calls Try.prog 14 #[.agg #[.int .i64 mo, .int .i64 pr, .int .i64 ms, .int .i64 co, .int .i64 (W : Int), .int .i64 to], .slice A a cap] w (RunPost w (ofF a (fun i => mny ⟨mo, pr, ms, co, (W : Int), to⟩ cl (i + 1))) 0)) := Lib.hid (fun w h => Hrk.out a A cap w (Nat.le_refl _) (by rw [htk]; exact h))
            clear Ha0 hA hlt2 htk
            have hda : decide (a < a) = false := by simp
            have hc := Hce.out wr hb
            have c0 := hc 0 _ rfl; have c1 := hc 1 _ rfl; have c2 := hc 2 _ rfl; have c3 := hc 3 _ rfl; have c4 := hc 4 _ rfl; have c5 := hc 5 _ rfl
            simp only [plC] at c0 c1 c2 c3 c4 c5
            clear hc
            go_wp2_with fail
            refine (Hr1.out _ (rl3.up ii_lasts hb)).mono ?_
            rintro e w5 ⟨v5, rfl, ho5, hb5⟩
            obtain ⟨A5, cc5, rfl, r5⟩ := ho5.rd iSized (by rw [ofF_len]; omega)
            rw [ofF_len] at r5 ⊢
            have hb35 := hb.trans (hb5.mono hb.size)
            have hc := Hce.out w5 hb35
            clear c0 c1 c2 c3 c4 c5 ho5
            have c0 := hc 0 _ rfl; have c1 := hc 1 _ rfl; have c2 := hc 2 _ rfl; have c3 := hc 3 _ rfl; have c4 := hc 4 _ rfl; have c5 := hc 5 _ rfl
            simp only [plC] at c0 c1 c2 c3 c4 c5
            clear hc
            go_wp2_with fail
            refine (Had0.out _ (rl3.up ii_lasts hb35)).mono ?_
            rintro e w6 ⟨rfl, hb6⟩
            have hb36 := hb35.trans (hb6.mono hb35.size)
            have r6 := r5.up (flat_lasts _) hb6
            have hc6 := r6.caps
            clear c0 c1 c2 c3 c4 c5 hb5 r5 hb35 hb6
            have hls3 : ∀ (m : Nat) w, m ≤ a → RdII w w.heap.size A a cap cl → Calls Try.prog 22 #[.slice A a cap, .int .i64 (m : Int)] w fun e w' => e = .returned (.int .i64 (wsum cl 0 m)) ∧ w = w' := fun m w hm h => by
              have h2 := Hls2.out HF2.out.ok 0 m A cap w
              simp only [Nat.sub_zero, List.drop_zero] at h2
              exact h2 hm h
            have Hls3 := Lib.hid hls3
            clear hls3
            go_wp2
            go_loopg [15] a (fun gk i wr => ∃ m : Nat, m ≤ a ∧ gk = a - m ∧ i = .int .i64 m ∧ Below w6.heap.size w6 wr)
            case atStart => exact ⟨0, Nat.zero_le _, rfl, rfl, Below.refl _ _⟩
            case round =>
              clear hb
              obtain ⟨m, hm, rfl, rfl, hb⟩ := hrel
              have hbb := hb36.trans (hb.mono hb36.size)
              have hc := Hce.out wr hbb
              have c0 := hc 0 _ rfl; have c1 := hc 1 _ rfl; have c2 := hc 2 _ rfl; have c3 := hc 3 _ rfl; have c4 := hc 4 _ rfl; have c5 := hc 5 _ rfl
              simp only [plC] at c0 c1 c2 c3 c4 c5
              clear hc
              by_cases hlt : m < a
              · obtain ⟨b, off, x, rfl, hbB, hx, k0⟩ := (r6.below (flat_lasts _) hb (Nat.le_refl _) (Nat.le_refl _)).atI hlt
                obtain ⟨-, ex⟩ := ofF_get_some hx
                rw [Hmny.out] at ex
                have hmb := HmbT.out (m + 1) (by omega)
                rw [Hmny.out] at hmb
                have hmi : (m : Int) < (a : Int) := by omega
                have hm0 : (0 : Int) ≤ (m : Int) := by omega
                have hwm : IntKind.i64.wrap ((m : Int) + 1) = (m : Int) + 1 := IntWalk.i64_in _ (by omega)
                have hcl := fun r => (Hls3.out (m + 1) (wr.drewN r) (by omega) (Rd.keep ii_lasts (rl3.up ii_lasts hbb) (Nat.le_refl _) (fun _ _ => rfl))).mono fun e w'' ⟨he, h⟩ => (⟨he, r, h.symm⟩ : e = Ending.returned (.int .i64 (wsum cl 0 (m + 1))) ∧ ∃ s, w'' = wr.drewN s)
                rw [Int.natCast_succ] at hcl
                have Hcl := Lib.hid hcl
                obtain ⟨q1, q2⟩ := mul_bd2 (a := (m : Int) + 1) (A := 17) (b := pr) (by omega) (by omega) p21 p22
                have hsb := few_bd Hr.out hco12 hn HF2.out.ok 0 a
                clear hcl hx hsb
                obtain ⟨PR, hPR⟩ : ∃ x, ((m : Int) + 1) * pr = x := ⟨_, rfl⟩
                rw [hPR] at ex q1 q2 hmb
                obtain ⟨mb1, mb2⟩ := hmb
                generalize wsum cl 0 (m + 1) = S at *
                have hwPR : IntKind.i64.wrap PR = PR := IntWalk.i64_in _ (by omega)
                have hwMP : IntKind.i64.wrap (mo + PR) = mo + PR := IntWalk.i64_in _ (by omega)
                have hwx : IntKind.i64.wrap (mo + PR - S) = mo + PR - S := IntWalk.i64_in _ (by simp only [Int.natCast_succ] at mb1 mb2; omega)
                subst ex
                have hne : ((mo + PR - S) != (mo + PR - S)) = false := by simp
                go_wp2_with fail
                go_quiet ((go_at_call 22; exact Hcl.out _))
                go_wp2
                go_roundg (a - (m + 1))
                case rel => exact ⟨m + 1, by omega, rfl, by go_num, below_drewN hb _⟩
                case measure => omega
              · have e : m = a := by omega
                subst e
                obtain ⟨k, hk, hkm⟩ : ∃ k : Nat, t.tmod ((m : Int) + 1) = (k : Int) ∧ k ≤ m := ⟨(t % ((m : Int) + 1)).toNat, by
                  rw [Int.tmod_eq_emod_of_nonneg t1']
                  have := Int.emod_nonneg t (show (m : Int) + 1 ≠ 0 by omega)
                  omega, by
                  have := Int.emod_lt_of_pos t (show 0 < (m : Int) + 1 by omega)
                  omega⟩
                have hwt : IntKind.i64.wrap t = t := IntWalk.i64_in _ (by omega)
                have hwm : IntKind.i64.wrap ((m : Int) + 1) = (m : Int) + 1 := IntWalk.i64_in _ (by omega)
                have hm0 : ((m : Int) + 1 == 0) = false := by simp; omega
                have hm0' : ¬ (m : Int) + 1 = 0 := by omega
                have hwk : IntKind.i64.wrap (k : Int) = (k : Int) := IntWalk.i64_in _ (by omega)
                have hk0 : (0 : Int) ≤ (k : Int) := by omega
                have hk1 : (k : Int) ≤ (cap : Int) := by omega
                have hk2 : (k : Int) ≤ (cc5 : Int) := by omega
                have rlk := (rl3.up ii_lasts hbb).take (k := k) hkm
                have rmk := (r6.up (flat_lasts _) hb).take (k := k) hkm
                have hlr : w.heap.size < wr.heap.size := Nat.lt_of_lt_of_le hl3 hbb.size
                have htk : (ofF m fun i => mny ⟨mo, pr, ms, co, (W : Int), to⟩ cl (i + 1)).take k = ofF k fun i => mny ⟨mo, pr, ms, co, (W : Int), to⟩ cl (i + 1) := by
                  apply List.ext_getElem?
                  intro j
                  by_cases hj : j < k
                  · rw [List.getElem?_take_of_lt hj, ofF_get (by omega), ofF_get hj]
                  · rw [List.getElem?_eq_none (by rw [List.length_take]; omega), List.getElem?_eq_none (by rw [ofF_len]; omega)]
                rw [htk] at rmk
                clear htk
                go_wp2
                go_region_held3 (fun w' => w'.cell? ⟨w.heap.size, 0, none⟩ = some (.int .i64 mo) ∧ w'.cell? ⟨w.heap.size, 1, none⟩ = some (.int .i64 pr) ∧ w'.cell? ⟨w.heap.size, 2, none⟩ = some (.int .i64 ms) ∧ w'.cell? ⟨w.heap.size, 3, none⟩ = some (.int .i64 co) ∧ w'.cell? ⟨w.heap.size, 4, none⟩ = some (.int .i64 (W : Int)) ∧ w'.cell? ⟨w.heap.size, 5, none⟩ = some (.int .i64 to))
                  (first | exact ⟨c0, c1, c2, c3, c4, c5⟩ | exact ⟨(hk7.cell hlr).trans c0, (hk7.cell hlr).trans c1, (hk7.cell hlr).trans c2, (hk7.cell hlr).trans c3, (hk7.cell hlr).trans c4, (hk7.cell hlr).trans c5⟩ | go_keep)
                  (first
                    | (go_at_call 14
                       refine (Hrk.out k A cap wr.drew hkm (Rd.keep ii_lasts rlk (Nat.le_refl _) (fun _ _ => rfl))).mono ?_
                       rintro e w7 ⟨v7, rfl, ho7, hb7⟩
                       have hk7 := (Below.refl wr.heap.size wr).drew.trans hb7
                       obtain ⟨A7, c7, hv7, r7⟩ := ho7.rd iSized (by rw [ofF_len]; omega)
                       rw [ofF_len] at hv7 r7
                       subst hv7
                       clear ho7 hb7))
                have rmk7 := rmk.up (flat_lasts _) hk7
                have hbE := hb03.trans ((hbb.trans (hk7.mono hbb.size)).mono hb03.size)
                have Hi := Lib.hid (ints_any A7 A5 k k c7 cc5 _ _ w7 r7 rmk7)
                clear c0 c1 c2 c3 c4 c5
                go_wp2_with fail
                refine (Hi.out).mono ?_
                rintro e w8 ⟨rfl, q, rfl⟩
                go_wp2
                go_ret
                exact ⟨by simp, below_drewN hbE _⟩
end Go.Proofs.Ythhmdljfklbbeaa
