
/- Walk over Text of package big. Conditions stand in the theorem. -/
import Derived.Test.YtkeajohkpmabcaaDoorP3
namespace Go.Proofs.YtkeajohkpmabcaaDoor
open Go.RowKit
set_option linter.unusedVariables false
set_option linter.unusedSimpArgs false

theorem ba_append (a b : List UInt8) : ((⟨a.toArray⟩ : ByteArray) ++ (⟨b.toArray⟩ : ByteArray)) = ⟨(a ++ b).toArray⟩ := by
  apply ByteArray.ext
  rw [ByteArray.data_append]
  simp
theorem part_rd {w w' : World} {v : Value} {A : Option Addr} {n cap : Nat} {l : List Int} (hr : RdI w w.heap.size A n cap l) (hk : Kept (fun b => v.ownBlock = some b) w w') (hap : ∀ g, v.ownBlock = some g → 0 < n → ∀ a, A = some a → a.block ≠ g) : RdI w' w'.heap.size A n cap l :=
  hr.keptS hk (Nat.le_refl _) hk.size (fun hn b off e h => hap b h hn _ e rfl)
theorem part_ap {w : World} {v v' : Value} {A : Option Addr} {n cap : Nat} {l : List Int} (hr : RdI w w.heap.size A n cap l) (hap : ∀ g, v.ownBlock = some g → 0 < n → ∀ a, A = some a → a.block ≠ g) (hv : ∀ g, v'.ownBlock = some g → v.ownBlock = some g ∨ w.heap.size ≤ g) : ∀ g, v'.ownBlock = some g → 0 < n → ∀ a, A = some a → a.block ≠ g := by
  intro g hg hn a ha
  rcases hv g hg with h | h
  · exact hap g h hn a ha
  · obtain ⟨b', off, e, hlt, -⟩ := hr.2.2.2 hn
    rw [e] at ha
    injection ha with ha
    subst ha
    show b' ≠ g
    omega
theorem join_own {ps : List ByteArray} (A : Option Addr) (cap : Nat) (w : World) (hn : ps.length ≤ 362) (hc : 0 < ps.length → ∃ g, A = some ⟨g, 0, none⟩ ∧ g < w.heap.size ∧ ps.length ≤ cap ∧ ∀ (j : Nat) x, ps.reverse[j]? = some x → w.cell? ⟨g, 0 + j, none⟩ = some (.string x)) (hlen : (catS ps).length ≤ 140737488355328) :
    Calls Tryd.prog 41 #[.slice A ps.length cap, .string ⟨#[]⟩] w fun e w' => e = .returned (.string ⟨(catS ps).toArray⟩) ∧ Below w.heap.size w w' := by
  rcases Nat.eq_zero_or_pos ps.length with h0 | h0
  · have e : ps = [] := List.length_eq_zero_iff.1 h0
    subst e
    exact (Tryd.strings_Join_none A cap ⟨#[]⟩ w).mono fun e w' ⟨he, hw⟩ => ⟨he, by subst hw; exact Below.refl _ _⟩
  · obtain ⟨g, rfl, h1, h2, h3⟩ := hc h0
    have h := Tryd.strings_Join g 0 cap ps.reverse ⟨#[]⟩ w h3 h1 (by simp; omega) (by simpa using h2) (by
      show (Lib.join (ps.reverse.map (·.data.toList)) []).length ≤ _
      rw [join_parts]; exact hlen)
    rw [List.length_reverse] at h
    have e : (Lib.join (ps.reverse.map (·.data.toList)) ((⟨#[]⟩ : ByteArray).data.toList)) = catS ps := join_parts ps
    rw [e] at h
    exact h
set_option maxRecDepth 100000 in
set_option maxHeartbeats 2000000 in
theorem btext_any (s : Int) (A : Option Addr) (n cap : Nat) (l : List Int) (w : World) (hl : RdI w w.heap.size A n cap l) (htab : Tab w) :
    Calls Tryd.prog 18 #[.agg #[.int .i64 s, .slice A n cap]] w fun e w' => e = .returned (.string (textB s l)) ∧ Below w.heap.size w w' := by
  have K := (St.start w).oldRd hl
  have r := K.raw
  have HR := Lib.hid (fun W hl => bright_any s A n cap l W hl)
  have HT := Lib.hid htab
  clear htab
  cases h1 : rightB s l
  · rw [h1] at HR
    have e0 : textB s l = ⟨#[]⟩ := by unfold textB; rw [if_neg (by rw [h1]; simp)]
    rw [e0]
    clear e0 h1
    go_enter Tryd.func18, Tryd.ntmps18
    go_wp2_with (first | (apply K.alloc; rfl; rfl; (first | with_reducible exact big_zero | with_reducible exact frac_zero); clear K r; (first | ((fail_if_success revert b0); intro W b0 K) | ((fail_if_success revert b1); intro W b1 K) | ((fail_if_success revert b2); intro W b2 K) | ((fail_if_success revert b3); intro W b3 K) | ((fail_if_success revert b4); intro W b4 K) | ((fail_if_success revert b5); intro W b5 K) | ((fail_if_success revert b6); intro W b6 K) | ((fail_if_success revert b7); intro W b7 K) | ((fail_if_success revert b8); intro W b8 K) | ((fail_if_success revert b9); intro W b9 K) | ((fail_if_success revert b10); intro W b10 K) | ((fail_if_success revert b11); intro W b11 K) | ((fail_if_success revert b12); intro W b12 K) | ((fail_if_success revert b13); intro W b13 K) | ((fail_if_success revert b14); intro W b14 K) | ((fail_if_success revert b15); intro W b15 K) | ((fail_if_success revert b16); intro W b16 K) | ((fail_if_success revert b17); intro W b17 K) | ((fail_if_success revert b18); intro W b18 K) | ((fail_if_success revert b19); intro W b19 K) | ((fail_if_success revert b20); intro W b20 K) | ((fail_if_success revert b21); intro W b21 K)); have r := K.raw; simp only [Raw, RawC, and_true, true_and, Nat.zero_add, Nat.reduceAdd] at r) | (apply K.box; rfl; rfl; rfl; clear K r; (first | ((fail_if_success revert b0); intro W b0 K) | ((fail_if_success revert b1); intro W b1 K) | ((fail_if_success revert b2); intro W b2 K) | ((fail_if_success revert b3); intro W b3 K) | ((fail_if_success revert b4); intro W b4 K) | ((fail_if_success revert b5); intro W b5 K) | ((fail_if_success revert b6); intro W b6 K) | ((fail_if_success revert b7); intro W b7 K) | ((fail_if_success revert b8); intro W b8 K) | ((fail_if_success revert b9); intro W b9 K) | ((fail_if_success revert b10); intro W b10 K) | ((fail_if_success revert b11); intro W b11 K) | ((fail_if_success revert b12); intro W b12 K) | ((fail_if_success revert b13); intro W b13 K) | ((fail_if_success revert b14); intro W b14 K) | ((fail_if_success revert b15); intro W b15 K) | ((fail_if_success revert b16); intro W b16 K) | ((fail_if_success revert b17); intro W b17 K) | ((fail_if_success revert b18); intro W b18 K) | ((fail_if_success revert b19); intro W b19 K) | ((fail_if_success revert b20); intro W b20 K) | ((fail_if_success revert b21); intro W b21 K)); have r := K.raw; simp only [Raw, RawC, and_true, true_and, Nat.zero_add, Nat.reduceAdd] at r) | (apply K.storeA; rfl; rfl; rfl; rfl; rfl; (repeat (first | with_reducible exact Upd.head _ | with_reducible apply Upd.tail)); (first | with_reducible exact big_size | with_reducible exact frac_size); rfl; rfl; rfl; clear K r; intro W K; have r := K.raw; simp only [Raw, RawC, and_true, true_and, Nat.zero_add, Nat.reduceAdd] at r))
    refine (HR.out _ (by first | exact Rd.nil | exact K.rd (by repeat (first | with_reducible exact List.mem_cons_self | with_reducible apply List.mem_cons_of_mem)))).mono ?_
    rintro e W' ⟨rfl, hb⟩
    replace K := K.keep hb
    clear r
    have r := K.raw
    simp only [Raw, RawC, and_true, true_and, Nat.zero_add, Nat.reduceAdd, List.toList_toArray] at r
    clear hb
    go_wp2
    go_ret
    exact ⟨rfl, K.1⟩
  rw [h1] at HR
  obtain ⟨i0, hi0, hz0, hz1, hz2⟩ := info_parts string_info
  have hst := Std.of_right h1
  have hsg := hst.signs
  have hfit := fits_of_right h1
  have e0 : textB s l = ⟨(Lib.itoa (bval s l)).toArray⟩ := by unfold textB; rw [if_pos h1]
  rw [e0]
  have hls : l = digs (bval s l).natAbs := hst.2
  generalize bval s l = z at *
  have hV : ∃ V, V = z.natAbs := ⟨_, rfl⟩
  obtain ⟨V, hV⟩ := hV
  rw [← hV] at hls
  have hl60 : (digs V).length ≤ 60 := digs_len.2 (by have := fits_iff.1 hfit; rw [hV]; exact this)
  have hdl : (Lib.decDigits V).length ≤ 362 := by rw [hV]; exact dec_fits hfit
  have Hdl := Lib.hid hdl
  have HV := Lib.hid hV
  have Hsg := Lib.hid hsg
  have H60 := Lib.hid hl60
  clear e0 h1 hst hfit hsg hV hdl hl60
  subst hls
  go_enter Tryd.func18, Tryd.ntmps18
  go_wp2_with (first | (apply K.alloc; rfl; rfl; (first | with_reducible exact big_zero | with_reducible exact frac_zero); clear K r; (first | ((fail_if_success revert b0); intro W b0 K) | ((fail_if_success revert b1); intro W b1 K) | ((fail_if_success revert b2); intro W b2 K) | ((fail_if_success revert b3); intro W b3 K) | ((fail_if_success revert b4); intro W b4 K) | ((fail_if_success revert b5); intro W b5 K) | ((fail_if_success revert b6); intro W b6 K) | ((fail_if_success revert b7); intro W b7 K) | ((fail_if_success revert b8); intro W b8 K) | ((fail_if_success revert b9); intro W b9 K) | ((fail_if_success revert b10); intro W b10 K) | ((fail_if_success revert b11); intro W b11 K) | ((fail_if_success revert b12); intro W b12 K) | ((fail_if_success revert b13); intro W b13 K) | ((fail_if_success revert b14); intro W b14 K) | ((fail_if_success revert b15); intro W b15 K) | ((fail_if_success revert b16); intro W b16 K) | ((fail_if_success revert b17); intro W b17 K) | ((fail_if_success revert b18); intro W b18 K) | ((fail_if_success revert b19); intro W b19 K) | ((fail_if_success revert b20); intro W b20 K) | ((fail_if_success revert b21); intro W b21 K)); have r := K.raw; simp only [Raw, RawC, and_true, true_and, Nat.zero_add, Nat.reduceAdd] at r) | (apply K.box; rfl; rfl; rfl; clear K r; (first | ((fail_if_success revert b0); intro W b0 K) | ((fail_if_success revert b1); intro W b1 K) | ((fail_if_success revert b2); intro W b2 K) | ((fail_if_success revert b3); intro W b3 K) | ((fail_if_success revert b4); intro W b4 K) | ((fail_if_success revert b5); intro W b5 K) | ((fail_if_success revert b6); intro W b6 K) | ((fail_if_success revert b7); intro W b7 K) | ((fail_if_success revert b8); intro W b8 K) | ((fail_if_success revert b9); intro W b9 K) | ((fail_if_success revert b10); intro W b10 K) | ((fail_if_success revert b11); intro W b11 K) | ((fail_if_success revert b12); intro W b12 K) | ((fail_if_success revert b13); intro W b13 K) | ((fail_if_success revert b14); intro W b14 K) | ((fail_if_success revert b15); intro W b15 K) | ((fail_if_success revert b16); intro W b16 K) | ((fail_if_success revert b17); intro W b17 K) | ((fail_if_success revert b18); intro W b18 K) | ((fail_if_success revert b19); intro W b19 K) | ((fail_if_success revert b20); intro W b20 K) | ((fail_if_success revert b21); intro W b21 K)); have r := K.raw; simp only [Raw, RawC, and_true, true_and, Nat.zero_add, Nat.reduceAdd] at r) | (apply K.storeA; rfl; rfl; rfl; rfl; rfl; (repeat (first | with_reducible exact Upd.head _ | with_reducible apply Upd.tail)); (first | with_reducible exact big_size | with_reducible exact frac_size); rfl; rfl; rfl; clear K r; intro W K; have r := K.raw; simp only [Raw, RawC, and_true, true_and, Nat.zero_add, Nat.reduceAdd] at r))
  refine (HR.out _ (by first | exact Rd.nil | exact K.rd (by repeat (first | with_reducible exact List.mem_cons_self | with_reducible apply List.mem_cons_of_mem)))).mono ?_
  rintro e w1 ⟨rfl, hb⟩
  replace K := K.keep hb
  clear r
  have r := K.raw
  simp only [Raw, RawC, and_true, true_and, Nat.zero_add, Nat.reduceAdd, List.toList_toArray] at r
  clear hb
  have hr1 : RdI w1 w1.heap.size A n cap (digs V) := (by first | exact Rd.nil | exact K.rd (by repeat (first | with_reducible exact List.mem_cons_self | with_reducible apply List.mem_cons_of_mem)))
  have Hb0 := Lib.hid (K.blk (b := b0) (cs := #[.int .i64 s, .slice A n cap]) (t := 24) (by repeat (first | with_reducible exact List.mem_cons_self | with_reducible apply List.mem_cons_of_mem)))
  have hbw := K.1
  have hbg := (K.2.1 _ List.mem_cons_self).1
  clear HR
  go_wp2_with fail
  go_loopg [3, 4] V (fun gk s3 s4 wr => ∃ (u : Nat) (v : Value) (ps : List ByteArray) (A' : Option Addr) (n' c' : Nat), u = gk ∧ u ≤ V ∧ s3 = v ∧ s4 = .slice A' n' c' ∧ Hid (TextI V u ps ∧ (V = 0 → ps = [])) ∧ Own 1 sEnc wr w1.heap.size 9 v ps ∧ RdI wr wr.heap.size A' n' c' (digs u) ∧ Hid (∀ g, v.ownBlock = some g → 0 < n' → ∀ a, A' = some a → a.block ≠ g) ∧ Below w1.heap.size w1 wr)
  case atStart => exact ⟨V, _, [], A, n, cap, rfl, Nat.le_refl _, rfl, rfl, Lib.hid ⟨TextI.start V, fun _ => rfl⟩, Own.nil, hr1, Lib.hid (fun g h => by cases h), Below.refl _ _⟩
  case round =>
    clear r K hr1
    obtain ⟨u, v, ps, A', n', c', rfl, huV, rfl, rfl, HI, ho, hr, Hap, hbel⟩ := hrel
    have hlen := hr.len
    have hcap := hr.caps
    have hm60 : (digs u).length ≤ 60 := Nat.le_trans (digs_len_mono huV) H60.out
    by_cases hu : u = 0
    · subst hu
      rw [digs_zero, List.length_nil] at hlen
      subst hlen
      have hd : decide (0 < 0) = false := by decide
      have hpl : ps.length ≤ 362 := by
        by_cases h : V = 0
        · rw [HI.out.2 h]; simp
        · exact Nat.le_trans (HI.out.1.few h) Hdl.out
      have hSl : (catS ps).length ≤ 362 := by
        by_cases h : V = 0
        · rw [HI.out.2 h]; simp [catS]
        · rw [← HI.out.1.2.1 rfl h]; exact Hdl.out
      have Hcat := Lib.hid (show V ≠ 0 → catS ps = Lib.decDigits V from fun h => (HI.out.1.2.1 rfl h).symm)
      go_wp2_with fail
      refine (rev_any ho hbel.size (by omega)).mono ?_
      rintro e w2 ⟨rfl, hb2, A9, cap9, rfl, hcells⟩
      have hb12 := hbel.trans hb2
      have HJ := Lib.hid (join_own A9 cap9 w2 hpl (fun h => by obtain ⟨g, e1, e2, e3⟩ := hcells h; exact ⟨g, e1, e3⟩) (by omega))
      generalize catS ps = S at *
      have hno : ¬ (9223372036854775807 < 1 + S.length) := by omega
      clear hcells HI ho Hap hr hcap hm60
      go_wp2_with fail
      refine HJ.out.mono ?_
      rintro e w3 ⟨rfl, hb3⟩
      have hb13 : Below w1.heap.size w1 w3 := hb12.trans (hb3.mono hb12.size)
      have c0 : w3.cell? ⟨b0, 0, none⟩ = some (.int .i64 s) := (Hb0.out.of (hb13.block _ Hb0.out.lt)).cell rfl
      have hbF : Below w.heap.size w w3 := hbw.trans (hb13.mono hbw.size)
      clear HJ hb2 hb3 hb12 hbel
      have hsg := Hsg.out
      have hVz := HV.out
      rcases hsg with ⟨-, rfl, rfl⟩ | ⟨-, rfl, hz⟩ | ⟨-, rfl, hz⟩
      · clear hVz Hsg
        go_wp2
        go_ret
        exact ⟨by rw [itoa_zero]; rfl, hbF⟩
      · have hS := Hcat.out (by omega)
        have hT : Lib.itoa z = S := by
          rw [hS, hVz, show z = ((z.natAbs : Nat) : Int) by omega, Lib.itoa_nonneg]; rfl
        have HH := Lib.hid hT
        clear hVz Hsg hS hT hz
        go_wp2
        go_ret
        exact ⟨by rw [HH.out]; rfl, hbF⟩
      · have hS := Hcat.out (by omega)
        have hT : Lib.itoa z = 45 :: S := by
          rw [hS, hVz, show z = -((z.natAbs : Nat) : Int) by omega, Lib.itoa_neg _ (by omega), Int.natAbs_neg]; rfl
        have HH := Lib.hid hT
        clear hVz Hsg hS hT hz
        go_wp2
        go_ret
        exact ⟨by rw [HH.out]; exact congrArg Ending.returned (congrArg Value.string (ba_append [45] S)), hbF⟩
    · have hn0 : 0 < n' := by
        have h1 : digs u ≠ [] := fun e => hu (digs_nil.1 e)
        have := List.length_pos_iff.2 h1
        omega
      have hd : decide (0 < n') = true := decide_eq_true hn0
      have hpl : ps.length ≤ 362 := Nat.le_trans (HI.out.1.few (by omega)) Hdl.out
      have Hst := Lib.hid (show ∀ p : ByteArray, p.data.toList = partL u → TextI V (u / 100000) (ps ++ [p]) ∧ (V = 0 → ps ++ [p] = []) from fun p hp => ⟨HI.out.1.step hu hp, fun h => by omega⟩)
      obtain ⟨hi1, hi2, hi3⟩ := itoa_part u
      have Hlt := Lib.hid (show u / 100000 < u ∧ u / 100000 ≤ V from by omega)
      have hlim : (u : Int) % 100000 < 100000 ∧ (0 : Int) ≤ (u : Int) % 100000 := by omega
      go_wp2_with fail
      refine (shortD A' n' c' u wr hr (by omega)).mono ?_
      rintro e w2 ⟨A2, n2, c2, rfl, hr2, hf2, hb2⟩
      have hap2 := Lib.hid (show ∀ g, u3.ownBlock = some g → 0 < n2 → ∀ a, A2 = some a → a.block ≠ g from by
        intro g hg _ a ha
        have h1 := (ho.lt g hg).2
        have h2 := hf2 a ha
        omega)
      have hb12 := hbel.trans (hb2.mono hbel.size)
      have ho2 := ho.below hb2
      clear Hap ho hr hb2 hbel hf2 HI
      go_wp2_with fail
      refine (itoaD ((u : Int) % 100000) hlim.2 hlim.1 w w2 HT.out (hbw.trans (hb12.mono hbw.size))).mono ?_
      rintro e w3 ⟨P, rfl, hP, hPs, hb3⟩
      have hr3 := hr2.up (flat_lasts _) hb3
      have ho3 := ho2.below hb3
      have hb13 := hb12.trans (hb3.mono hb12.size)
      have hlen2 := hr3.len
      have hcap2 := hr3.caps
      by_cases hq : u / 100000 = 0
      · have HPp := Lib.hid (Hst.out P (by unfold partL; rw [if_pos hq]; exact hP))
        rw [hq, digs_zero, List.length_nil] at hlen2
        subst hlen2
        have hd2 : decide (0 < 0) = false := by decide
        have hsz := hb13.size
        clear hP hPs hi1 hi2 hi3 Hst hr2 ho2 hb3 hb12 hlim
        go_wp2_with (at_builtin; refine wpList_app1 sSized rfl _ _ 56 rfl w1.heap.size 9 i0 _ 16 Tryd.underlying56 hi0 hz0 hz1 hz2 rfl _ ps rfl ho3 P _ rfl w3.heap.size rfl rfl (by omega) (by omega) hsz ?_
                     intro v4 w5 ho4 hk4 hv4 hbl4)
        go_roundg (u / 100000)
        case rel => exact ⟨u / 100000, _, _, A2, 0, c2, rfl, Hlt.out.2, rfl, rfl, HPp, ho4, part_rd hr3 hk4 hap2.out, Lib.hid (part_ap hr3 hap2.out hv4), hbl4 _ _ (Nat.le_refl _) hb13⟩
        case measure => exact Hlt.out.1
      · obtain ⟨k, hk⟩ : ∃ k, k = 5 - (Lib.itoa ((u : Int) % 100000)).length := ⟨_, rfl⟩
        have Hst2 := Lib.hid (show ∀ R : ByteArray, R.data.toList = List.replicate k 48 → TextI V (u / 100000) (ps ++ [R ++ P]) ∧ (V = 0 → ps ++ [R ++ P] = []) from fun R hR => Hst.out (R ++ P) (by
          unfold partL
          rw [if_neg hq, ByteArray.data_append, Array.toList_append, hP, hR, hk]))
        have hn2 : 0 < n2 := by
          have h1 : digs (u / 100000) ≠ [] := fun e => hq (digs_nil.1 e)
          have := List.length_pos_iff.2 h1
          omega
        have hd2 : decide (0 < n2) = true := decide_eq_true hn2
        obtain ⟨m, hm⟩ : ∃ m, m = P.size := ⟨_, rfl⟩
        have hmk : m ≤ 5 ∧ k + m = 5 := by omega
        have hw5 : IntKind.i64.wrap (5 - (m : Int)) = (k : Int) := by rw [IntWalk.i64_in _ (by omega)]; omega
        have hPm : P.size = m := hm.symm
        clear hP hPs hi1 hi2 hi3 Hst hr2 ho2 hb3 hb12 hlim hk hq hm
        go_wp2_with fail
        refine (repD k (by omega) w3).mono ?_
        rintro e w4 ⟨R, rfl, hR, hRk, hb4⟩
        have HPp := Lib.hid (Hst2.out R hR)
        have hr4 := hr3.up (flat_lasts _) hb4
        have ho4 := ho3.below hb4
        have hb14 := hb13.trans (hb4.mono hb13.size)
        have hsz := hb14.size
        have hno : ¬ (9223372036854775807 < k + m) := by omega
        clear hR Hst2 hr3 ho3 hb4 hb13
        go_wp2_with (at_builtin; refine wpList_app1 sSized rfl _ _ 56 rfl w1.heap.size 9 i0 _ 16 Tryd.underlying56 hi0 hz0 hz1 hz2 rfl _ ps rfl ho4 (R ++ P) _ rfl w4.heap.size rfl rfl (by omega) (by omega) hsz ?_
                     intro v5 w5 ho5 hk5 hv5 hbl5)
        go_roundg (u / 100000)
        case rel => exact ⟨u / 100000, _, _, A2, n2, c2, rfl, Hlt.out.2, rfl, rfl, HPp, ho5, part_rd hr4 hk5 hap2.out, Lib.hid (part_ap hr4 hap2.out hv5), hbl5 _ _ (Nat.le_refl _) hb14⟩
        case measure => exact Hlt.out.1
end Go.Proofs.YtkeajohkpmabcaaDoor
