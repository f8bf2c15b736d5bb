
/- Walk over homogeneous of the law of layer 6. Conditions stand in the theorem. -/
import Derived.Test.YtdlcglndhhndpaaMq
namespace Go.Proofs.Ytdlcglndhhndpaa
open Go.RowKit
set_option linter.unusedVariables false
set_option linter.unusedSimpArgs false

theorem row_made : (Try.prog.info? 45).map (fun i => (i.zero.map (·.cells), i.size, i.bytes)) = some (some #[.slice none 0 0, .int .i64 0, .slice none 0 0, .int .i64 0, .slice none 0 0], 5, 88) := by kernel_rfl
theorem run_litR (A0 : Option Addr) (n0 c0 : Nat) (s t : Int) (A B : Option Addr) (n c m d : Nat) (W : World) : (Instr.buildSlice 22 1 #[(0, .agg #[.slice A0 n0 c0, .int .i64 s, .slice A n c, .int .i64 t, .slice B m d])]).run Try.prog W = .ok (.slice (some ⟨W.heap.size, 0, none⟩) 1 1) (W.alloc (.cells #[.slice A0 n0 c0, .int .i64 s, .slice A n c, .int .i64 t, .slice B m d] 45)) := by kernel_rfl
/-- values of 0 -/
def homR (x : Rv) : Rv := ⟨x.a, fvQ 0⟩
theorem ofF_map {α β : Type} {n : Nat} {l : List α} {f : Nat → β} {g : α → β} (hl : l.length = n) (h : ∀ j, j < n → ∃ x, l[j]? = some x ∧ f j = g x) : ofF n f = l.map g := by
  apply List.ext_getElem?
  intro j
  by_cases hj : j < n
  · obtain ⟨x, h1, h2⟩ := h j hj
    rw [ofF_get hj, List.getElem?_map, h1, h2]
    rfl
  · rw [List.getElem?_eq_none (by rw [ofF_len]; omega), List.getElem?_eq_none (by rw [List.length_map]; omega)]
/-- a list of rows that a call returns -/
def RowsV (w : World) (l : List Rv) (e : Ending) (w' : World) : Prop := ∃ A c, e = .returned (.slice A l.length c) ∧ RdR w' w'.heap.size A l.length c l ∧ Below w.heap.size w w'
set_option maxRecDepth 100000 in
set_option maxHeartbeats 2000000 in
theorem homog_any (A : Option Addr) (n cap : Nat) (l : List Rv) (w : World) (hl : RdR w w.heap.size A n cap l) (hn : n ≤ 1000) :
    Calls Try.prog 19 #[.slice A n cap] w (RowsV w (l.map homR)) := by
  have hcap := hl.caps
  have Hlen := Lib.hid hl.len
  have HL := Lib.hid hl
  obtain ⟨R, hR⟩ : ∃ R, R = l.map homR := ⟨_, rfl⟩
  rw [← hR]
  have HR := Lib.hid hR
  clear hl hR
  go_enter Try.func19, Try.ntmps19
  go_wp2_with fail
  go_loopg [4, 3] n (fun gk s4 s3 wr => ∃ (k : Nat) (u : Nat → Rr) (S : Nat → Nat → Prop) (X : List Blk), k ≤ n ∧ gk = n - k ∧ s4 = .int .i64 k ∧ Hid (∀ j, j < k → ∃ x, l[j]? = some x ∧ (u j).rv = homR x) ∧ OwL 5 Rr.cs 45 s3 (ofF k u) X ∧ St w (X ++ []) [rrF k u S] wr)
  case atStart => exact ⟨0, fun _ => Rr.zero, fun _ _ => False, [], Nat.zero_le _, rfl, rfl, Lib.hid (fun j h => absurd h (by omega)), OwL.nil, (St.start w).rrNew⟩
  case round =>
    obtain ⟨k, u, S, X, hk, rfl, rfl, HV, ho, K⟩ := hrel
    by_cases hlt : k < n
    · obtain ⟨eb, off, A0, n0, c0, A1, n1, c1, A2, n2, c2, x, hA, hbB, hx, ⟨z0, z1, z2, z3, z4⟩, r0, r1, r2⟩ := HL.out.atR hlt
      subst hA
      have hki : (k : Int) < (n : Int) := by omega
      have hk0 : (0 : Int) ≤ (k : Int) := by omega
      have hcap0 := r0.caps
      have Hx := Lib.hid hx
      have Hr0 := Lib.hid r0
      have HS := Lib.hid (fun V (h : Below w.heap.size w V) => (show V.cell? ⟨eb, off + k * 5, none⟩ = some (.slice A0 n0 c0) from (h.cell (p := ⟨eb, off + k * 5, none⟩) hbB).trans z0))
      have Ho := Lib.hid ho
      obtain ⟨Ah, nh, ch, hvs⟩ := ho.shape
      subst hvs
      clear z0 z1 z2 z3 z4 r0 r1 r2 hx ho
      go_upto_region 5 with fail
      have K0 := K.drew
      have s0 := HS.out _ K0.1
      clear K
      refine wp_region_T 10 (fun V => V.cell? ⟨eb, off + k * 5, none⟩ = some (.slice A0 n0 c0)) (by kernel_rfl) s0 (fun hSh => ?_)
      clear s0
      refine wpAnyT.take (i := 0) (v := ?_) rfl (by decide +kernel) (fun _ _ _ h => h) (Or.inl ⟨by rfl, ?_⟩) (by assumption) ?_
      rotate_left
      · intro w hSw
        try dsimp only at hSw
        go_simp
        try with_reducible rfl
      try simp only [Act.put, List.setIfInBounds_toArray, List.set_cons_zero, List.set_cons_succ]
      refine wpAnyT.take (i := 1) (v := ?_) rfl (by decide +kernel) (fun _ _ _ h => h) (Or.inl ⟨by rfl, ?_⟩) (by assumption) ?_
      rotate_left
      · intro w hSw
        try dsimp only at hSw
        go_simp
        try with_reducible rfl
      try simp only [Act.put, List.setIfInBounds_toArray, List.set_cons_zero, List.set_cons_succ]
      refine wpAnyT.take (i := 2) (v := ?_) rfl (by decide +kernel) (fun _ _ _ h => h) (Or.inl ⟨by rfl, ?_⟩) (by assumption) ?_
      rotate_left
      · intro w hSw
        try dsimp only at hSw
        go_simp
        try with_reducible rfl
      try simp only [Act.put, List.setIfInBounds_toArray, List.set_cons_zero, List.set_cons_succ]
      refine wpAnyT.take (i := 3) (v := ?_) rfl (by decide +kernel) (fun _ _ _ h => h) (Or.inl ⟨by rfl, ?_⟩) (by assumption) ?_
      rotate_left
      · intro w hSw
        try dsimp only at hSw
        go_simp
        try with_reducible rfl
      try simp only [Act.put, List.setIfInBounds_toArray, List.set_cons_zero, List.set_cons_succ]
      refine wpAnyT.take (i := 4) (v := ?_) rfl (by decide +kernel) (fun _ _ _ h => h) (Or.inl ⟨by rfl, ?_⟩) (by assumption) ?_
      rotate_left
      · intro w hSw
        try dsimp only at hSw
        go_simp
        try with_reducible rfl
      try simp only [Act.put, List.setIfInBounds_toArray, List.set_cons_zero, List.set_cons_succ]
      refine wpAnyT.take (i := 5) (v := ?_) rfl (by decide +kernel) (fun _ _ _ h => h) (Or.inl ⟨by rfl, ?_⟩) (by assumption) ?_
      rotate_left
      · intro w hSw
        try dsimp only at hSw
        go_simp
        try with_reducible rfl
      try simp only [Act.put, List.setIfInBounds_toArray, List.set_cons_zero, List.set_cons_succ]
      refine wpAnyT.one (i := 6) rfl rfl (by kernel_rfl) (fun KK hKK => ?_)
      go_simp
      go_at_call 27
      refine (number6_any 0 _ (by decide)).mono ?_
      rintro e W5 ⟨s7, A7, n7, c7, l7, t7, B7, m7, d7, k7, rfl, ⟨hra, hrb⟩, ho7, ⟨hfa, hfb⟩, hb⟩
      have k5 := K0.retF hb hra hrb hfa hfb
      clear hra hrb hfa hfb hb
      go_wp2_with fail
      refine hKK.out _ _ (HS.out _ k5.1) (fun hSh => ?_)
      clear hKK KK
      try simp only [Act.put, List.setIfInBounds_toArray, List.set_cons_zero, List.set_cons_succ]
      refine wpAnyT.one (i := 7) rfl rfl (by kernel_rfl) (fun KK hKK => ?_)
      go_simp
      refine hKK.out _ _ (by assumption) (fun hSh => ?_)
      clear hKK KK
      try simp only [Act.put, List.setIfInBounds_toArray, List.set_cons_zero, List.set_cons_succ]
      refine wpAnyT.one (i := 8) rfl rfl (by kernel_rfl) (fun KK hKK => ?_)
      refine k5.litOp _ _ rfl _ rfl _ _ (run_litR _ _ _ _ _ _ _ _ _ _ _ _) ?_
      intro g W6 k6
      refine hKK.out _ _ (HS.out _ k6.1) (fun hSh => ?_)
      clear hKK KK
      try simp only [Act.put, List.setIfInBounds_toArray, List.set_cons_zero, List.set_cons_succ]
      replace k6 := k6.mid
      refine wpAnyT.one (i := 9) rfl rfl (by kernel_rfl) (fun KK hKK => ?_)
      refine k6.appOp Ho.out rr_sized _ _ 22 rfl _ 88 Try.underlying22 row_made rfl rfl (⟨A0, n0, c0, x.a, ⟨s7, A7, n7, c7, l7, t7, B7, m7, d7, k7⟩⟩ : Rr) g _ (by exact List.mem_cons_self) rfl (by rw [ofF_len]; omega) (by omega) ?_
      intro v8 X8 W8 ho8 k8
      replace k8 := k8.cutm
      refine hKK.out _ _ (HS.out _ k8.1) (fun hSh => ?_)
      clear hKK KK
      try simp only [Act.put, List.setIfInBounds_toArray, List.set_cons_zero, List.set_cons_succ]
      refine wpAnyT.last rfl (by kernel_rfl) ?_
      rw [ofF_put] at ho8
      have hy : (⟨(⟨A0, n0, c0, x.a, ⟨s7, A7, n7, c7, l7, t7, B7, m7, d7, k7⟩⟩ : Rr).on, _⟩ : Hl).ok (X8 ++ []) W8 := (k8.okOld fun V h1 h2 => Hr0.out.keep fE_lasts h1 (fun p hp => cell_of (h2 _ hp))).and (k8.okR (x := ⟨s7, A7, n7, c7, l7, t7, B7, m7, d7, k7⟩) (by repeat (first | with_reducible exact List.mem_cons_self | with_reducible apply List.mem_cons_of_mem)) (by repeat (first | with_reducible exact List.mem_cons_self | with_reducible apply List.mem_cons_of_mem)))
      have HK := Lib.hid ((k8.rrAdd (u := u) (S := S) (by repeat (first | with_reducible exact List.mem_cons_self | with_reducible apply List.mem_cons_of_mem)) _ _ hy).less (D' := [_]) (fun z hz => by rw [List.mem_singleton.1 hz]; exact List.mem_cons_self))
      have HV2 := Lib.hid (show ∀ j, j < k + 1 → ∃ z, l[j]? = some z ∧ (putF u k (⟨A0, n0, c0, x.a, ⟨s7, A7, n7, c7, l7, t7, B7, m7, d7, k7⟩⟩ : Rr) j).rv = homR z from fun j hj => by
        by_cases e : j = k
        · refine ⟨x, by rw [e]; exact Hx.out, ?_⟩
          rw [e, putF_same]
          show (⟨x.a, ⟨s7, l7, t7, k7⟩⟩ : Rv) = ⟨x.a, fvQ 0⟩
          rw [ho7.fv]
          rfl
        · obtain ⟨x', g1, g2⟩ := HV.out j (by omega)
          exact ⟨x', g1, by rw [putF_other e]; exact g2⟩)
      have Ho8 := Lib.hid ho8
      obtain ⟨AH, nH, cH, hhv⟩ := ho8.shape
      subst hhv
      clear k8 k6 k5 K0 ho8 ho7 HV Ho hSh hy
      go_wp2_with fail
      go_roundg (n - (k + 1))
      case rel => exact ⟨k + 1, putF u k (⟨A0, n0, c0, x.a, ⟨s7, A7, n7, c7, l7, t7, B7, m7, d7, k7⟩⟩ : Rr), _, X8, hlt, rfl, by go_num, HV2, Ho8.out, HK.out⟩
      case measure => omega
    · have e : n = k := by omega
      subst e
      obtain ⟨Ao, co, hv, hro⟩ := ho.rdR K (by repeat (first | with_reducible exact List.mem_cons_self | with_reducible apply List.mem_cons_of_mem)) (by omega)
      subst hv
      rw [ofF_map Hlen.out HV.out, ← HR.out] at hro
      have hlR : R.length = n := by rw [HR.out, List.length_map]; exact Hlen.out
      have HX := Lib.hid (show RowsV w R (.returned (.slice Ao n co)) wr from ⟨Ao, co, by rw [hlR], by rw [hlR]; exact hro, K.1⟩)
      clear ho K hro HV hlt
      go_wp2
      exact bodyPost_ret (v := .slice Ao n co) (by simp [results, Try.results19, go_sem]) rfl HX.out
end Go.Proofs.Ytdlcglndhhndpaa
