/- Laws and walks laid together; the conditions stand in each theorem. -/
import Derived.Test.YtdlcglndhhndpaaU04
import Derived.Test.YtdlcglndhhndpaaT33
set_option linter.unusedSimpArgs false
set_option linter.unusedVariables false
namespace Go.Proofs.Ytdlcglndhhndpaa
open Go.RowKit
theorem ZU1 {p : Prop} (h : p := by
  first
    | (have hki : (k : Int) < (m : Int) := by omega
       have hk0 : (0 : Int) ≤ (k : Int) := by omega
       have hlkd : decide (k < m) = true := decide_eq_true hlk
       obtain ⟨eb, eo, A0, n0, c0, A3, n3, c3, A4, n4, c4, X5, hA, hbB2, hX, ⟨z0, z1, z2, z3, z4⟩, r0, r1, r2⟩ := HL.out.atR hlk
       subst hA
       have x0 := (K.1.cell (p := ⟨eb, eo + k * 5, none⟩) hbB2).trans z0
       have x1 := (K.1.cell (p := ⟨eb, eo + k * 5 + 1, none⟩) hbB2).trans z1
       have x2 := (K.1.cell (p := ⟨eb, eo + k * 5 + 2, none⟩) hbB2).trans z2
       have x3 := (K.1.cell (p := ⟨eb, eo + k * 5 + 3, none⟩) hbB2).trans z3
       have x4 := (K.1.cell (p := ⟨eb, eo + k * 5 + 4, none⟩) hbB2).trans z4
       have hc3 := r0.caps
       have hc4 := r1.caps
       have hc5 := r2.caps
       have hF := HRow.out k X5 hX
       unfold rowF at hF
       rw [Bool.and_eq_true, Bool.and_eq_true, decide_eq_true_eq] at hF
       have hn0 : n0 = n := by have := hF.1.1; have := r0.len; omega
       subst hn0
       obtain ⟨q, hq, K⟩ := K.fxOld r0
       have HE := Lib.hid (show isQ (q j) (rwA2 ls k j) from by
         have h1 := hq j hlt
         have h2 : (q j).fv.ok = true := List.all_eq_true.1 hF.2 _ (List.mem_of_getElem? h1)
         have h3 := fv_std h2
         unfold rwA2
         rw [hX, Option.bind_some, h1, Option.map_some, Option.getD_some]
         exact h3)
       obtain ⟨ab, ao, hA⟩ := K.fxAt (A := A0) (n := n0) (cap := c0) (v := q) ZMB (by omega)
       subst hA
       replace K := K.fxRd (n := n0) (v := q) (i := j) ZMB hlt
       clear hX z0 z1 z2 z3 z4 r0 r1 r2 hF hq
       go_wp2_with (first
         | (apply K.alloc; rfl; rfl; exact row_zero; clear K; intro W b2 K)
         | (apply K.storeA; rfl; rfl; rfl; rfl; rfl; (exact ZUP); exact row_size; rfl; rfl; rfl; clear K x0 x1 x2 x3 x4; intro W K; have w0c := (K.blk (b := b2) (cs := #[.slice (some ⟨ab, ao, none⟩) n0 c0, .int .i64 X5.b.s, .slice A3 n3 c3, .int .i64 X5.b.t, .slice A4 n4 c4]) (t := 45) ZMB).cell (j := 0) rfl; obtain ⟨f0, f1, f2, f3⟩ := K.fxCell (n := n0) (cap := c0) (b := ab) (off := ao) (v := q) ZMB hlt; replace K := K.mid)
         | (at_builtin; refine K.app1 Ho.out rw_sized rfl _ _ 23 rfl _ 64 Try.underlying23 frac_made rfl rfl (q j) _ rfl _ rfl (by exact rfl) (by rw [ofF_len]; omega) (by omega) ?_; clear w0c f0 f1 f2 f3; intro v4 X4 W4 ho4 K4))
       rw [ofF_put] at ho4
       have HA2 := Lib.hid (show ∀ i, i < k + 1 → isQ (putF u k (q j) i) (rwA2 ls i j) from fun i hi => by
         by_cases e : i = k
         · rw [e, putF_same]
           exact HE.out
         · rw [putF_other e]
           exact HA.out i (by omega))
       have Ho2 := Lib.hid ho4
       have HK := Lib.hid ((K4.cutm.rwAdd (v := u) (n := k) (q j) ZMB ZMB ZMB).lessS (D' := ⟨rwP (k + 1) (putF u k (q j)), rwS (k + 1) (putF u k (q j))⟩ :: ⟨rdP g1.B g1.m g1.d g1.k, rdS g1.B g1.m⟩ :: ⟨rdP g1.A g1.n g1.c g1.l, rdS g1.A g1.n⟩ :: D) (by repeat (first | with_reducible exact List.Sublist.refl _ | with_reducible apply List.Sublist.cons_cons | with_reducible apply List.Sublist.cons)))
       clear K4 K ho4 HA Ho HE
       go_roundg (m - (k + 1))
       case rel => exact ⟨k + 1, _, _, X4, hlk, rfl, rfl, by go_num, HA2, Ho2, HK.out⟩
       case measure => omega)
    | fail) : p := h
theorem ZU7 {p : Prop} (h : p := by
  first
    | (have HN := Lib.hid (Hst.out.2 (decide_eq_false hle))
       clear Hst hle
       refine wpAnyT.tkA 6 rfl ?_
       refine wpAnyT.done (by kernel_rfl) ?_
       clear hSh
       go_wp2_with fail
       go_ret
       exact ⟨false, bn, Ln, rfl, HU2, Lib.hid (by
         rw [Bool.false_and]
         cases hb : b
         · have h := HN.out
           rw [hb] at h
           unfold covB
           rw [sumsB_bad hlt (by simpa using h)]
           rfl
         · rfl), HK.out.part (List.sublist_cons_self _ _)⟩)
    | fail) : p := h
theorem ZU9 {p : Prop} (h : p := by
  first
    | (have HN := Lib.hid (Hst.out.1 (decide_eq_true hle))
       clear Hst hle
       refine wpAnyT.tkA 6 rfl ?_
       refine wpAnyT.done (by kernel_rfl) ?_
       clear hSh
       go_wp2_with fail
       go_roundg (n - (j + 1))
       case rel => exact ⟨j + 1, bn, Ln, hlt, rfl, by go_num, HU2, HN, HK.out⟩
       case measure => omega)
    | fail) : p := h
theorem ZU14 {p : Prop} (h : p := by
  first
    | (rw [hg1]
       unfold fvR
       rw [hX, Option.map_some, Option.getD_some]
       exact fv_std (List.all_eq_true.1 HOk.out _ (List.mem_of_getElem? hX)))
    | fail) : p := h
theorem St.fxOwL {w W : World} {L X : List Blk} {D : List Hl} {n : Nat} {v : Nat → Rw} {e : TypeId} {val : Value} (K : St w (X ++ L) D W) (ho : OwL 4 Rw.cs e val (ofF n v) X) (hm : (⟨rwP n v, rwS n v⟩ : Hl) ∈ D) (hn : n ≤ 1000000) : ∃ A cap, val = .slice A n cap ∧ St w L (⟨fxP A n cap v, fxS A n v⟩ :: D) W := by
  have hP := K.okAt hm
  obtain ⟨A, cap, hv, hr⟩ := (ho.own rw_sized K).rd rw_sized (by rw [ofF_len]; omega)
  rw [ofF_len] at hv hr
  refine ⟨A, cap, hv, (K.part (List.sublist_append_right _ _)).fxAdd ⟨hr, fun i hi => hP.1 i hi⟩ fun b hS p hp e => ?_⟩
  rcases hS with ⟨hn0, a, ha, rfl⟩ | ⟨i, hi, hS⟩
  · rcases ho with ⟨rfl, -, -⟩ | ⟨g, cap2, J, rfl, rfl, -⟩
    · injection hv with h1 h2 h3
      omega
    · injection hv with h1 h2 h3
      subst h1
      injection ha with ha
      subst ha
      exact (List.pairwise_cons.1 K.2.2.1).1 p hp e.symm
  · exact (hP.2.1 b ⟨i, hi, hS⟩).2 p (List.mem_append_right _ hp) e
theorem cmpQ_lt {x y : Rat} : ¬ cmpQ x y < 0 ↔ y ≤ x := by
  have h := cmpQ_le (x := y) (y := x)
  rw [cmpQ_neg] at h
  constructor
  · intro h1; exact h.1 (by omega)
  · intro h1; have := h.2 h1; omega
set_option maxRecDepth 100000 in
set_option maxHeartbeats 8000000 in
theorem covers_any (w0 W : World) (L : List Blk) (D : List Hl) (mb : Nat) (b : Bool) (R : List Value) (T : TypeId) (A A' B : Option Addr) (n cap m cap' capx : Nat) (l : List Fv) (ls : List Rv) (v : Nat → Rw) (y : Nat → Rat)
    (K : St w0 L D W) (hmb : (mb, (Value.bool b :: R).toArray, T) ∈ L) (hl : RdF w0 w0.heap.size A n cap l) (hr : RdR w0 w0.heap.size A' m cap' ls) (hok : l.all Fv.ok = true) (hrow : ∀ (k : Nat) (X : Rv), ls[k]? = some X → rowF n X = true) (m2 : (⟨fxP B m capx v, fxS B m v⟩ : Hl) ∈ D) (hm : m ≤ 1000) (hy : ∀ i, i < m → isQ (v i) (y i)) :
    Calls Try.prog 79 #[.pointer (some ⟨mb, 0, none⟩), .agg #[.slice A n cap, .slice A' m cap'], .slice B m capx, .bool false] W (SumP w0 mb R T b L D (covB m n (rwA2 ls) (fvR l) y)) := by
  have HY := Lib.hid hy
  have HZ := Lib.hid pzero_any
  have M2 := Lib.hid m2
  have HL := Lib.hid hr
  have HG := Lib.hid hl
  have HRow := Lib.hid hrow
  have HOk := Lib.hid hok
  have hcap := hl.caps
  have hcap' := hr.caps
  have hcapx := K.fxCap m2
  obtain ⟨L9, hU9, rfl⟩ := Upd.same hmb
  have HU0 := Lib.hid hU9
  clear hy hr hl hrow hok hmb hU9 m2
  have r := K.raw
  go_enter Try.func79, Try.ntmps79
  go_wp2_with (apply K.box; rfl; rfl; rfl; clear K r; intro W b0 K; have r := K.rawS)
  go_loopg [17] n (fun gk s17 wr => ∃ (j : Nat) (bk : Bool) (Lk : List Blk), j ≤ n ∧ gk = n - j ∧ s17 = .int .i64 j ∧ Hid (Upd mb (Value.bool b :: R).toArray T (Value.bool bk :: R).toArray L9 Lk) ∧ Hid ((!bk) = (!b && sumsB (fun k => prdK y (fun i => rwA2 ls i k) m) (fun k => decide ((fvR l) k ≤ smQ (fun i => y i * rwA2 ls i k) m)) j)) ∧ St w0 ((b0, #[.slice A n cap, .slice A' m cap'], 58) :: Lk) D wr)
  case atStart => exact ⟨0, b, L9, Nat.zero_le _, rfl, rfl, HU0, Lib.hid (by simp [sumsB]), K⟩
  case round =>
    clear K r HU0
    obtain ⟨j, bk, Lk, hj, rfl, rfl, HU, HS, K⟩ := hrel
    by_cases hlt : j < n
    · obtain ⟨gb, go, A1, n1, c1, B1, m1, d1, X, hA, hbB, hX, ⟨z0, z1, z2, z3⟩, r1, r2⟩ := HG.out.atF hlt
      subst hA
      have hji : (j : Int) < (n : Int) := by omega
      have hj0 : (0 : Int) ≤ (j : Int) := by omega
      have y0 := (K.1.cell (p := ⟨gb, go + j * 4, none⟩) hbB).trans z0
      have y1 := (K.1.cell (p := ⟨gb, go + j * 4 + 1, none⟩) hbB).trans z1
      have y2 := (K.1.cell (p := ⟨gb, go + j * 4 + 2, none⟩) hbB).trans z2
      have y3 := (K.1.cell (p := ⟨gb, go + j * 4 + 3, none⟩) hbB).trans z3
      have hc1 := r1.caps
      have hc2 := r2.caps
      obtain ⟨g1, hg1⟩ : ∃ g1 : Rw, g1 = ⟨X.s, A1, n1, c1, X.l, X.t, B1, m1, d1, X.m⟩ := ⟨_, rfl⟩
      have HQ1 := Lib.hid (show isQ g1 (fvR l j) from by
        exact ZU14)
      replace K : St w0 ((b0, #[.slice (some ⟨gb, go, none⟩) n cap, .slice A' m cap'], 58) :: Lk) (⟨rdP g1.B g1.m g1.d g1.k, rdS g1.B g1.m⟩ :: ⟨rdP g1.A g1.n g1.c g1.l, rdS g1.A g1.n⟩ :: D) wr := by rw [hg1]; exact (K.rdOld r1).rdOld r2
      replace y0 : wr.cell? ⟨gb, go + j * 4, none⟩ = some (.int .i64 g1.s) := by rw [hg1]; exact y0
      replace y1 : wr.cell? ⟨gb, go + j * 4 + 1, none⟩ = some (.slice g1.A g1.n g1.c) := by rw [hg1]; exact y1
      replace y2 : wr.cell? ⟨gb, go + j * 4 + 2, none⟩ = some (.int .i64 g1.t) := by rw [hg1]; exact y2
      replace y3 : wr.cell? ⟨gb, go + j * 4 + 3, none⟩ = some (.slice g1.B g1.m g1.d) := by rw [hg1]; exact y3
      replace hc1 : g1.n ≤ g1.c ∧ g1.c ≤ 9223372036854775807 ∧ g1.n ≤ 140737488351232 := by rw [hg1]; exact hc1
      replace hc2 : g1.m ≤ g1.d ∧ g1.d ≤ 9223372036854775807 ∧ g1.m ≤ 140737488351232 := by rw [hg1]; exact hc2
      clear hX z0 z1 z2 z3 r1 r2 hg1
      have r := K.rawS
      go_wp2_with (first
        | (apply K.alloc; rfl; rfl; exact frac_zero; clear K r; intro W b1 K; have r := K.rawS)
        | (apply K.storeA; rfl; rfl; rfl; rfl; rfl; (exact ZUP); exact frac_size; rfl; rfl; rfl; clear K r; intro W K; have r := K.rawS))
      replace K : St w0 ([] ++ (((b1, #[.int .i64 g1.s, .slice g1.A g1.n g1.c, .int .i64 g1.t, .slice g1.B g1.m g1.d], 40) : Blk) :: ((b0, #[.slice (some ⟨gb, go, none⟩) n cap, .slice A' m cap'], 58) : Blk) :: Lk)) _ _ := K.rwNew 0
      clear r y0 y1 y2 y3
      go_loopg [11, 25] m (fun gk s11 s25 wr => ∃ (k : Nat) (u : Nat → Rw) (val : Value) (X : List Blk), k ≤ m ∧ gk = m - k ∧ s11 = val ∧ s25 = .int .i64 k ∧ Hid (∀ i, i < k → isQ (u i) (rwA2 ls i j)) ∧ Hid (OwL 4 Rw.cs 40 val (ofF k u) X) ∧ St w0 (X ++ (((b1, #[.int .i64 g1.s, .slice g1.A g1.n g1.c, .int .i64 g1.t, .slice g1.B g1.m g1.d], 40) : Blk) :: ((b0, #[.slice (some ⟨gb, go, none⟩) n cap, .slice A' m cap'], 58) : Blk) :: Lk)) (⟨rwP k u, rwS k u⟩ :: ⟨rdP g1.B g1.m g1.d g1.k, rdS g1.B g1.m⟩ :: ⟨rdP g1.A g1.n g1.c g1.l, rdS g1.A g1.n⟩ :: D) wr)
      case atStart => exact ⟨0, fun _ => Rw.zero, _, [], Nat.zero_le _, rfl, rfl, rfl, Lib.hid (fun i h => absurd h (by omega)), Lib.hid OwL.nil, K⟩
      case round =>
        clear K
        obtain ⟨k, u, val, X, hk, rfl, rfl, rfl, HA, Ho, K⟩ := hrel
        by_cases hlk : k < m
        · exact ZU1
        · have e : m = k := by omega
          subst e
          have hlkd : decide (m < m) = false := decide_eq_false hlk
          obtain ⟨Ac, cc, hv, K⟩ := K.fxOwL Ho.out ZMB (by omega)
          subst hv
          clear Ho hlk
          have r := K.rawS
          obtain ⟨g, hg⟩ : ∃ g : Rw, g = g1 := ⟨_, rfl⟩
          subst hg
          have HQ := HQ1
          go_upto_region 12 with fail
          clear HQ1
          have hcc := K.fxCap (A := Ac) (n := m) (cap := cc) (v := u) ZMB
          have K0 := K.drew
          obtain ⟨bn, hbn⟩ : ∃ bn, bn = (bk || !prdK y (fun i => rwA2 ls i j) m) := ⟨_, rfl⟩
          obtain ⟨Ln, hU1, hU2⟩ := HU.out.next (Value.bool bn :: R).toArray
          have HU2 := Lib.hid hU2
          have HBn := Lib.hid hbn
          have HPr := Lib.hid (product_any w0 _ _ (((b1, #[.int .i64 g.s, .slice g.A g.n g.c, .int .i64 g.t, .slice g.B g.m g.d], 40) : Blk) :: ((b0, #[.slice (some ⟨gb, go, none⟩) n cap, .slice A' m cap'], 58) : Blk) :: Ln) _ mb bk bn R T B Ac m capx m cc v u y (fun i => rwA2 ls i j) K0 (by repeat (first | exact M2.out | with_reducible apply List.mem_cons_of_mem)) ZMB ⟨Nat.le_refl _, by omega⟩ HY.out HA.out hbn (.tail _ (.tail _ hU1)))
          have HCm := Lib.hid (fun V (y2 : Rw) (z2 : Rat) (hz : isQ y2 z2) (h : St w0 (((b1, #[.int .i64 g.s, .slice g.A g.n g.c, .int .i64 g.t, .slice g.B g.m g.d], 40) : Blk) :: ((b0, #[.slice (some ⟨gb, go, none⟩) n cap, .slice A' m cap'], 58) : Blk) :: Ln) (⟨rdP y2.B y2.m y2.d y2.k, rdS y2.B y2.m⟩ :: ⟨rdP y2.A y2.n y2.c y2.l, rdS y2.A y2.n⟩ :: (⟨fxP Ac m cc u, fxS Ac m u⟩ : Hl) :: ⟨rwP m u, rwS m u⟩ :: ⟨rdP g.B g.m g.d g.k, rdS g.B g.m⟩ :: ⟨rdP g.A g.n g.c g.l, rdS g.A g.n⟩ :: D) V) => callCmp h hz HQ.out ZMB ZMB ZMB ZMB)
          have HSA := Lib.hid (fun V D2 Lx (h : St w0 (((b1, #[.int .i64 g.s, .slice g.A g.n g.c, .int .i64 g.t, .slice g.B g.m g.d], 40) : Blk) :: Lx) D2 V) => (show (V.cell? ⟨b1, 0, none⟩ = some (.int .i64 g.s) ∧ V.cell? ⟨b1, 1, none⟩ = some (.slice g.A g.n g.c) ∧ V.cell? ⟨b1, 2, none⟩ = some (.int .i64 g.t) ∧ V.cell? ⟨b1, 3, none⟩ = some (.slice g.B g.m g.d)) from ⟨(h.blk ZMB).cell (j := 0) rfl, (h.blk ZMB).cell (j := 1) rfl, (h.blk ZMB).cell (j := 2) rfl, (h.blk ZMB).cell (j := 3) rfl⟩))
          have s0 := HSA.out _ _ _ K0
          clear hU1 hU2 hbn HU K r
          refine wp_region_T 100 (fun V => (V.cell? ⟨b1, 0, none⟩ = some (.int .i64 g.s) ∧ V.cell? ⟨b1, 1, none⟩ = some (.slice g.A g.n g.c) ∧ V.cell? ⟨b1, 2, none⟩ = some (.int .i64 g.t) ∧ V.cell? ⟨b1, 3, none⟩ = some (.slice g.B g.m g.d))) (by kernel_rfl) s0 (fun hSh => ?_)
          clear s0
          refine wpAnyT.tkA 0 rfl ?_
          refine wpAnyT.tkA 1 rfl ?_
          refine wpAnyT.tkA 2 rfl ?_
          refine wpAnyT.tkA 4 rfl ?_
          refine wpAnyT.on 3 rfl fun KK hKK => ?_
          go_simp
          go_at_call 80; refine HPr.out.mono ?_; rintro e w5 ⟨y2, z2, rfl, g2, k5⟩
          go_wp2_with fail
          refine hKK.out _ _ ?_ (fun hSh => ?_)
          · exact HSA.out _ _ _ k5
          clear hKK KK
          refine ZPT ?_
          refine wpAnyT.on 5 rfl fun KK hKK => ?_
          go_simp
          go_at_call 52; refine (HCm.out _ _ _ g2.out.1 k5).mono ?_; rintro e w6 ⟨rfl, k6⟩
          go_wp2_with fail
          refine hKK.out _ _ ?_ (fun hSh => ?_)
          · exact HSA.out _ _ _ k6
          clear hKK KK
          refine ZPT ?_
          have hst := sums_step (q := decide ((fvR l) j ≤ z2)) HS.out HBn.out (p := fun k => decide ((fvR l) k ≤ smQ (fun i => y i * rwA2 ls i k) m)) (t := fun k => prdK y (fun i => rwA2 ls i k) m) (fun h => by rw [g2.out.2 h])
          have Hst := Lib.hid hst
          have HK := Lib.hid ((k6.lessS (D' := D) (by repeat (first | with_reducible exact List.Sublist.refl _ | with_reducible apply List.Sublist.cons))).part (List.sublist_cons_self _ _))
          clear hst k5 K0 HPr HCm HSA g2 HBn HS HA HQ HY HRow
          by_cases hle : (fvR l) j ≤ z2
          · have hc : ¬ cmpQ z2 ((fvR l) j) < 0 := cmpQ_lt.2 hle
            have hcd : decide (cmpQ z2 ((fvR l) j) < 0) = false := decide_eq_false hc
            exact ZU9
          · have hc : cmpQ z2 ((fvR l) j) < 0 := by
              have : ¬ ¬ cmpQ z2 ((fvR l) j) < 0 := fun h => hle (cmpQ_lt.1 h)
              omega
            have hcd : decide (cmpQ z2 ((fvR l) j) < 0) = true := decide_eq_true hc
            exact ZU7
    · have e : n = j := by omega
      subst e
      have HE := Lib.hid (⟨true, bk, Lk, rfl, HU, Lib.hid (by rw [Bool.true_and]; exact HS.out), K.part (List.sublist_cons_self _ _)⟩ : SumP w0 mb R T b L9 D (covB m n (rwA2 ls) (fvR l) y) (.returned (.bool true)) wr)
      exact ZU13
end Go.Proofs.Ytdlcglndhhndpaa
namespace Go.Proofs.Ytdlcglndhhndpaa
open Go.RowKit
def zeroC (_ : Nat) : Rat := 0
set_option maxRecDepth 100000 in
set_option maxHeartbeats 8000000 in
theorem covers0_any (w0 W : World) (L : List Blk) (D : List Hl) (mb : Nat) (b : Bool) (R : List Value) (T : TypeId) (A A' B : Option Addr) (n cap m cap' capx : Nat) (l : List Fv) (ls : List Rv) (v : Nat → Rw) (y : Nat → Rat)
    (K : St w0 L D W) (hmb : (mb, (Value.bool b :: R).toArray, T) ∈ L) (hl : RdF w0 w0.heap.size A n cap l) (hr : RdR w0 w0.heap.size A' m cap' ls) (hok : l.all Fv.ok = true) (hrow : ∀ (k : Nat) (X : Rv), ls[k]? = some X → rowF n X = true) (m2 : (⟨fxP B m capx v, fxS B m v⟩ : Hl) ∈ D) (hm : m ≤ 1000) (hy : ∀ i, i < m → isQ (v i) (y i)) :
    Calls Try.prog 79 #[.pointer (some ⟨mb, 0, none⟩), .agg #[.slice A n cap, .slice A' m cap'], .slice B m capx, .bool true] W (SumP w0 mb R T b L D (covB m n (rwA2 ls) zeroC y)) := by
  have HY := Lib.hid hy
  have HZ := Lib.hid pzero_any
  have M2 := Lib.hid m2
  have HL := Lib.hid hr
  have HG := Lib.hid hl
  have HRow := Lib.hid hrow
  have HOk := Lib.hid hok
  have hcap := hl.caps
  have hcap' := hr.caps
  have hcapx := K.fxCap m2
  obtain ⟨L9, hU9, rfl⟩ := Upd.same hmb
  have HU0 := Lib.hid hU9
  clear hy hr hl hrow hok hmb hU9 m2
  have r := K.raw
  go_enter Try.func79, Try.ntmps79
  go_wp2_with (apply K.box; rfl; rfl; rfl; clear K r; intro W b0 K; have r := K.rawS)
  go_loopg [17] n (fun gk s17 wr => ∃ (j : Nat) (bk : Bool) (Lk : List Blk), j ≤ n ∧ gk = n - j ∧ s17 = .int .i64 j ∧ Hid (Upd mb (Value.bool b :: R).toArray T (Value.bool bk :: R).toArray L9 Lk) ∧ Hid ((!bk) = (!b && sumsB (fun k => prdK y (fun i => rwA2 ls i k) m) (fun k => decide (zeroC k ≤ smQ (fun i => y i * rwA2 ls i k) m)) j)) ∧ St w0 ((b0, #[.slice A n cap, .slice A' m cap'], 58) :: Lk) D wr)
  case atStart => exact ⟨0, b, L9, Nat.zero_le _, rfl, rfl, HU0, Lib.hid (by simp [sumsB]), K⟩
  case round =>
    clear K r HU0
    obtain ⟨j, bk, Lk, hj, rfl, rfl, HU, HS, K⟩ := hrel
    by_cases hlt : j < n
    · obtain ⟨gb, go, A1, n1, c1, B1, m1, d1, X, hA, hbB, hX, ⟨z0, z1, z2, z3⟩, r1, r2⟩ := HG.out.atF hlt
      subst hA
      have hji : (j : Int) < (n : Int) := by omega
      have hj0 : (0 : Int) ≤ (j : Int) := by omega
      have y0 := (K.1.cell (p := ⟨gb, go + j * 4, none⟩) hbB).trans z0
      have y1 := (K.1.cell (p := ⟨gb, go + j * 4 + 1, none⟩) hbB).trans z1
      have y2 := (K.1.cell (p := ⟨gb, go + j * 4 + 2, none⟩) hbB).trans z2
      have y3 := (K.1.cell (p := ⟨gb, go + j * 4 + 3, none⟩) hbB).trans z3
      have hc1 := r1.caps
      have hc2 := r2.caps
      obtain ⟨g1, hg1⟩ : ∃ g1 : Rw, g1 = ⟨X.s, A1, n1, c1, X.l, X.t, B1, m1, d1, X.m⟩ := ⟨_, rfl⟩
      have HQ1 := Lib.hid (show isQ g1 (fvR l j) from by
        exact ZU14)
      replace K : St w0 ((b0, #[.slice (some ⟨gb, go, none⟩) n cap, .slice A' m cap'], 58) :: Lk) (⟨rdP g1.B g1.m g1.d g1.k, rdS g1.B g1.m⟩ :: ⟨rdP g1.A g1.n g1.c g1.l, rdS g1.A g1.n⟩ :: D) wr := by rw [hg1]; exact (K.rdOld r1).rdOld r2
      replace y0 : wr.cell? ⟨gb, go + j * 4, none⟩ = some (.int .i64 g1.s) := by rw [hg1]; exact y0
      replace y1 : wr.cell? ⟨gb, go + j * 4 + 1, none⟩ = some (.slice g1.A g1.n g1.c) := by rw [hg1]; exact y1
      replace y2 : wr.cell? ⟨gb, go + j * 4 + 2, none⟩ = some (.int .i64 g1.t) := by rw [hg1]; exact y2
      replace y3 : wr.cell? ⟨gb, go + j * 4 + 3, none⟩ = some (.slice g1.B g1.m g1.d) := by rw [hg1]; exact y3
      replace hc1 : g1.n ≤ g1.c ∧ g1.c ≤ 9223372036854775807 ∧ g1.n ≤ 140737488351232 := by rw [hg1]; exact hc1
      replace hc2 : g1.m ≤ g1.d ∧ g1.d ≤ 9223372036854775807 ∧ g1.m ≤ 140737488351232 := by rw [hg1]; exact hc2
      clear hX z0 z1 z2 z3 r1 r2 hg1
      have r := K.rawS
      go_wp2_with (first
        | (apply K.alloc; rfl; rfl; exact frac_zero; clear K r; intro W b1 K; have r := K.rawS)
        | (apply K.storeA; rfl; rfl; rfl; rfl; rfl; (exact ZUP); exact frac_size; rfl; rfl; rfl; clear K r; intro W K; have r := K.rawS))
      replace K : St w0 ([] ++ (((b1, #[.int .i64 g1.s, .slice g1.A g1.n g1.c, .int .i64 g1.t, .slice g1.B g1.m g1.d], 40) : Blk) :: ((b0, #[.slice (some ⟨gb, go, none⟩) n cap, .slice A' m cap'], 58) : Blk) :: Lk)) _ _ := K.rwNew 0
      clear r y0 y1 y2 y3
      go_loopg [11, 25] m (fun gk s11 s25 wr => ∃ (k : Nat) (u : Nat → Rw) (val : Value) (X : List Blk), k ≤ m ∧ gk = m - k ∧ s11 = val ∧ s25 = .int .i64 k ∧ Hid (∀ i, i < k → isQ (u i) (rwA2 ls i j)) ∧ Hid (OwL 4 Rw.cs 40 val (ofF k u) X) ∧ St w0 (X ++ (((b1, #[.int .i64 g1.s, .slice g1.A g1.n g1.c, .int .i64 g1.t, .slice g1.B g1.m g1.d], 40) : Blk) :: ((b0, #[.slice (some ⟨gb, go, none⟩) n cap, .slice A' m cap'], 58) : Blk) :: Lk)) (⟨rwP k u, rwS k u⟩ :: ⟨rdP g1.B g1.m g1.d g1.k, rdS g1.B g1.m⟩ :: ⟨rdP g1.A g1.n g1.c g1.l, rdS g1.A g1.n⟩ :: D) wr)
      case atStart => exact ⟨0, fun _ => Rw.zero, _, [], Nat.zero_le _, rfl, rfl, rfl, Lib.hid (fun i h => absurd h (by omega)), Lib.hid OwL.nil, K⟩
      case round =>
        clear K
        obtain ⟨k, u, val, X, hk, rfl, rfl, rfl, HA, Ho, K⟩ := hrel
        by_cases hlk : k < m
        · exact ZU1
        · have e : m = k := by omega
          subst e
          have hlkd : decide (m < m) = false := decide_eq_false hlk
          obtain ⟨Ac, cc, hv, K⟩ := K.fxOwL Ho.out ZMB (by omega)
          subst hv
          clear Ho hlk
          have r := K.rawS
          go_wp2_with fail
          refine (HZ.out _).mono ?_
          rintro e W5 ⟨s7, A7, n7, c7, l7, t7, B7, m7, d7, k7, rfl, ⟨hra, hrb⟩, ho, ⟨hfa, hfb⟩, hb⟩
          replace K := K.retF hb hra hrb hfa hfb
          have HO := Lib.hid ho
          clear r hra hrb hfa hfb hb ho
          have r := K.rawS
          go_upto_region 12 with (apply K.storeA; rfl; rfl; rfl; rfl; rfl; (exact ZUP); exact frac_size; rfl; rfl; rfl; clear K r; intro W K)
          obtain ⟨g, hg⟩ : ∃ g : Rw, g = ⟨s7, A7, n7, c7, l7, t7, B7, m7, d7, k7⟩ := ⟨_, rfl⟩
          have HQ : Hid (isQ g (zeroC j)) := Lib.hid (by rw [hg]; exact ⟨HO.out, fitsF_zero⟩)
          replace K : St w0 (((b1, #[.int .i64 g.s, .slice g.A g.n g.c, .int .i64 g.t, .slice g.B g.m g.d], 40) : Blk) :: ((b0, #[.slice (some ⟨gb, go, none⟩) n cap, .slice A' m cap'], 58) : Blk) :: Lk) (⟨rdP g.B g.m g.d g.k, rdS g.B g.m⟩ :: ⟨rdP g.A g.n g.c g.l, rdS g.A g.n⟩ :: (⟨fxP Ac m cc u, fxS Ac m u⟩ : Hl) :: ⟨rwP m u, rwS m u⟩ :: ⟨rdP g1.B g1.m g1.d g1.k, rdS g1.B g1.m⟩ :: ⟨rdP g1.A g1.n g1.c g1.l, rdS g1.A g1.n⟩ :: D) W := by rw [hg]; exact K
          have r := K.rawS
          clear HQ1 HO hg
          have hcc := K.fxCap (A := Ac) (n := m) (cap := cc) (v := u) ZMB
          have K0 := K.drew
          obtain ⟨bn, hbn⟩ : ∃ bn, bn = (bk || !prdK y (fun i => rwA2 ls i j) m) := ⟨_, rfl⟩
          obtain ⟨Ln, hU1, hU2⟩ := HU.out.next (Value.bool bn :: R).toArray
          have HU2 := Lib.hid hU2
          have HBn := Lib.hid hbn
          have HPr := Lib.hid (product_any w0 _ _ (((b1, #[.int .i64 g.s, .slice g.A g.n g.c, .int .i64 g.t, .slice g.B g.m g.d], 40) : Blk) :: ((b0, #[.slice (some ⟨gb, go, none⟩) n cap, .slice A' m cap'], 58) : Blk) :: Ln) _ mb bk bn R T B Ac m capx m cc v u y (fun i => rwA2 ls i j) K0 (by repeat (first | exact M2.out | with_reducible apply List.mem_cons_of_mem)) ZMB ⟨Nat.le_refl _, by omega⟩ HY.out HA.out hbn (.tail _ (.tail _ hU1)))
          have HCm := Lib.hid (fun V (y2 : Rw) (z2 : Rat) (hz : isQ y2 z2) (h : St w0 (((b1, #[.int .i64 g.s, .slice g.A g.n g.c, .int .i64 g.t, .slice g.B g.m g.d], 40) : Blk) :: ((b0, #[.slice (some ⟨gb, go, none⟩) n cap, .slice A' m cap'], 58) : Blk) :: Ln) (⟨rdP y2.B y2.m y2.d y2.k, rdS y2.B y2.m⟩ :: ⟨rdP y2.A y2.n y2.c y2.l, rdS y2.A y2.n⟩ :: ⟨rdP g.B g.m g.d g.k, rdS g.B g.m⟩ :: ⟨rdP g.A g.n g.c g.l, rdS g.A g.n⟩ :: (⟨fxP Ac m cc u, fxS Ac m u⟩ : Hl) :: ⟨rwP m u, rwS m u⟩ :: ⟨rdP g1.B g1.m g1.d g1.k, rdS g1.B g1.m⟩ :: ⟨rdP g1.A g1.n g1.c g1.l, rdS g1.A g1.n⟩ :: D) V) => callCmp h hz HQ.out ZMB ZMB ZMB ZMB)
          have HSA := Lib.hid (fun V D2 Lx (h : St w0 (((b1, #[.int .i64 g.s, .slice g.A g.n g.c, .int .i64 g.t, .slice g.B g.m g.d], 40) : Blk) :: Lx) D2 V) => (show (V.cell? ⟨b1, 0, none⟩ = some (.int .i64 g.s) ∧ V.cell? ⟨b1, 1, none⟩ = some (.slice g.A g.n g.c) ∧ V.cell? ⟨b1, 2, none⟩ = some (.int .i64 g.t) ∧ V.cell? ⟨b1, 3, none⟩ = some (.slice g.B g.m g.d)) from ⟨(h.blk ZMB).cell (j := 0) rfl, (h.blk ZMB).cell (j := 1) rfl, (h.blk ZMB).cell (j := 2) rfl, (h.blk ZMB).cell (j := 3) rfl⟩))
          have s0 := HSA.out _ _ _ K0
          clear hU1 hU2 hbn HU K r
          refine wp_region_T 100 (fun V => (V.cell? ⟨b1, 0, none⟩ = some (.int .i64 g.s) ∧ V.cell? ⟨b1, 1, none⟩ = some (.slice g.A g.n g.c) ∧ V.cell? ⟨b1, 2, none⟩ = some (.int .i64 g.t) ∧ V.cell? ⟨b1, 3, none⟩ = some (.slice g.B g.m g.d))) (by kernel_rfl) s0 (fun hSh => ?_)
          clear s0
          refine wpAnyT.tkA 0 rfl ?_
          refine wpAnyT.tkA 1 rfl ?_
          refine wpAnyT.tkA 2 rfl ?_
          refine wpAnyT.tkA 4 rfl ?_
          refine wpAnyT.on 3 rfl fun KK hKK => ?_
          go_simp
          go_at_call 80; refine HPr.out.mono ?_; rintro e w5 ⟨y2, z2, rfl, g2, k5⟩
          go_wp2_with fail
          refine hKK.out _ _ ?_ (fun hSh => ?_)
          · exact HSA.out _ _ _ k5
          clear hKK KK
          refine ZPT ?_
          refine wpAnyT.on 5 rfl fun KK hKK => ?_
          go_simp
          go_at_call 52; refine (HCm.out _ _ _ g2.out.1 k5).mono ?_; rintro e w6 ⟨rfl, k6⟩
          go_wp2_with fail
          refine hKK.out _ _ ?_ (fun hSh => ?_)
          · exact HSA.out _ _ _ k6
          clear hKK KK
          refine ZPT ?_
          have hst := sums_step (q := decide (zeroC j ≤ z2)) HS.out HBn.out (p := fun k => decide (zeroC k ≤ smQ (fun i => y i * rwA2 ls i k) m)) (t := fun k => prdK y (fun i => rwA2 ls i k) m) (fun h => by rw [g2.out.2 h])
          have Hst := Lib.hid hst
          have HK := Lib.hid ((k6.lessS (D' := D) (by repeat (first | with_reducible exact List.Sublist.refl _ | with_reducible apply List.Sublist.cons))).part (List.sublist_cons_self _ _))
          clear hst k5 K0 HPr HCm HSA g2 HBn HS HA HQ HY HRow
          by_cases hle : zeroC j ≤ z2
          · have hc : ¬ cmpQ z2 (zeroC j) < 0 := cmpQ_lt.2 hle
            have hcd : decide (cmpQ z2 (zeroC j) < 0) = false := decide_eq_false hc
            exact ZU9
          · have hc : cmpQ z2 (zeroC j) < 0 := by
              have : ¬ ¬ cmpQ z2 (zeroC j) < 0 := fun h => hle (cmpQ_lt.1 h)
              omega
            have hcd : decide (cmpQ z2 (zeroC j) < 0) = true := decide_eq_true hc
            exact ZU7
    · have e : n = j := by omega
      subst e
      have HE := Lib.hid (⟨true, bk, Lk, rfl, HU, Lib.hid (by rw [Bool.true_and]; exact HS.out), K.part (List.sublist_cons_self _ _)⟩ : SumP w0 mb R T b L9 D (covB m n (rwA2 ls) zeroC y) (.returned (.bool true)) wr)
      exact ZU13
end Go.Proofs.Ytdlcglndhhndpaa
