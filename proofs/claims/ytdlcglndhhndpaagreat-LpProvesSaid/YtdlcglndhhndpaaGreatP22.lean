/- Laws and walks; conditions stand in each theorem. -/
import Derived.Test.YtdlcglndhhndpaaGreatP21
set_option linter.unusedSimpArgs false
set_option linter.unusedVariables false
set_option maxHeartbeats 4000000
set_option maxRecDepth 100000
namespace Go.Proofs.YtdlcglndhhndpaaGreat
open Go.RowKit
theorem ZQ41 {p : Prop} (h : p := by
 first
  | (have HN := Lib.hid (Hst.out.2 (decide_eq_false hle))
     clear Hst hle
     refine wpAnyT.tkA 7 rfl ?_
     refine wpAnyT.done (by kernel_rfl) ?_
     clear hSh
     go_wp2_with fail
     go_ret
     exact ⟨false, bn, Ln, rfl, HU2, Lib.hid (by
      rw [Bool.false_and]
      cases hb : b
      · have h := HN.out
        rw [hb] at h
        unfold belB
        rw [sumsB_bad hlt (by simpa using h)]
        rfl
      · rfl), HK.out.part (List.sublist_append_right [_, _, _] _)⟩)
  | fail) : p := h
theorem ZQ44 {p : Prop} (h : p := by
 first
  | (have h1 := hu i hi
     have h2 : (u i).fv.ok = true := List.all_eq_true.1 hF.2 _ (List.mem_of_getElem? h1)
     have h3 := fv_std h2
     unfold rwA2
     rw [hX, Option.bind_some, h1, Option.map_some, Option.getD_some]
     exact h3)
  | fail) : p := h
theorem ZQ55 {p : Prop} (h : p := by
 first
  | (have HN := Lib.hid (Hst.out.1 (decide_eq_true hle))
     clear Hst hle
     refine wpAnyT.tkA 7 rfl ?_
     refine wpAnyT.done (by kernel_rfl) ?_
     clear hSh
     go_wp2_with fail
     go_roundg (m - (k + 1))
     case rel => exact ⟨k + 1, bn, Ln, hlt, rfl, by go_num, HU2, HN, HK.out.part (List.sublist_append_right [_, _] _)⟩
     case measure => omega)
  | fail) : p := h
theorem ZQ105 {p : Prop} (h : p := by
 first
  | (clear K HU HS hlt
     go_wp2_with fail
     go_ret
     exact HE.out)
  | fail) : p := h
def rwA2 (ls : List Rv) (i j : Nat) : Rat := ((ls[i]?.bind fun r => r.a[j]?).map Fv.rat).getD 0
def rwB2 (ls : List Rv) (zero : Bool) (i : Nat) : Rat := if zero = true then 0 else ((ls[i]?).map fun r => r.b.rat).getD 0
theorem Upd.next {b : Nat} {cs cs1 : Array Value} {t : TypeId} {L L1 : List Blk} (cs2 : Array Value) (h : Upd b cs t cs1 L L1) : ∃ L2, Upd b cs1 t cs2 L1 L2 ∧ Upd b cs t cs2 L L2 := by
 induction h with
 | head L => exact ⟨_, .head L, .head L⟩
 | tail x h ih =>
  obtain ⟨L2, h1, h2⟩ := ih
  exact ⟨_, .tail x h1, .tail x h2⟩
theorem St.rdOld {w W : World} {L : List Blk} {D : List Hl} {A : Option Addr} {n cap : Nat} {l : List Int} (K : St w L D W) (h : RdI w w.heap.size A n cap l) : St w L (⟨rdP A n cap l, rdS A n⟩ :: D) W :=
 K.add ⟨h.up (flat_lasts _) K.1, fun b hS => ⟨Nat.lt_of_lt_of_le (Rd.sup h hS) K.1.size, fun p hp e => by
  have g1 := (K.2.1 p hp).1
  have g2 := Rd.sup h hS
  omega⟩, fun W' h1 h2 => rdP_keep (h.up (flat_lasts _) K.1) h1 h2⟩
theorem below_any (w0 W : World) (L : List Blk) (D : List Hl) (mb : Nat) (b : Bool) (R : List Value) (T : TypeId) (A A' B : Option Addr) (n cap m cap' n' capx : Nat) (ls : List Rv) (v : Nat → Rw) (x : Nat → Rat)
 (K : St w0 L D W) (hmb : (mb, (Value.bool b :: R).toArray, T) ∈ L) (hr : RdR w0 w0.heap.size A' m cap' ls) (hrow : ∀ (k : Nat) (X : Rv), ls[k]? = some X → rowF n X = true) (m2 : (⟨fxP B n' capx v, fxS B n' v⟩ : Hl) ∈ D) (hn : n ≤ n' ∧ n ≤ 1000000) (hx : ∀ i, i < n → isQ (v i) (x i)) :
 Calls Tryz.prog 74 #[.pointer (some ⟨mb, 0, none⟩), .agg #[.slice A n cap, .slice A' m cap'], .slice B n' capx, .bool false] W (SumP w0 mb R T b L D (belB m n (rwA2 ls) (rwB2 ls false) x)) := by
 have HX := Lib.hid hx
 have M2 := Lib.hid m2
 have HL := Lib.hid hr
 have HRow := Lib.hid hrow
 have hcap' := hr.caps
 have hcap := K.fxCap m2
 obtain ⟨L9, hU9, rfl⟩ := Upd.same hmb
 have HU0 := Lib.hid hU9
 clear hx hr hrow hmb hU9 m2
 have r := K.raw
 go_enter Tryz.func74, Tryz.ntmps74
 go_wp2_with (first | (apply K.box; rfl; rfl; rfl; clear K r; intro W b0 K; have r := K.rawS) | (apply K.alloc; rfl; rfl; exact row_zero; clear K r; intro W b1 K; have r := K.rawS) | (apply K.alloc; rfl; rfl; exact frac_zero; clear K r; intro W b2 K; have r := K.rawS) | (apply K.storeA; rfl; rfl; rfl; rfl; rfl; (exact ZUP); (first | exact row_size | exact frac_size); rfl; rfl; rfl; clear K r; intro W K; have r := K.rawS))
 go_loopg [15] m (fun gk s15 wr => ∃ (k : Nat) (bk : Bool) (Lk : List Blk), k ≤ m ∧ gk = m - k ∧ s15 = .int .i64 k ∧ Hid (Upd mb (Value.bool b :: R).toArray T (Value.bool bk :: R).toArray L9 Lk) ∧ Hid ((!bk) = (!b && sumsB (fun i => prdK (rwA2 ls i) x n) (fun i => decide (smQ (fun j => rwA2 ls i j * x j) n ≤ rwB2 ls false i)) k)) ∧ St w0 ((b0, #[.slice A n cap, .slice A' m cap'], 38) :: Lk) D wr)
 case atStart => exact ⟨0, b, L9, Nat.zero_le _, rfl, rfl, HU0, Lib.hid (by simp [sumsB]), K⟩
 case round =>
  clear K r HU0
  obtain ⟨k, bk, Lk, hk, rfl, rfl, HU, HS, K⟩ := hrel
  by_cases hlt : k < m
  · obtain ⟨eb, eo, A0, n0, c0, A1, n1, c1, A2, n2, c2, X, hA, hbB, hX, ⟨z0, z1, z2, z3, z4⟩, r0, r1, r2⟩ := HL.out.atR hlt
    subst hA
    have hki : (k : Int) < (m : Int) := by omega
    have hk0 : (0 : Int) ≤ (k : Int) := by omega
    have y0 := (K.1.cell (p := ⟨eb, eo + k * 5, none⟩) hbB).trans z0
    have y1 := (K.1.cell (p := ⟨eb, eo + k * 5 + 1, none⟩) hbB).trans z1
    have y2 := (K.1.cell (p := ⟨eb, eo + k * 5 + 2, none⟩) hbB).trans z2
    have y3 := (K.1.cell (p := ⟨eb, eo + k * 5 + 3, none⟩) hbB).trans z3
    have y4 := (K.1.cell (p := ⟨eb, eo + k * 5 + 4, none⟩) hbB).trans z4
    have hc0 := r0.caps
    have hc1 := r1.caps
    have hc2 := r2.caps
    have hF := HRow.out k X hX
    unfold rowF at hF
    rw [Bool.and_eq_true, Bool.and_eq_true, decide_eq_true_eq] at hF
    have hn0 : n0 = n := by have := hF.1.1; have := r0.len; omega
    subst hn0
    obtain ⟨u, hu, K⟩ := K.fxOld r0
    have hQ := fv_std hF.1.2
    have HA := Lib.hid (show ∀ i, i < n0 → isQ (u i) (rwA2 ls k i) from fun i hi => by
     exact ZQ44)
    have HQ := Lib.hid (show isQ (⟨X.b.s, A1, n1, c1, X.b.l, X.b.t, A2, n2, c2, X.b.m⟩ : Rw) (rwB2 ls false k) from by
     unfold rwB2
     rw [if_neg (by decide), hX, Option.map_some, Option.getD_some]
     exact hQ)
    replace K := (K.rdOld r1).rdOld r2
    clear hX z0 z1 z2 z3 z4 r0 r1 r2 hF hu hQ
    have r := K.rawS
    go_upto_region 7 with (first | (apply K.box; rfl; rfl; rfl; clear K r; intro W b0 K; have r := K.rawS) | (apply K.alloc; rfl; rfl; exact row_zero; clear K r; intro W b1 K; have r := K.rawS) | (apply K.alloc; rfl; rfl; exact frac_zero; clear K r; intro W b2 K; have r := K.rawS) | (apply K.storeA; rfl; rfl; rfl; rfl; rfl; (exact ZUP); (first | exact row_size | exact frac_size); rfl; rfl; rfl; clear K r; intro W K; have r := K.rawS))
    have K0 := K.drew
    have r0 := K0.rawS
    have s0 : W.drew.cell? ⟨b1, 0, none⟩ = some (.slice A0 n0 c0) ∧ W.drew.cell? ⟨b2, 0, none⟩ = some (.int .i64 X.b.s) ∧ W.drew.cell? ⟨b2, 1, none⟩ = some (.slice A1 n1 c1) ∧ W.drew.cell? ⟨b2, 2, none⟩ = some (.int .i64 X.b.t) ∧ W.drew.cell? ⟨b2, 3, none⟩ = some (.slice A2 n2 c2) := ⟨r0.2.1.1, r0.1⟩
    obtain ⟨bn, hbn⟩ : ∃ bn, bn = (bk || !prdK (rwA2 ls k) x n0) := ⟨_, rfl⟩
    obtain ⟨Ln, hU1, hU2⟩ := HU.out.next (Value.bool bn :: R).toArray
    have HU1 := Lib.hid hU1
    have HU2 := Lib.hid hU2
    have HBn := Lib.hid hbn
    have HPr := Lib.hid (product_any w0 W.drew _ ((b2, #[.int .i64 ((⟨X.b.s, A1, n1, c1, X.b.l, X.b.t, A2, n2, c2, X.b.m⟩ : Rw)).s, .slice ((⟨X.b.s, A1, n1, c1, X.b.l, X.b.t, A2, n2, c2, X.b.m⟩ : Rw)).A ((⟨X.b.s, A1, n1, c1, X.b.l, X.b.t, A2, n2, c2, X.b.m⟩ : Rw)).n ((⟨X.b.s, A1, n1, c1, X.b.l, X.b.t, A2, n2, c2, X.b.m⟩ : Rw)).c, .int .i64 ((⟨X.b.s, A1, n1, c1, X.b.l, X.b.t, A2, n2, c2, X.b.m⟩ : Rw)).t, .slice ((⟨X.b.s, A1, n1, c1, X.b.l, X.b.t, A2, n2, c2, X.b.m⟩ : Rw)).B ((⟨X.b.s, A1, n1, c1, X.b.l, X.b.t, A2, n2, c2, X.b.m⟩ : Rw)).m ((⟨X.b.s, A1, n1, c1, X.b.l, X.b.t, A2, n2, c2, X.b.m⟩ : Rw)).d], 50) :: (b1, #[.slice A0 n0 c0, .int .i64 X.b.s, .slice A1 n1 c1, .int .i64 X.b.t, .slice A2 n2 c2], 56) :: (b0, #[.slice A n0 cap, .slice (some ⟨eb, eo, none⟩) m cap'], 38) :: Ln) _ mb bk bn R T A0 B n0 c0 n' capx u v (rwA2 ls k) x K0 ZMB (by repeat (first | exact M2.out | with_reducible apply List.mem_cons_of_mem)) hn HA.out HX.out hbn (.tail _ (.tail _ (.tail _ hU1))))
    have HCm := Lib.hid (fun V (y2 : Rw) (z2 : Rat) (hz : isQ y2 z2) (h : St w0 ((b2, #[.int .i64 ((⟨X.b.s, A1, n1, c1, X.b.l, X.b.t, A2, n2, c2, X.b.m⟩ : Rw)).s, .slice ((⟨X.b.s, A1, n1, c1, X.b.l, X.b.t, A2, n2, c2, X.b.m⟩ : Rw)).A ((⟨X.b.s, A1, n1, c1, X.b.l, X.b.t, A2, n2, c2, X.b.m⟩ : Rw)).n ((⟨X.b.s, A1, n1, c1, X.b.l, X.b.t, A2, n2, c2, X.b.m⟩ : Rw)).c, .int .i64 ((⟨X.b.s, A1, n1, c1, X.b.l, X.b.t, A2, n2, c2, X.b.m⟩ : Rw)).t, .slice ((⟨X.b.s, A1, n1, c1, X.b.l, X.b.t, A2, n2, c2, X.b.m⟩ : Rw)).B ((⟨X.b.s, A1, n1, c1, X.b.l, X.b.t, A2, n2, c2, X.b.m⟩ : Rw)).m ((⟨X.b.s, A1, n1, c1, X.b.l, X.b.t, A2, n2, c2, X.b.m⟩ : Rw)).d], 50) :: (b1, #[.slice A0 n0 c0, .int .i64 X.b.s, .slice A1 n1 c1, .int .i64 X.b.t, .slice A2 n2 c2], 56) :: (b0, #[.slice A n0 cap, .slice (some ⟨eb, eo, none⟩) m cap'], 38) :: Ln) (⟨rdP y2.B y2.m y2.d y2.k, rdS y2.B y2.m⟩ :: ⟨rdP y2.A y2.n y2.c y2.l, rdS y2.A y2.n⟩ :: ⟨rdP A2 n2 c2 X.b.m, rdS A2 n2⟩ :: ⟨rdP A1 n1 c1 X.b.l, rdS A1 n1⟩ :: ⟨fxP A0 n0 c0 u, fxS A0 n0 u⟩ :: D) V) => callCmp h hz HQ.out ZMB ZMB ZMB ZMB)
    have HSA := Lib.hid (fun V D2 Lx (h : St w0 ((b2, #[.int .i64 ((⟨X.b.s, A1, n1, c1, X.b.l, X.b.t, A2, n2, c2, X.b.m⟩ : Rw)).s, .slice ((⟨X.b.s, A1, n1, c1, X.b.l, X.b.t, A2, n2, c2, X.b.m⟩ : Rw)).A ((⟨X.b.s, A1, n1, c1, X.b.l, X.b.t, A2, n2, c2, X.b.m⟩ : Rw)).n ((⟨X.b.s, A1, n1, c1, X.b.l, X.b.t, A2, n2, c2, X.b.m⟩ : Rw)).c, .int .i64 ((⟨X.b.s, A1, n1, c1, X.b.l, X.b.t, A2, n2, c2, X.b.m⟩ : Rw)).t, .slice ((⟨X.b.s, A1, n1, c1, X.b.l, X.b.t, A2, n2, c2, X.b.m⟩ : Rw)).B ((⟨X.b.s, A1, n1, c1, X.b.l, X.b.t, A2, n2, c2, X.b.m⟩ : Rw)).m ((⟨X.b.s, A1, n1, c1, X.b.l, X.b.t, A2, n2, c2, X.b.m⟩ : Rw)).d], 50) :: (b1, #[.slice A0 n0 c0, .int .i64 X.b.s, .slice A1 n1 c1, .int .i64 X.b.t, .slice A2 n2 c2], 56) :: Lx) D2 V) => (show V.cell? ⟨b1, 0, none⟩ = some (.slice A0 n0 c0) ∧ V.cell? ⟨b2, 0, none⟩ = some (.int .i64 X.b.s) ∧ V.cell? ⟨b2, 1, none⟩ = some (.slice A1 n1 c1) ∧ V.cell? ⟨b2, 2, none⟩ = some (.int .i64 X.b.t) ∧ V.cell? ⟨b2, 3, none⟩ = some (.slice A2 n2 c2) from by
     have r := h.rawS
     exact ⟨r.2.1.1, r.1⟩))
    clear hU1 hU2 hbn HU K r r0
    refine wp_region_T 100 (fun V => V.cell? ⟨b1, 0, none⟩ = some (.slice A0 n0 c0) ∧ V.cell? ⟨b2, 0, none⟩ = some (.int .i64 X.b.s) ∧ V.cell? ⟨b2, 1, none⟩ = some (.slice A1 n1 c1) ∧ V.cell? ⟨b2, 2, none⟩ = some (.int .i64 X.b.t) ∧ V.cell? ⟨b2, 3, none⟩ = some (.slice A2 n2 c2)) (by kernel_rfl) s0 (fun hSh => ?_)
    clear s0
    refine wpAnyT.tkA 0 rfl ?_
    refine wpAnyT.tkA 1 rfl ?_
    refine wpAnyT.tkA 2 rfl ?_
    refine wpAnyT.tkA 3 rfl ?_
    refine wpAnyT.tkA 5 rfl ?_
    refine wpAnyT.on 4 rfl fun KK hKK => ?_
    go_simp
    go_at_call 76; refine HPr.out.mono ?_; rintro e w5 ⟨y2, z2, rfl, g2, k5⟩
    go_wp2_with fail
    refine hKK.out _ _ ?_ (fun hSh => ?_)
    · exact HSA.out _ _ _ k5
    clear hKK KK
    refine ZPT ?_
    refine wpAnyT.on 6 rfl fun KK hKK => ?_
    go_simp
    go_at_call 54; refine (HCm.out _ _ _ g2.out.1 k5).mono ?_; rintro e w6 ⟨rfl, k6⟩
    go_wp2_with fail
    refine hKK.out _ _ ?_ (fun hSh => ?_)
    · exact HSA.out _ _ _ k6
    clear hKK KK
    refine ZPT ?_
    have hst := sums_step (q := decide (z2 ≤ rwB2 ls false k)) HS.out HBn.out (p := fun i => decide (smQ (fun j => rwA2 ls i j * x j) n0 ≤ rwB2 ls false i)) (t := fun i => prdK (rwA2 ls i) x n0) (fun h => by rw [g2.out.2 h])
    have Hst := Lib.hid hst
    have HK := Lib.hid (k6.lessS (D' := D) (by repeat (first | with_reducible exact List.Sublist.refl _ | with_reducible apply List.Sublist.cons)))
    clear hst k5 K0 HPr HCm HSA g2 HU1 HBn HS HA HQ HX HRow
    by_cases hle : z2 ≤ rwB2 ls false k
    · have hc : ¬ cmpQ z2 (rwB2 ls false k) > 0 := by have := cmpQ_le.2 hle; omega
      have hcd : decide (cmpQ z2 (rwB2 ls false k) > 0) = false := decide_eq_false hc
      exact ZQ55
    · have hc : cmpQ z2 (rwB2 ls false k) > 0 := by
       have : ¬ cmpQ z2 (rwB2 ls false k) ≤ 0 := fun h => hle (cmpQ_le.1 h)
       omega
      have hcd : decide (cmpQ z2 (rwB2 ls false k) > 0) = true := decide_eq_true hc
      exact ZQ41
  · have e : k = m := by omega
    subst e
    have HE := Lib.hid (⟨true, bk, Lk, rfl, HU, Lib.hid (by rw [Bool.true_and]; exact HS.out), K.part (List.sublist_cons_self _ _)⟩ : SumP w0 mb R T b L9 D (belB k n (rwA2 ls) (rwB2 ls false) x) (.returned (.bool true)) wr)
    exact ZQ105
theorem below0_any (w0 W : World) (L : List Blk) (D : List Hl) (mb : Nat) (b : Bool) (R : List Value) (T : TypeId) (A A' B : Option Addr) (n cap m cap' n' capx : Nat) (ls : List Rv) (v : Nat → Rw) (x : Nat → Rat)
 (K : St w0 L D W) (hmb : (mb, (Value.bool b :: R).toArray, T) ∈ L) (hr : RdR w0 w0.heap.size A' m cap' ls) (hrow : ∀ (k : Nat) (X : Rv), ls[k]? = some X → rowF n X = true) (m2 : (⟨fxP B n' capx v, fxS B n' v⟩ : Hl) ∈ D) (hn : n ≤ n' ∧ n ≤ 1000000) (hx : ∀ i, i < n → isQ (v i) (x i)) :
 Calls Tryz.prog 74 #[.pointer (some ⟨mb, 0, none⟩), .agg #[.slice A n cap, .slice A' m cap'], .slice B n' capx, .bool true] W (SumP w0 mb R T b L D (belB m n (rwA2 ls) (rwB2 ls true) x)) := by
 have HX := Lib.hid hx
 have HZ := Lib.hid pzero_any
 have M2 := Lib.hid m2
 have HL := Lib.hid hr
 have HRow := Lib.hid hrow
 have hcap' := hr.caps
 have hcap := K.fxCap m2
 obtain ⟨L9, hU9, rfl⟩ := Upd.same hmb
 have HU0 := Lib.hid hU9
 clear hx hr hrow hmb hU9 m2
 have r := K.raw
 go_enter Tryz.func74, Tryz.ntmps74
 go_wp2_with (first | (apply K.box; rfl; rfl; rfl; clear K r; intro W b0 K; have r := K.rawS) | (apply K.alloc; rfl; rfl; exact row_zero; clear K r; intro W b1 K; have r := K.rawS) | (apply K.alloc; rfl; rfl; exact frac_zero; clear K r; intro W b2 K; have r := K.rawS) | (apply K.storeA; rfl; rfl; rfl; rfl; rfl; (exact ZUP); (first | exact row_size | exact frac_size); rfl; rfl; rfl; clear K r; intro W K; have r := K.rawS))
 go_loopg [15] m (fun gk s15 wr => ∃ (k : Nat) (bk : Bool) (Lk : List Blk), k ≤ m ∧ gk = m - k ∧ s15 = .int .i64 k ∧ Hid (Upd mb (Value.bool b :: R).toArray T (Value.bool bk :: R).toArray L9 Lk) ∧ Hid ((!bk) = (!b && sumsB (fun i => prdK (rwA2 ls i) x n) (fun i => decide (smQ (fun j => rwA2 ls i j * x j) n ≤ rwB2 ls true i)) k)) ∧ St w0 ((b0, #[.slice A n cap, .slice A' m cap'], 38) :: Lk) D wr)
 case atStart => exact ⟨0, b, L9, Nat.zero_le _, rfl, rfl, HU0, Lib.hid (by simp [sumsB]), K⟩
 case round =>
  clear K r HU0
  obtain ⟨k, bk, Lk, hk, rfl, rfl, HU, HS, K⟩ := hrel
  by_cases hlt : k < m
  · obtain ⟨eb, eo, A0, n0, c0, A1, n1, c1, A2, n2, c2, X, hA, hbB, hX, ⟨z0, z1, z2, z3, z4⟩, r0, r1, r2⟩ := HL.out.atR hlt
    subst hA
    have hki : (k : Int) < (m : Int) := by omega
    have hk0 : (0 : Int) ≤ (k : Int) := by omega
    have y0 := (K.1.cell (p := ⟨eb, eo + k * 5, none⟩) hbB).trans z0
    have y1 := (K.1.cell (p := ⟨eb, eo + k * 5 + 1, none⟩) hbB).trans z1
    have y2 := (K.1.cell (p := ⟨eb, eo + k * 5 + 2, none⟩) hbB).trans z2
    have y3 := (K.1.cell (p := ⟨eb, eo + k * 5 + 3, none⟩) hbB).trans z3
    have y4 := (K.1.cell (p := ⟨eb, eo + k * 5 + 4, none⟩) hbB).trans z4
    have hc0 := r0.caps
    have hc1 := r1.caps
    have hc2 := r2.caps
    have hF := HRow.out k X hX
    unfold rowF at hF
    rw [Bool.and_eq_true, Bool.and_eq_true, decide_eq_true_eq] at hF
    have hn0 : n0 = n := by have := hF.1.1; have := r0.len; omega
    subst hn0
    obtain ⟨u, hu, K⟩ := K.fxOld r0
    have hQ := fv_std hF.1.2
    have HA := Lib.hid (show ∀ i, i < n0 → isQ (u i) (rwA2 ls k i) from fun i hi => by
     exact ZQ44)
    replace K := (K.rdOld r1).rdOld r2
    clear hX z0 z1 z2 z3 z4 r0 r1 r2 hF hu hQ
    have r := K.rawS
    go_upto_region 7 with (first | (first | (apply K.box; rfl; rfl; rfl; clear K r; intro W b0 K; have r := K.rawS) | (apply K.alloc; rfl; rfl; exact row_zero; clear K r; intro W b1 K; have r := K.rawS) | (apply K.alloc; rfl; rfl; exact frac_zero; clear K r; intro W b2 K; have r := K.rawS) | (apply K.storeA; rfl; rfl; rfl; rfl; rfl; (exact ZUP); (first | exact row_size | exact frac_size); rfl; rfl; rfl; clear K r; intro W K; have r := K.rawS)) | (go_at_call 112; refine (HZ.out _).mono ?_; rintro e W' ⟨s7, A7, n7, c7, l7, t7, B7, m7, d7, k7, rfl, ⟨hra, hrb⟩, ho, ⟨hfa, hfb⟩, hb⟩; replace K := K.retF hb hra hrb hfa hfb; clear hra hrb hfa hfb hb r; have HO := Lib.hid ho; clear ho; have r := K.rawS))
    have HQ := Lib.hid (show isQ (⟨s7, A7, n7, c7, l7, t7, B7, m7, d7, k7⟩ : Rw) (rwB2 ls true k) from by
     unfold rwB2
     rw [if_pos rfl]
     exact ⟨HO.out, fitsF_zero⟩)
    have K0 := K.drew
    have r0 := K0.rawS
    have s0 : W.drew.cell? ⟨b1, 0, none⟩ = some (.slice A0 n0 c0) ∧ W.drew.cell? ⟨b2, 0, none⟩ = some (.int .i64 s7) ∧ W.drew.cell? ⟨b2, 1, none⟩ = some (.slice A7 n7 c7) ∧ W.drew.cell? ⟨b2, 2, none⟩ = some (.int .i64 t7) ∧ W.drew.cell? ⟨b2, 3, none⟩ = some (.slice B7 m7 d7) := ⟨r0.2.1.1, r0.1⟩
    obtain ⟨bn, hbn⟩ : ∃ bn, bn = (bk || !prdK (rwA2 ls k) x n0) := ⟨_, rfl⟩
    obtain ⟨Ln, hU1, hU2⟩ := HU.out.next (Value.bool bn :: R).toArray
    have HU1 := Lib.hid hU1
    have HU2 := Lib.hid hU2
    have HBn := Lib.hid hbn
    have HPr := Lib.hid (product_any w0 W.drew _ ((b2, #[.int .i64 ((⟨s7, A7, n7, c7, l7, t7, B7, m7, d7, k7⟩ : Rw)).s, .slice ((⟨s7, A7, n7, c7, l7, t7, B7, m7, d7, k7⟩ : Rw)).A ((⟨s7, A7, n7, c7, l7, t7, B7, m7, d7, k7⟩ : Rw)).n ((⟨s7, A7, n7, c7, l7, t7, B7, m7, d7, k7⟩ : Rw)).c, .int .i64 ((⟨s7, A7, n7, c7, l7, t7, B7, m7, d7, k7⟩ : Rw)).t, .slice ((⟨s7, A7, n7, c7, l7, t7, B7, m7, d7, k7⟩ : Rw)).B ((⟨s7, A7, n7, c7, l7, t7, B7, m7, d7, k7⟩ : Rw)).m ((⟨s7, A7, n7, c7, l7, t7, B7, m7, d7, k7⟩ : Rw)).d], 50) :: (b1, #[.slice A0 n0 c0, .int .i64 X.b.s, .slice A1 n1 c1, .int .i64 X.b.t, .slice A2 n2 c2], 56) :: (b0, #[.slice A n0 cap, .slice (some ⟨eb, eo, none⟩) m cap'], 38) :: Ln) _ mb bk bn R T A0 B n0 c0 n' capx u v (rwA2 ls k) x K0 ZMB (by repeat (first | exact M2.out | with_reducible apply List.mem_cons_of_mem)) hn HA.out HX.out hbn (.tail _ (.tail _ (.tail _ hU1))))
    have HCm := Lib.hid (fun V (y2 : Rw) (z2 : Rat) (hz : isQ y2 z2) (h : St w0 ((b2, #[.int .i64 ((⟨s7, A7, n7, c7, l7, t7, B7, m7, d7, k7⟩ : Rw)).s, .slice ((⟨s7, A7, n7, c7, l7, t7, B7, m7, d7, k7⟩ : Rw)).A ((⟨s7, A7, n7, c7, l7, t7, B7, m7, d7, k7⟩ : Rw)).n ((⟨s7, A7, n7, c7, l7, t7, B7, m7, d7, k7⟩ : Rw)).c, .int .i64 ((⟨s7, A7, n7, c7, l7, t7, B7, m7, d7, k7⟩ : Rw)).t, .slice ((⟨s7, A7, n7, c7, l7, t7, B7, m7, d7, k7⟩ : Rw)).B ((⟨s7, A7, n7, c7, l7, t7, B7, m7, d7, k7⟩ : Rw)).m ((⟨s7, A7, n7, c7, l7, t7, B7, m7, d7, k7⟩ : Rw)).d], 50) :: (b1, #[.slice A0 n0 c0, .int .i64 X.b.s, .slice A1 n1 c1, .int .i64 X.b.t, .slice A2 n2 c2], 56) :: (b0, #[.slice A n0 cap, .slice (some ⟨eb, eo, none⟩) m cap'], 38) :: Ln) (⟨rdP y2.B y2.m y2.d y2.k, rdS y2.B y2.m⟩ :: ⟨rdP y2.A y2.n y2.c y2.l, rdS y2.A y2.n⟩ :: ⟨rdP B7 m7 d7 k7, rdS B7 m7⟩ :: ⟨rdP A7 n7 c7 l7, rdS A7 n7⟩ :: ⟨rdP A2 n2 c2 X.b.m, rdS A2 n2⟩ :: ⟨rdP A1 n1 c1 X.b.l, rdS A1 n1⟩ :: ⟨fxP A0 n0 c0 u, fxS A0 n0 u⟩ :: D) V) => callCmp h hz HQ.out ZMB ZMB ZMB ZMB)
    have HSA := Lib.hid (fun V D2 Lx (h : St w0 ((b2, #[.int .i64 ((⟨s7, A7, n7, c7, l7, t7, B7, m7, d7, k7⟩ : Rw)).s, .slice ((⟨s7, A7, n7, c7, l7, t7, B7, m7, d7, k7⟩ : Rw)).A ((⟨s7, A7, n7, c7, l7, t7, B7, m7, d7, k7⟩ : Rw)).n ((⟨s7, A7, n7, c7, l7, t7, B7, m7, d7, k7⟩ : Rw)).c, .int .i64 ((⟨s7, A7, n7, c7, l7, t7, B7, m7, d7, k7⟩ : Rw)).t, .slice ((⟨s7, A7, n7, c7, l7, t7, B7, m7, d7, k7⟩ : Rw)).B ((⟨s7, A7, n7, c7, l7, t7, B7, m7, d7, k7⟩ : Rw)).m ((⟨s7, A7, n7, c7, l7, t7, B7, m7, d7, k7⟩ : Rw)).d], 50) :: (b1, #[.slice A0 n0 c0, .int .i64 X.b.s, .slice A1 n1 c1, .int .i64 X.b.t, .slice A2 n2 c2], 56) :: Lx) D2 V) => (show V.cell? ⟨b1, 0, none⟩ = some (.slice A0 n0 c0) ∧ V.cell? ⟨b2, 0, none⟩ = some (.int .i64 s7) ∧ V.cell? ⟨b2, 1, none⟩ = some (.slice A7 n7 c7) ∧ V.cell? ⟨b2, 2, none⟩ = some (.int .i64 t7) ∧ V.cell? ⟨b2, 3, none⟩ = some (.slice B7 m7 d7) from by
     have r := h.rawS
     exact ⟨r.2.1.1, r.1⟩))
    clear hU1 hU2 hbn HU K r r0
    refine wp_region_T 100 (fun V => V.cell? ⟨b1, 0, none⟩ = some (.slice A0 n0 c0) ∧ V.cell? ⟨b2, 0, none⟩ = some (.int .i64 s7) ∧ V.cell? ⟨b2, 1, none⟩ = some (.slice A7 n7 c7) ∧ V.cell? ⟨b2, 2, none⟩ = some (.int .i64 t7) ∧ V.cell? ⟨b2, 3, none⟩ = some (.slice B7 m7 d7)) (by kernel_rfl) s0 (fun hSh => ?_)
    clear s0
    refine wpAnyT.tkA 0 rfl ?_
    refine wpAnyT.tkA 1 rfl ?_
    refine wpAnyT.tkA 2 rfl ?_
    refine wpAnyT.tkA 3 rfl ?_
    refine wpAnyT.tkA 5 rfl ?_
    refine wpAnyT.on 4 rfl fun KK hKK => ?_
    go_simp
    go_at_call 76; refine HPr.out.mono ?_; rintro e w5 ⟨y2, z2, rfl, g2, k5⟩
    go_wp2_with fail
    refine hKK.out _ _ ?_ (fun hSh => ?_)
    · exact HSA.out _ _ _ k5
    clear hKK KK
    refine ZPT ?_
    refine wpAnyT.on 6 rfl fun KK hKK => ?_
    go_simp
    go_at_call 54; refine (HCm.out _ _ _ g2.out.1 k5).mono ?_; rintro e w6 ⟨rfl, k6⟩
    go_wp2_with fail
    refine hKK.out _ _ ?_ (fun hSh => ?_)
    · exact HSA.out _ _ _ k6
    clear hKK KK
    refine ZPT ?_
    have hst := sums_step (q := decide (z2 ≤ rwB2 ls true k)) HS.out HBn.out (p := fun i => decide (smQ (fun j => rwA2 ls i j * x j) n0 ≤ rwB2 ls true i)) (t := fun i => prdK (rwA2 ls i) x n0) (fun h => by rw [g2.out.2 h])
    have Hst := Lib.hid hst
    have HK := Lib.hid (k6.lessS (D' := D) (by repeat (first | with_reducible exact List.Sublist.refl _ | with_reducible apply List.Sublist.cons)))
    clear hst k5 K0 HPr HCm HSA g2 HU1 HBn HS HA HQ HX HRow
    by_cases hle : z2 ≤ rwB2 ls true k
    · have hc : ¬ cmpQ z2 (rwB2 ls true k) > 0 := by have := cmpQ_le.2 hle; omega
      have hcd : decide (cmpQ z2 (rwB2 ls true k) > 0) = false := decide_eq_false hc
      exact ZQ55
    · have hc : cmpQ z2 (rwB2 ls true k) > 0 := by
       have : ¬ cmpQ z2 (rwB2 ls true k) ≤ 0 := fun h => hle (cmpQ_le.1 h)
       omega
      have hcd : decide (cmpQ z2 (rwB2 ls true k) > 0) = true := decide_eq_true hc
      exact ZQ41
  · have e : k = m := by omega
    subst e
    have HE := Lib.hid (⟨true, bk, Lk, rfl, HU, Lib.hid (by rw [Bool.true_and]; exact HS.out), K.part (List.sublist_cons_self _ _)⟩ : SumP w0 mb R T b L9 D (belB k n (rwA2 ls) (rwB2 ls true) x) (.returned (.bool true)) wr)
    exact ZQ105
end Go.Proofs.YtdlcglndhhndpaaGreat
