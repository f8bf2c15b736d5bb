/- Laws and walks; conditions stand in each theorem. -/
import Derived.Laws.BitsAllLaws
import Derived.Laws.BitsLemmas
import Derived.Deep.RegionHeld3
import Derived.Test.YtdlcglndhhndpaaGreatP32
import Derived.Test.YtdlcglndhhndpaaGreatP22
import Derived.Test.YtdlcglndhhndpaaGreatP21
import Derived.Test.YtdlcglndhhndpaaGreatP12
import Derived.Test.YtdlcglndhhndpaaGreatP17
import Derived.Test.YtdlcglndhhndpaaGreatP13
import Derived.Test.YtdlcglndhhndpaaGreatP11
set_option linter.unusedSimpArgs false
set_option linter.unusedVariables false
set_option maxHeartbeats 8000000
set_option maxRecDepth 100000
namespace Go.Proofs.YtdlcglndhhndpaaGreat
open Go.RowKit
def zeroC (_ : Nat) : Rat := 0
theorem covers0_any (w0 W : World) (L : List Blk) (D : List Hl) (mb : Nat) (b : Bool) (R : List Value) (T : TypeId) (A A' B : Option Addr) (n cap m cap' capx : Nat) (l : List Fv) (ls : List Rv) (v : Nat → Rw) (y : Nat → Rat)
 (K : St w0 L D W) (hmb : (mb, (Value.bool b :: R).toArray, T) ∈ L) (hl : RdF w0 w0.heap.size A n cap l) (hr : RdR w0 w0.heap.size A' m cap' ls) (hok : l.all Fv.ok = true) (hrow : ∀ (k : Nat) (X : Rv), ls[k]? = some X → rowF n X = true) (m2 : (⟨fxP B m capx v, fxS B m v⟩ : Hl) ∈ D) (hm : m ≤ 1000) (hy : ∀ i, i < m → isQ (v i) (y i)) :
 Calls Tryz.prog 75 #[.pointer (some ⟨mb, 0, none⟩), .agg #[.slice A n cap, .slice A' m cap'], .slice B m capx, .bool true] W (SumP w0 mb R T b L D (covB m n (rwA2 ls) zeroC y)) := by
 have HY := Lib.hid hy
 have HZ := Lib.hid pzero_any
 have M2 := Lib.hid m2
 have HL := Lib.hid hr
 have HG := Lib.hid hl
 have HRow := Lib.hid hrow
 have HOk := Lib.hid hok
 have hcap := hl.caps
 have hcap' := hr.caps
 have hcapx := K.fxCap m2
 obtain ⟨L9, hU9, rfl⟩ := Upd.same hmb
 have HU0 := Lib.hid hU9
 clear hy hr hl hrow hok hmb hU9 m2
 have r := K.raw
 go_enter Tryz.func75, Tryz.ntmps75
 go_wp2_with (apply K.box; rfl; rfl; rfl; clear K r; intro W b0 K; have r := K.rawS)
 go_loopg [17] n (fun gk s17 wr => ∃ (j : Nat) (bk : Bool) (Lk : List Blk), j ≤ n ∧ gk = n - j ∧ s17 = .int .i64 j ∧ Hid (Upd mb (Value.bool b :: R).toArray T (Value.bool bk :: R).toArray L9 Lk) ∧ Hid ((!bk) = (!b && sumsB (fun k => prdK y (fun i => rwA2 ls i k) m) (fun k => decide (zeroC k ≤ smQ (fun i => y i * rwA2 ls i k) m)) j)) ∧ St w0 ((b0, #[.slice A n cap, .slice A' m cap'], 38) :: Lk) D wr)
 case atStart => exact ⟨0, b, L9, Nat.zero_le _, rfl, rfl, HU0, Lib.hid (by simp [sumsB]), K⟩
 case round =>
  clear K r HU0
  obtain ⟨j, bk, Lk, hj, rfl, rfl, HU, HS, K⟩ := hrel
  by_cases hlt : j < n
  · obtain ⟨gb, go, A1, n1, c1, B1, m1, d1, X, hA, hbB, hX, ⟨z0, z1, z2, z3⟩, r1, r2⟩ := HG.out.atF hlt
    subst hA
    have hji : (j : Int) < (n : Int) := by omega
    have hj0 : (0 : Int) ≤ (j : Int) := by omega
    have y0 := (K.1.cell (p := ⟨gb, go + j * 4, none⟩) hbB).trans z0
    have y1 := (K.1.cell (p := ⟨gb, go + j * 4 + 1, none⟩) hbB).trans z1
    have y2 := (K.1.cell (p := ⟨gb, go + j * 4 + 2, none⟩) hbB).trans z2
    have y3 := (K.1.cell (p := ⟨gb, go + j * 4 + 3, none⟩) hbB).trans z3
    have hc1 := r1.caps
    have hc2 := r2.caps
    obtain ⟨g1, hg1⟩ : ∃ g1 : Rw, g1 = ⟨X.s, A1, n1, c1, X.l, X.t, B1, m1, d1, X.m⟩ := ⟨_, rfl⟩
    have HQ1 := Lib.hid (show isQ g1 (fvR l j) from by
     exact ZQ115)
    replace K : St w0 ((b0, #[.slice (some ⟨gb, go, none⟩) n cap, .slice A' m cap'], 38) :: Lk) (⟨rdP g1.B g1.m g1.d g1.k, rdS g1.B g1.m⟩ :: ⟨rdP g1.A g1.n g1.c g1.l, rdS g1.A g1.n⟩ :: D) wr := by rw [hg1]; exact (K.rdOld r1).rdOld r2
    replace y0 : wr.cell? ⟨gb, go + j * 4, none⟩ = some (.int .i64 g1.s) := by rw [hg1]; exact y0
    replace y1 : wr.cell? ⟨gb, go + j * 4 + 1, none⟩ = some (.slice g1.A g1.n g1.c) := by rw [hg1]; exact y1
    replace y2 : wr.cell? ⟨gb, go + j * 4 + 2, none⟩ = some (.int .i64 g1.t) := by rw [hg1]; exact y2
    replace y3 : wr.cell? ⟨gb, go + j * 4 + 3, none⟩ = some (.slice g1.B g1.m g1.d) := by rw [hg1]; exact y3
    replace hc1 : g1.n ≤ g1.c ∧ g1.c ≤ 9223372036854775807 ∧ g1.n ≤ 140737488351232 := by rw [hg1]; exact hc1
    replace hc2 : g1.m ≤ g1.d ∧ g1.d ≤ 9223372036854775807 ∧ g1.m ≤ 140737488351232 := by rw [hg1]; exact hc2
    clear hX z0 z1 z2 z3 r1 r2 hg1
    have r := K.rawS
    go_wp2_with (first
     | (apply K.alloc; rfl; rfl; exact frac_zero; clear K r; intro W b1 K; have r := K.rawS)
     | (apply K.storeA; rfl; rfl; rfl; rfl; rfl; (exact ZUP); exact frac_size; rfl; rfl; rfl; clear K r; intro W K; have r := K.rawS))
    replace K : St w0 ([] ++ (((b1, #[.int .i64 g1.s, .slice g1.A g1.n g1.c, .int .i64 g1.t, .slice g1.B g1.m g1.d], 50) : Blk) :: ((b0, #[.slice (some ⟨gb, go, none⟩) n cap, .slice A' m cap'], 38) : Blk) :: Lk)) _ _ := K.rwNew 0
    clear r y0 y1 y2 y3
    go_loopg [11, 25] m (fun gk s11 s25 wr => ∃ (k : Nat) (u : Nat → Rw) (val : Value) (X : List Blk), k ≤ m ∧ gk = m - k ∧ s11 = val ∧ s25 = .int .i64 k ∧ Hid (∀ i, i < k → isQ (u i) (rwA2 ls i j)) ∧ Hid (OwL 4 Rw.cs 50 val (ofF k u) X) ∧ St w0 (X ++ (((b1, #[.int .i64 g1.s, .slice g1.A g1.n g1.c, .int .i64 g1.t, .slice g1.B g1.m g1.d], 50) : Blk) :: ((b0, #[.slice (some ⟨gb, go, none⟩) n cap, .slice A' m cap'], 38) : Blk) :: Lk)) (⟨rwP k u, rwS k u⟩ :: ⟨rdP g1.B g1.m g1.d g1.k, rdS g1.B g1.m⟩ :: ⟨rdP g1.A g1.n g1.c g1.l, rdS g1.A g1.n⟩ :: D) wr)
    case atStart => exact ⟨0, fun _ => Rw.zero, _, [], Nat.zero_le _, rfl, rfl, rfl, Lib.hid (fun i h => absurd h (by omega)), Lib.hid OwL.nil, K⟩
    case round =>
     clear K
     obtain ⟨k, u, val, X, hk, rfl, rfl, rfl, HA, Ho, K⟩ := hrel
     by_cases hlk : k < m
     · exact ZQ9
     · have e : m = k := by omega
       subst e
       have hlkd : decide (m < m) = false := decide_eq_false hlk
       obtain ⟨Ac, cc, hv, K⟩ := K.fxOwL Ho.out ZMB (by omega)
       subst hv
       clear Ho hlk
       have r := K.rawS
       go_wp2_with fail
       refine (HZ.out _).mono ?_
       rintro e W5 ⟨s7, A7, n7, c7, l7, t7, B7, m7, d7, k7, rfl, ⟨hra, hrb⟩, ho, ⟨hfa, hfb⟩, hb⟩
       replace K := K.retF hb hra hrb hfa hfb
       have HO := Lib.hid ho
       clear r hra hrb hfa hfb hb ho
       have r := K.rawS
       go_upto_region 12 with (apply K.storeA; rfl; rfl; rfl; rfl; rfl; (exact ZUP); exact frac_size; rfl; rfl; rfl; clear K r; intro W K)
       obtain ⟨g, hg⟩ : ∃ g : Rw, g = ⟨s7, A7, n7, c7, l7, t7, B7, m7, d7, k7⟩ := ⟨_, rfl⟩
       have HQ : Hid (isQ g (zeroC j)) := Lib.hid (by rw [hg]; exact ⟨HO.out, fitsF_zero⟩)
       replace K : St w0 (((b1, #[.int .i64 g.s, .slice g.A g.n g.c, .int .i64 g.t, .slice g.B g.m g.d], 50) : Blk) :: ((b0, #[.slice (some ⟨gb, go, none⟩) n cap, .slice A' m cap'], 38) : Blk) :: Lk) (⟨rdP g.B g.m g.d g.k, rdS g.B g.m⟩ :: ⟨rdP g.A g.n g.c g.l, rdS g.A g.n⟩ :: (⟨fxP Ac m cc u, fxS Ac m u⟩ : Hl) :: ⟨rwP m u, rwS m u⟩ :: ⟨rdP g1.B g1.m g1.d g1.k, rdS g1.B g1.m⟩ :: ⟨rdP g1.A g1.n g1.c g1.l, rdS g1.A g1.n⟩ :: D) W := by rw [hg]; exact K
       have r := K.rawS
       clear HQ1 HO hg
       have hcc := K.fxCap (A := Ac) (n := m) (cap := cc) (v := u) ZMB
       have K0 := K.drew
       obtain ⟨bn, hbn⟩ : ∃ bn, bn = (bk || !prdK y (fun i => rwA2 ls i j) m) := ⟨_, rfl⟩
       obtain ⟨Ln, hU1, hU2⟩ := HU.out.next (Value.bool bn :: R).toArray
       have HU2 := Lib.hid hU2
       have HBn := Lib.hid hbn
       have HPr := Lib.hid (product_any w0 _ _ (((b1, #[.int .i64 g.s, .slice g.A g.n g.c, .int .i64 g.t, .slice g.B g.m g.d], 50) : Blk) :: ((b0, #[.slice (some ⟨gb, go, none⟩) n cap, .slice A' m cap'], 38) : Blk) :: Ln) _ mb bk bn R T B Ac m capx m cc v u y (fun i => rwA2 ls i j) K0 (by repeat (first | exact M2.out | with_reducible apply List.mem_cons_of_mem)) ZMB ⟨Nat.le_refl _, by omega⟩ HY.out HA.out hbn (.tail _ (.tail _ hU1)))
       have HCm := Lib.hid (fun V (y2 : Rw) (z2 : Rat) (hz : isQ y2 z2) (h : St w0 (((b1, #[.int .i64 g.s, .slice g.A g.n g.c, .int .i64 g.t, .slice g.B g.m g.d], 50) : Blk) :: ((b0, #[.slice (some ⟨gb, go, none⟩) n cap, .slice A' m cap'], 38) : Blk) :: Ln) (⟨rdP y2.B y2.m y2.d y2.k, rdS y2.B y2.m⟩ :: ⟨rdP y2.A y2.n y2.c y2.l, rdS y2.A y2.n⟩ :: ⟨rdP g.B g.m g.d g.k, rdS g.B g.m⟩ :: ⟨rdP g.A g.n g.c g.l, rdS g.A g.n⟩ :: (⟨fxP Ac m cc u, fxS Ac m u⟩ : Hl) :: ⟨rwP m u, rwS m u⟩ :: ⟨rdP g1.B g1.m g1.d g1.k, rdS g1.B g1.m⟩ :: ⟨rdP g1.A g1.n g1.c g1.l, rdS g1.A g1.n⟩ :: D) V) => callCmp h hz HQ.out ZMB ZMB ZMB ZMB)
       have HSA := Lib.hid (fun V D2 Lx (h : St w0 (((b1, #[.int .i64 g.s, .slice g.A g.n g.c, .int .i64 g.t, .slice g.B g.m g.d], 50) : Blk) :: Lx) D2 V) => (show (V.cell? ⟨b1, 0, none⟩ = some (.int .i64 g.s) ∧ V.cell? ⟨b1, 1, none⟩ = some (.slice g.A g.n g.c) ∧ V.cell? ⟨b1, 2, none⟩ = some (.int .i64 g.t) ∧ V.cell? ⟨b1, 3, none⟩ = some (.slice g.B g.m g.d)) from ⟨(h.blk ZMB).cell (j := 0) rfl, (h.blk ZMB).cell (j := 1) rfl, (h.blk ZMB).cell (j := 2) rfl, (h.blk ZMB).cell (j := 3) rfl⟩))
       have s0 := HSA.out _ _ _ K0
       clear hU1 hU2 hbn HU K r
       refine wp_region_T 100 (fun V => (V.cell? ⟨b1, 0, none⟩ = some (.int .i64 g.s) ∧ V.cell? ⟨b1, 1, none⟩ = some (.slice g.A g.n g.c) ∧ V.cell? ⟨b1, 2, none⟩ = some (.int .i64 g.t) ∧ V.cell? ⟨b1, 3, none⟩ = some (.slice g.B g.m g.d))) (by kernel_rfl) s0 (fun hSh => ?_)
       clear s0
       refine wpAnyT.tkA 0 rfl ?_
       refine wpAnyT.tkA 1 rfl ?_
       refine wpAnyT.tkA 2 rfl ?_
       refine wpAnyT.tkA 4 rfl ?_
       refine wpAnyT.on 3 rfl fun KK hKK => ?_
       go_simp
       go_at_call 76; refine HPr.out.mono ?_; rintro e w5 ⟨y2, z2, rfl, g2, k5⟩
       go_wp2_with fail
       refine hKK.out _ _ ?_ (fun hSh => ?_)
       · exact HSA.out _ _ _ k5
       clear hKK KK
       refine ZPT ?_
       refine wpAnyT.on 5 rfl fun KK hKK => ?_
       go_simp
       go_at_call 54; refine (HCm.out _ _ _ g2.out.1 k5).mono ?_; rintro e w6 ⟨rfl, k6⟩
       go_wp2_with fail
       refine hKK.out _ _ ?_ (fun hSh => ?_)
       · exact HSA.out _ _ _ k6
       clear hKK KK
       refine ZPT ?_
       have hst := sums_step (q := decide (zeroC j ≤ z2)) HS.out HBn.out (p := fun k => decide (zeroC k ≤ smQ (fun i => y i * rwA2 ls i k) m)) (t := fun k => prdK y (fun i => rwA2 ls i k) m) (fun h => by rw [g2.out.2 h])
       have Hst := Lib.hid hst
       have HK := Lib.hid ((k6.lessS (D' := D) (by repeat (first | with_reducible exact List.Sublist.refl _ | with_reducible apply List.Sublist.cons))).part (List.sublist_cons_self _ _))
       clear hst k5 K0 HPr HCm HSA g2 HBn HS HA HQ HY HRow
       by_cases hle : zeroC j ≤ z2
       · have hc : ¬ cmpQ z2 (zeroC j) < 0 := cmpQ_lt.2 hle
         have hcd : decide (cmpQ z2 (zeroC j) < 0) = false := decide_eq_false hc
         exact ZQ62
       · have hc : cmpQ z2 (zeroC j) < 0 := by
          have : ¬ ¬ cmpQ z2 (zeroC j) < 0 := fun h => hle (cmpQ_lt.1 h)
          omega
         have hcd : decide (cmpQ z2 (zeroC j) < 0) = true := decide_eq_true hc
         exact ZQ43
  · have e : n = j := by omega
    subst e
    have HE := Lib.hid (⟨true, bk, Lk, rfl, HU, Lib.hid (by rw [Bool.true_and]; exact HS.out), K.part (List.sublist_cons_self _ _)⟩ : SumP w0 mb R T b L9 D (covB m n (rwA2 ls) zeroC y) (.returned (.bool true)) wr)
    exact ZQ105
section
variable {P : Program} {ops : Array Oper} {Q : Exit → Act → World → Prop} {md : Region.Mode} {S : World → Prop} {n : Nat}
theorem wpAnyT.tkB (i : Nat) {oi : Oper} {v : Value} {fuel : Nat} {listed : Array Bool} {a : Act} {w : World} {q : Prop} (hi : ops[i]? = some oi) (k : q) (hB : (decide (ops.size ≤ n) && Region.noSelect ops && Region.free md ops listed i && (Region.ready md ops listed).contains i) = true := by decide +kernel)
 (hQ : ∀ c a w, Q (.panic c) (a.put oi.dst v) w → Q (.panic c) a w := by exact fun _ _ _ h => h) (hy : YieldsIf P ops S oi v a := by (refine Or.inl ⟨by rfl, ?_⟩; intro w hSw; (try dsimp only at hSw); go_simp; try with_reducible rfl)) (hS : S w := by assumption) (h : q → wpAnyT P md ops Q S n fuel (listed.setIfInBounds i true) (a.put oi.dst v) w := by (intro hq; (try simp only [Act.put, List.getElem_toArray, List.getElem_cons_succ, List.getElem_cons_zero, List.setIfInBounds_toArray, List.set_cons_zero, List.set_cons_succ]); exact hq)) : wpAnyT P md ops Q S n (fuel + 1) listed a w :=
 wpAnyT.takeA hi hB hQ hy hS (h k)
theorem wpAnyT.tkN (i : Nat) {oi : Oper} {fuel : Nat} {listed : Array Bool} {a : Act} {w : World} {q : Prop} (hi : ops[i]? = some oi) (k : q) (hB : (decide (ops.size ≤ n) && Region.noSelect ops && Region.free md ops listed i && (Region.ready md ops listed).contains i) = true := by decide +kernel)
 (hQ : ∀ c a w, Q (.panic c) (a.put oi.dst undef) w → Q (.panic c) a w := by exact fun _ _ _ h => h) (hy : Region.wanted oi (yielded ops a.tmps) = false := by rfl) (hS : S w := by assumption) (h : q → wpAnyT P md ops Q S n fuel (listed.setIfInBounds i true) (a.put oi.dst undef) w := by (intro hq; (try simp only [Act.put, List.getElem_toArray, List.getElem_cons_succ, List.getElem_cons_zero, List.setIfInBounds_toArray, List.set_cons_zero, List.set_cons_succ]); exact hq)) : wpAnyT P md ops Q S n (fuel + 1) listed a w :=
 wpAnyT.takeA hi hB hQ (Or.inr ⟨hy, rfl⟩) hS (h k)
theorem wpAnyT.onW (i : Nat) {o : Oper} {fuel : Nat} {listed : Array Bool} {a : Act} {w : World} (ho : ops[i]? = some o)
 (h : ∀ K : Act → World → Prop, Hid (∀ a' w', S w' → (S w' → wpAnyT P md ops Q S n fuel (listed.setIfInBounds i true) a' w') → K a' w') → o.wp P a w K Q) (hw : Region.wanted o (yielded ops a.tmps) = true := by rfl) (hB : (decide (i ≠ n) && decide (Region.ready md ops listed = [i])) = true := by kernel_rfl) : wpAnyT P md ops Q S n (fuel + 1) listed a w := by
 simp only [Bool.and_eq_true, decide_eq_true_eq] at hB
 refine ⟨(fun h0 => by rw [hB.2] at h0; cases h0), fun j hj => ?_⟩
 rw [hB.2, List.mem_singleton] at hj
 subst hj
 unfold wpOp
 simp only [ho, hw, if_true]
 exact Or.inl (h _ (Lib.hid fun a' w' hS hW => ⟨fun _ => hS, hW hS⟩))
end
theorem Upd.headN {b : Nat} {cs cs' : Array Value} {t : TypeId} {L L' : List Blk} (h : Upd b cs t cs' ((b, cs, t) :: L) L') (hn : (((b, cs, t) :: L).map (·.1)).Nodup) : L' = (b, cs', t) :: L := by
 cases h with
 | head _ => rfl
 | tail _ h3 =>
  have := List.mem_map_of_mem (f := fun p : Blk => p.1) h3.mem
  rw [List.map_cons, List.nodup_cons] at hn
  exact absurd this hn.1
def chkO (n m : Nat) (l : List Fv) (ls : List Rv) (x y : List Fv) : Bool :=
 (decide (x.length = n) && x.all fnF) && (decide (y.length = m) && y.all fnF) && belB m n (rwA2 ls) (rwB2 ls false) (fvR x) && covB m n (rwA2 ls) (fvR l) (fvR y) && prdK (fvR y) (rwB2 ls false) m && prdK (fvR l) (fvR x) n && decide (smQ (fun i => fvR y i * rwB2 ls false i) m = smQ (fun j => fvR l j * fvR x j) n)
def chkN (n m : Nat) (ls : List Rv) (x y : List Fv) : Bool :=
 decide (x.length = 0) && (decide (y.length = m) && y.all fnF) && covB m n (rwA2 ls) zeroC (fvR y) && prdK (fvR y) (rwB2 ls false) m && decide (smQ (fun i => fvR y i * rwB2 ls false i) m < 0)
def chkR (n m : Nat) (l : List Fv) (ls : List Rv) (x y : List Fv) : Bool :=
 decide (y.length = 0) && (decide (x.length = n) && x.all fnF) && belB m n (rwA2 ls) (rwB2 ls true) (fvR x) && prdK (fvR l) (fvR x) n && decide (0 < smQ (fun j => fvR l j * fvR x j) n)
def chkF (n m : Nat) (l : List Fv) (ls : List Rv) (x y : List Fv) (e : Int) : Bool :=
 if e = 0 then chkO n m l ls x y else if e = 4 then chkN n m ls x y else if e = 3 then chkR n m l ls x y else false
theorem fnF_pos {x : List Fv} (h : x.all fnF = true) : ∀ i, i < x.length → 0 ≤ fvR x i ∧ fitsF (fvR x i) = true := fun i hi => by
 have h1 := List.all_eq_true.1 h _ (List.getElem_mem hi)
 unfold fnF at h1
 rw [Bool.and_eq_true, Bool.not_eq_true'] at h1
 obtain ⟨h2, h3⟩ := h1
 have h4 := fv_std h2
 unfold fvR
 rw [List.getElem?_eq_getElem hi, Option.map_some, Option.getD_some]
 refine ⟨?_, h4.2⟩
 have h5 := isQ.neg_iff (x := ⟨x[i].s, none, 0, 0, x[i].l, x[i].t, none, 0, 0, x[i].m⟩) (q := x[i].rat) h4
 have h6 : decide (x[i].s < 0) = decide (x[i].rat < 0) := h5
 rw [h3] at h6
 exact Rat.not_lt.1 (of_decide_eq_false h6.symm)
section
variable {n m : Nat} {l : List Fv} {ls : List Rv} {x y : List Fv}
theorem chkO_x (h : (decide (x.length = n) && x.all fnF) = false) : chkO n m l ls x y = false := by unfold chkO; rw [h]; simp
theorem chkO_y (h : (decide (y.length = m) && y.all fnF) = false) : chkO n m l ls x y = false := by unfold chkO; rw [h]; simp
theorem chkO_b {o : Bool} (h : (false && !o) = (!false && belB m n (rwA2 ls) (rwB2 ls false) (fvR x))) : chkO n m l ls x y = false := by
 have h : belB m n (rwA2 ls) (rwB2 ls false) (fvR x) = false := by simpa using h.symm
 unfold chkO; rw [h]; simp
theorem chkO_c {o p : Bool} (h : (true && !o) = (!false && belB m n (rwA2 ls) (rwB2 ls false) (fvR x))) (h' : (false && !p) = (!o && covB m n (rwA2 ls) (fvR l) (fvR y))) : chkO n m l ls x y = false := by
 have h1 : (!o) = belB m n (rwA2 ls) (rwB2 ls false) (fvR x) := by simpa using h
 rw [h1, Bool.false_and] at h'
 unfold chkO
 cases e1 : belB m n (rwA2 ls) (rwB2 ls false) (fvR x)
 · simp
 · rw [e1, Bool.true_and] at h'
   rw [← h']
   simp
theorem chkO_fin {o p f3 f4 : Bool} {z1 z2 : Rat} (hx : (decide (x.length = n) && x.all fnF) = true) (hy : (decide (y.length = m) && y.all fnF) = true) (h : (true && !o) = (!false && belB m n (rwA2 ls) (rwB2 ls false) (fvR x))) (h' : (true && !p) = (!o && covB m n (rwA2 ls) (fvR l) (fvR y)))
 (h3 : f3 = (p || !prdK (fvR y) (rwB2 ls false) m)) (h4 : f4 = (f3 || !prdK (fvR l) (fvR x) n)) (g1 : prdK (fvR y) (rwB2 ls false) m = true → z1 = smQ (fun i => fvR y i * rwB2 ls false i) m) (g2 : prdK (fvR l) (fvR x) n = true → z2 = smQ (fun j => fvR l j * fvR x j) n) :
 chkO n m l ls x y = (decide (z1 = z2) && !f4) := by
 have h1 : (!o) = belB m n (rwA2 ls) (rwB2 ls false) (fvR x) := by simpa using h
 have h2 : (!p) = (belB m n (rwA2 ls) (rwB2 ls false) (fvR x) && covB m n (rwA2 ls) (fvR l) (fvR y)) := by rw [← h1]; simpa using h'
 unfold chkO
 rw [hx, hy, Bool.true_and, Bool.true_and, ← h2, h4, h3]
 cases e1 : prdK (fvR y) (rwB2 ls false) m
 · simp
 cases e2 : prdK (fvR l) (fvR x) n
 · simp
 rw [g1 e1, g2 e2]
 cases p <;> simp
theorem chkN_x (h : decide (x.length = 0) = false) : chkN n m ls x y = false := by unfold chkN; rw [h]; simp
theorem chkN_y (h : (decide (y.length = m) && y.all fnF) = false) : chkN n m ls x y = false := by unfold chkN; rw [h]; simp
theorem chkN_c {o : Bool} (h : (false && !o) = (!false && covB m n (rwA2 ls) zeroC (fvR y))) : chkN n m ls x y = false := by
 have h : covB m n (rwA2 ls) zeroC (fvR y) = false := by simpa using h.symm
 unfold chkN; rw [h]; simp
theorem chkN_fin {p f3 : Bool} {z1 : Rat} (hx : decide (x.length = 0) = true) (hy : (decide (y.length = m) && y.all fnF) = true) (h' : (true && !p) = (!false && covB m n (rwA2 ls) zeroC (fvR y)))
 (h3 : f3 = (p || !prdK (fvR y) (rwB2 ls false) m)) (g1 : prdK (fvR y) (rwB2 ls false) m = true → z1 = smQ (fun i => fvR y i * rwB2 ls false i) m) : chkN n m ls x y = (decide (z1 < 0) && !f3) := by
 have h2 : (!p) = covB m n (rwA2 ls) zeroC (fvR y) := by simpa using h'
 unfold chkN
 rw [hx, hy, Bool.true_and, Bool.true_and, ← h2, h3]
 cases e1 : prdK (fvR y) (rwB2 ls false) m
 · simp
 rw [g1 e1]
 cases p <;> simp
theorem chkR_y (h : decide (y.length = 0) = false) : chkR n m l ls x y = false := by unfold chkR; rw [h]; simp
theorem chkR_x (h : (decide (x.length = n) && x.all fnF) = false) : chkR n m l ls x y = false := by unfold chkR; rw [h]; simp
theorem chkR_b {o : Bool} (h : (false && !o) = (!false && belB m n (rwA2 ls) (rwB2 ls true) (fvR x))) : chkR n m l ls x y = false := by
 have h : belB m n (rwA2 ls) (rwB2 ls true) (fvR x) = false := by simpa using h.symm
 unfold chkR; rw [h]; simp
theorem chkR_fin {p f3 : Bool} {z1 : Rat} (hy : decide (y.length = 0) = true) (hx : (decide (x.length = n) && x.all fnF) = true) (h' : (true && !p) = (!false && belB m n (rwA2 ls) (rwB2 ls true) (fvR x)))
 (h3 : f3 = (p || !prdK (fvR l) (fvR x) n)) (g1 : prdK (fvR l) (fvR x) n = true → z1 = smQ (fun j => fvR l j * fvR x j) n) : chkR n m l ls x y = (decide (0 < z1) && !f3) := by
 have h2 : (!p) = belB m n (rwA2 ls) (rwB2 ls true) (fvR x) := by simpa using h'
 unfold chkR
 rw [hx, hy, Bool.true_and, Bool.true_and, ← h2, h3]
 cases e1 : prdK (fvR l) (fvR x) n
 · simp
 rw [g1 e1]
 cases p <;> simp
end
structure Rr where
 A : Option Addr
 n : Nat
 c : Nat
 a : List Fv
 y : Rw
def Rr.cs (x : Rr) : List Value := .slice x.A x.n x.c :: x.y.cs
def Rr.rv (x : Rr) : Rv := ⟨x.a, x.y.fv⟩
def Rr.on (x : Rr) : World → Prop := fun W => RdF W W.heap.size x.A x.n x.c x.a ∧ x.y.on W
theorem rr_sized : Sized 5 Rr.cs := ⟨by omega, fun x => ⟨rfl, by
 intro u hu
 rcases List.mem_cons.1 hu with rfl | hu
 · rfl
 · exact (rw_sized.2 x.y).2 u hu⟩⟩
def Rr.zero : Rr := ⟨none, 0, 0, [], Rw.zero⟩
section
variable {w W W' : World} {L L' X : List Blk} {D : List Hl} {n : Nat} {u : Nat → Rr} {S : Nat → Nat → Prop}
end
set_option maxRecDepth 100000
theorem OptF.std {s : Int} {l : List Int} {t : Int} {m : List Int} {q : Rat} (h : OptF s l t m (some q)) : StdF s l t m q := h
theorem low32 (a : Nat) (h : a < 4294967296) : bits .and .u64 (a : Int) 4294967295 = (a : Int) := by
 have h1 := bits_and_u64_nat a 4294967295 (by omega) (by omega)
 rw [show a &&& 4294967295 = a % 4294967296 from Nat.and_two_pow_sub_one_eq_mod a 32, Nat.mod_eq_of_lt h] at h1
 exact h1
theorem wrap_u64s (a : Int) (h0 : 0 ≤ a) (h : a ≤ 1000000) : IntKind.u64.wrap a = a := by rw [IntKind.wrap_u64]; omega
theorem mul64_one (t : Nat) (ht : t ≤ 1000000) (w : World) : Calls Tryz.prog 133 #[.int .u64 1, .int .u64 t] w fun e w' => e = .returned (.tuple #[.int .u64 0, .int .u64 t]) ∧ w = w' := by
 have k1 : bits .and .u64 1 4294967295 = 1 := low32 1 (by omega)
 have k0 : bits .and .u64 0 4294967295 = 0 := low32 0 (by omega)
 have kt := low32 t (by omega)
 have dt : (t : Int) / 4294967296 = 0 := by omega
 have wt := wrap_u64s t (by omega) (by omega)
 go_enter Tryz.func133, Tryz.ntmps133
 go_wp2
 go_ret2
 exact ⟨rfl, rfl⟩
theorem mul_one (t : Nat) (ht : t ≤ 1000000) (w : World) : Calls Tryz.prog 92 #[.int .u64 1, .int .u64 t] w fun e w' => e = .returned (.tuple #[.int .u64 0, .int .u64 t]) ∧ w = w' := by
 go_enter Tryz.func92, Tryz.ntmps92
 go_wp2_with (go_at_call 133; refine (mul64_one t ht _).mono ?_; rintro e w1 ⟨rfl, rfl⟩)
 go_ret2
 exact ⟨rfl, rfl⟩
section
variable {w W W' : World} {D : List Hl}
def allS (W : World) : Nat → Prop := fun b => b < W.heap.size
def rowP (x : Rr) : World → Prop := x.on
def rrP (A : Option Addr) (n cap : Nat) (l : List Rv) : World → Prop := fun W => RdR W W.heap.size A n cap l
theorem St.addA (h : St w [] D W) {P : World → Prop} (hP : ∀ W' : World, W.heap.size ≤ W'.heap.size → (∀ b, b < W.heap.size → W'.heap[b]? = W.heap[b]?) → P W') : St w [] (⟨P, allS W⟩ :: D) W :=
 h.add ⟨hP W (Nat.le_refl _) (fun _ _ => rfl), fun b hb => ⟨hb, fun p hp => by cases hp⟩, fun W' h1 h2 => hP W' h1 h2⟩
theorem St.addF (h : St w [] D W) {A : Option Addr} {n cap : Nat} {l : List Fv} (hl : RdF W W.heap.size A n cap l) : St w [] (⟨rfQ A n cap l, allS W⟩ :: D) W := h.addA fun W' h1 h2 => hl.keep fE_lasts h1 fun p hp => cell_of (h2 _ hp)
theorem St.addI (h : St w [] D W) {A : Option Addr} {n cap : Nat} {l : List Int} (hl : RdI W W.heap.size A n cap l) : St w [] (⟨rdP A n cap l, allS W⟩ :: D) W := h.addA fun W' h1 h2 => hl.keep (flat_lasts _) h1 fun p hp => cell_of (h2 _ hp)
theorem St.addR (h : St w [] D W) {A : Option Addr} {n cap : Nat} {l : List Rv} (hl : RdR W W.heap.size A n cap l) : St w [] (⟨rrP A n cap l, allS W⟩ :: D) W := h.addA fun W' h1 h2 => hl.keep rE_lasts h1 fun p hp => cell_of (h2 _ hp)
theorem St.addRow (h : St w [] D W) {x : Rr} (hx : x.on W) : St w [] (⟨rowP x, allS W⟩ :: D) W := h.addA fun W' h1 h2 => ⟨hx.1.keep fE_lasts h1 (fun p hp => cell_of (h2 _ hp)), hx.2.1.keep (flat_lasts _) h1 (fun p hp => cell_of (h2 _ hp)), hx.2.2.keep (flat_lasts _) h1 (fun p hp => cell_of (h2 _ hp))⟩
theorem St.getR (h : St w [] D W) {A : Option Addr} {n cap : Nat} {l : List Rv} {S : Nat → Prop} (hm : (⟨rrP A n cap l, S⟩ : Hl) ∈ D) : RdR W W.heap.size A n cap l := h.at hm
theorem St.getRow (h : St w [] D W) {x : Rr} {S : Nat → Prop} (hm : (⟨rowP x, S⟩ : Hl) ∈ D) : x.on W := h.at hm
theorem litE {α β : Type} {sz : Nat} {enc : α → List Value} {R : Enc β} (hs : Sized sz enc) (f : α → β) (on : α → World → Prop) (hon : ∀ x W', on x W' → R W' W'.heap.size (f x) (enc x)) (xs : List α) (T : TypeId) (cs : Array Value) (hx : ∀ x ∈ xs, on x (W.alloc (.cells cs T))) (hcs : cs = (xs.flatMap enc).toArray) (n H : Nat) (hH : W.heap.size = H) (hn : xs.length = n) (hb : n ≤ 1000) : Rd sz R (W.alloc (.cells cs T)) (W.alloc (.cells cs T)).heap.size (some ⟨H, 0, none⟩) n n (xs.map f) := by
 subst hH hn
 refine ⟨by simp, Nat.le_refl _, ⟨by omega, by omega⟩, fun hn => ⟨W.heap.size, 0, rfl, by simp, fun k hk => ?_⟩⟩
 have hk' : k < xs.length := by simpa using hk
 refine ⟨enc xs[k], ?_, (hs.2 _).1, fun j u hu => ?_⟩
 · have e : (xs.map f)[k] = f xs[k] := by simp
   rw [e]
   exact hon _ _ (hx xs[k] (List.getElem_mem hk'))
 · have hj : j < sz := by
    have := (List.getElem?_eq_some_iff.1 hu).1
    rw [(hs.2 _).1] at this
    exact this
   refine new_cell rfl ?_
   rw [hcs, List.getElem?_toArray, Nat.zero_add, flatMap_get hs _ _ _ hj, List.getElem?_eq_getElem hk']
   exact hu
theorem litR (xs : List Rr) (T : TypeId) (cs : Array Value) (hx : ∀ x ∈ xs, x.on (W.alloc (.cells cs T))) (hcs : cs = (xs.flatMap Rr.cs).toArray) (n H : Nat) (hH : W.heap.size = H) (hn : xs.length = n) (hb : n ≤ 1000) : RdR (W.alloc (.cells cs T)) (W.alloc (.cells cs T)).heap.size (some ⟨H, 0, none⟩) n n (xs.map Rr.rv) :=
 litE rr_sized Rr.rv Rr.on (fun x W' h => ⟨_, _, _, _, rfl, h.1, _, _, _, _, _, _, rfl, h.2.1, h.2.2⟩) xs T cs hx hcs n H hH hn hb
end
theorem r0 : rightL 0 [] = true := by decide +kernel
end Go.Proofs.YtdlcglndhhndpaaGreat
