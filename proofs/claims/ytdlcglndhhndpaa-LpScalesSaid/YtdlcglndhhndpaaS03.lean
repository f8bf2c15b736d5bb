/- Laws and walks laid together; the conditions stand in each theorem. -/
import Derived.WalkKit
import Derived.Laws.OwnMore
import Derived.Deep.Draws
import Derived.Deep.AppendLies
import Derived.Lib.Hide
import Derived.ProofKit
import Derived.OpenShut
import Derived.ShutString
import Derived.ChangeOld
import Derived.Below
import Derived.SizedLaws
import Derived.Deep.SlicePairs
import Derived.Deep.Slices
import Derived.ChangeSame
import Derived.Maps.AppendAt
import Derived.RegionTactic
import Derived.OwnWalk
import Derived.Laws.CopyRow
import Derived.Laws.CopyOwn
import Derived.Deep.RegionHeld3
import Derived.Test.YtdlcglndhhndpaaProg
import Derived.LoopTactic
import Derived.Deep.QuietTactic
import Derived.BigQuiet
import Derived.Deep.LoopGhost
import Derived.IntWalk
import Derived.Handy
import Derived.Shelf.Abstract
import Derived.Lib.MinMax
import Derived.ArgAppend
import Derived.Laws.BitsLemmas
import Derived.Laws.BitsAllLaws
import Derived.Lib.LazyBuf
import Derived.Outline
import Derived.OrdersHeld
import Derived.BigRegion
import Derived.Maps.RangeWalk
import Derived.Deep.CutRange
import Derived.Deep.CutBlock
import Derived.Test.YtdlcglndhhndpaaS02
import Derived.Test.YtdlcglndhhndpaaS01
import Derived.Test.YtdlcglndhhndpaaT41
import Derived.Test.YtdlcglndhhndpaaT42
import Derived.Test.YtdlcglndhhndpaaT39
import Derived.Test.YtdlcglndhhndpaaT17
import Derived.Test.YtdlcglndhhndpaaT07
import Derived.Test.YtdlcglndhhndpaaT33
set_option linter.unusedSimpArgs false
set_option linter.unusedVariables false
namespace Go.Proofs.Ytdlcglndhhndpaa
open Go.RowKit
theorem few_pt9 {x : Fv} (hk : x.ok = true) (h : fewV 1 x = true) : Pt 1 x.rat := by
  unfold fewV fewF at h
  rw [Bool.and_eq_true] at h
  have h1 : x.l.length ≤ 1 := by have := of_decide_eq_true h.1; omega
  have h2 : x.m.length ≤ 1 := by have := of_decide_eq_true h.2; omega
  have e := fv_form hk
  rw [e] at h1 h2
  exact ⟨digs_len.1 h1, digs_len.1 h2⟩
def facQ (u : Nat) : Rat := ((1 + (u : Int) : Int) : Rat)
theorem fac_pos (u : Nat) : 0 < facQ u := by
  unfold facQ
  have h : ((0 : Int) : Rat) < ((1 + (u : Int) : Int) : Rat) := Rat.intCast_lt_intCast.2 (by omega)
  exact h
theorem fac_pt {u : Nat} (hu : u < 9) : Pt 1 (facQ u) := by
  unfold facQ
  refine ⟨?_, ?_⟩
  · rw [Rat.num_intCast, show pw 1 = 1048576 from rfl]; omega
  · rw [Rat.den_intCast, show pw 1 = 1048576 from rfl]; decide
theorem fac_fits {u : Nat} (hu : u < 9) : fitsF (facQ u) = true := by
  have h : mulK 1 (facQ u) = true := (Pt.one.mul (fac_pt hu) (by omega)).1
  have := mulK_fits h
  rwa [Rat.one_mul] at this
theorem rwA2_at {ls : List Rv} {i : Nat} {X : Rv} (h : ls[i]? = some X) (j : Nat) : rwA2 ls i j = fvR X.a j := by
  unfold rwA2 fvR
  rw [h, Option.bind_some]
theorem rwB2_at {ls : List Rv} {i : Nat} {X : Rv} (h : ls[i]? = some X) : rwB2 ls false i = X.b.rat := by
  unfold rwB2
  rw [if_neg (by decide), h, Option.map_some, Option.getD_some]
theorem ofF_allP9 {α : Type} {p : α → Bool} {n : Nat} {f : Nat → α} (h : ∀ i, i < n → p (f i) = true) : (ofF n f).all p = true := List.all_eq_true.2 fun x hx => by
  obtain ⟨i, hi, rfl⟩ := List.mem_iff_getElem.1 hx
  have hi' : i < n := by rw [ofF_len] at hi; exact hi
  have := ofF_get (f := f) hi'
  rw [List.getElem?_eq_getElem hi] at this
  rw [Option.some.inj this]
  exact h i hi'
theorem rowF_parts {n : Nat} {X : Rv} (h : rowF (n : Int) X = true) : X.a.length = n ∧ X.b.ok = true ∧ X.a.all Fv.ok = true := by
  unfold rowF at h
  rw [Bool.and_eq_true, Bool.and_eq_true, decide_eq_true_eq] at h
  exact ⟨by omega, h.1.2, h.2⟩
theorem fewP_parts {l : List Fv} {ls : List Rv} (h : fewP l ls = true) : l.length ≤ 4 ∧ ls.length ≤ 4 ∧ (∀ x ∈ l, fewV 1 x = true) ∧ ∀ X ∈ ls, fewV 1 X.b = true ∧ ∀ x ∈ X.a, fewV 1 x = true := by
  unfold fewP few6L at h
  rw [Bool.and_eq_true, Bool.and_eq_true, Bool.and_eq_true, decide_eq_true_eq, decide_eq_true_eq, List.all_eq_true, List.all_eq_true] at h
  refine ⟨by omega, h.1, h.2.1.2, fun X hX => ?_⟩
  have := h.2.2 X hX
  unfold fewRow few6L at this
  rw [Bool.and_eq_true, Bool.and_eq_true, List.all_eq_true] at this
  exact ⟨this.2, this.1.2⟩
def scR (n : Nat) (f : Rat) (X : Rv) : Rv := ⟨ofF n fun j => fvQ (fvR X.a j * f), fvQ (X.b.rat * f)⟩
def scL (n : Nat) (γ : Rat) (l : List Fv) : List Fv := ofF n fun j => fvQ (fvR l j * γ)
section
variable {m n k u t : Nat} {l : List Fv} {ls : List Rv} {V : Nat → Rv}
theorem fvR_pt (h : ∀ x ∈ l, fewV 1 x = true) (ho : l.all Fv.ok = true) (hl : l.length = n) : ∀ i, i < n → Pt 1 (fvR l i) := fun i hi => by
  have hm : l[i]? = some l[i] := List.getElem?_eq_getElem (by omega)
  unfold fvR
  rw [hm, Option.map_some, Option.getD_some]
  exact few_pt9 (List.all_eq_true.1 ho _ (List.getElem_mem _)) (h _ (List.getElem_mem _))
theorem scal_mul (hf : fewP l ls = true) (hok : (l.all Fv.ok && ls.all (rowF n)) = true) (hl : l.length = n) (hu : u < 9) : ∀ i, i < n → mulK (fvR l i) (facQ u) = true := fun i hi =>
  ((fvR_pt (fewP_parts hf).2.2.1 (Bool.and_eq_true .. ▸ hok : _ ∧ _).1 hl i hi).mul (fac_pt hu) (by omega)).1
theorem scal_row (hf : fewP l ls = true) (hok : (l.all Fv.ok && ls.all (rowF n)) = true) {X : Rv} (hX : X ∈ ls) (hu : u < 9) : (∀ i, i < n → mulK (fvR X.a i) (facQ u) = true) ∧ mulK X.b.rat (facQ u) = true := by
  obtain ⟨h1, h2, h3⟩ := rowF_parts (List.all_eq_true.1 (Bool.and_eq_true .. ▸ hok : _ ∧ _).2 X hX)
  obtain ⟨g1, g2⟩ := (fewP_parts hf).2.2.2 X hX
  exact ⟨fun i hi => ((fvR_pt g2 h3 h1 i hi).mul (fac_pt hu) (by omega)).1, ((few_pt9 h2 g1).mul (fac_pt hu) (by omega)).1⟩
theorem scal_ok (hf : fewP l ls = true) (hok : (l.all Fv.ok && ls.all (rowF n)) = true) (hl : l.length = n) (hV : ∀ i, i < m → ls[i]? = some (V i)) (hu : u < 9) (ht : t < 9) :
    ((scL n (facQ t) l).all Fv.ok && (ofF m (putF V k (scR n (facQ u) (V k)))).all (rowF n)) = true ∨ m ≤ k := by
  by_cases hk : k < m
  · left
    rw [Bool.and_eq_true]
    refine ⟨ofF_allP9 fun i hi => fvQ_ok (mulK_fits (scal_mul hf hok hl ht i hi)), ofF_allP9 fun i hi => ?_⟩
    by_cases e : i = k
    · subst e
      rw [putF_same]
      obtain ⟨h1, h2⟩ := scal_row hf hok (List.mem_of_getElem? (hV i hi)) hu
      unfold rowF scR
      rw [Bool.and_eq_true, Bool.and_eq_true, decide_eq_true_eq]
      exact ⟨⟨by rw [ofF_len], fvQ_ok (mulK_fits h2)⟩, ofF_allP9 fun j hj => fvQ_ok (mulK_fits (h1 j hj))⟩
    · rw [putF_other e]
      exact List.all_eq_true.1 (Bool.and_eq_true .. ▸ hok : _ ∧ _).2 _ (List.mem_of_getElem? (hV i hi))
  · right; omega
theorem scal_kin {f γ : Rat} {E E' : LpEnd} (hV : ∀ i, i < m → ls[i]? = some (V i)) (hk : k < m) (hf : 0 < f) (hγ : 0 < γ) (h : LpSays m n (rwA2 ls) (rwB2 ls false) (fvR l) E)
    (h' : LpSays m n (rwA2 (ofF m (putF V k (scR n f (V k))))) (rwB2 (ofF m (putF V k (scR n f (V k)))) false) (fvR (scL n γ l)) E') (hE : E ≠ .full) (hE' : E' ≠ .full) : Kin n E E' := by
  refine scales_ends (fun i => if i = k then f else 1) γ (fun i => ?_) hγ (fun i j hi hj => ?_) (fun i hi => ?_) (fun j hj => ?_) h h' hE hE'
  · show 0 < if i = k then f else 1
    split
    · exact hf
    · decide
  · show _ = (if i = k then f else 1) * _
    rw [rwA2_at (ofF_get hi), rwA2_at (hV i hi)]
    by_cases e : i = k
    · subst e
      rw [putF_same, if_pos rfl]
      unfold scR
      rw [fvR_ofF hj, fvQ_rat, Rat.mul_comm]
    · rw [putF_other e, if_neg e, Rat.one_mul]
  · show _ = (if i = k then f else 1) * _
    rw [rwB2_at (ofF_get hi), rwB2_at (hV i hi)]
    by_cases e : i = k
    · subst e
      rw [putF_same, if_pos rfl]
      show (fvQ _).rat = _
      rw [fvQ_rat, Rat.mul_comm]
    · rw [putF_other e, if_neg e, Rat.one_mul]
  · unfold scL
    rw [fvR_ofF hj, fvQ_rat, Rat.mul_comm]
theorem more_ok9 (hok : (l.all Fv.ok && ls.all (rowF n)) = true) (hV : ∀ i, i < m → ls[i]? = some (V i)) (hk : k < m) {z : Fv} (hz : z.ok = true) :
    (l.all Fv.ok && (ofF (m + 1) (putF V m ⟨(V k).a, z⟩)).all (rowF n)) = true := by
  rw [Bool.and_eq_true] at hok ⊢
  refine ⟨hok.1, ofF_allP9 fun i hi => ?_⟩
  by_cases e : i = m
  · subst e
    rw [putF_same]
    obtain ⟨h1, h2, h3⟩ := rowF_parts (List.all_eq_true.1 hok.2 _ (List.mem_of_getElem? (hV k hk)))
    unfold rowF
    rw [Bool.and_eq_true, Bool.and_eq_true, decide_eq_true_eq]
    exact ⟨⟨by show ((V k).a.length : Int) = _; omega, hz⟩, h3⟩
  · rw [putF_other e]
    exact List.all_eq_true.1 hok.2 _ (List.mem_of_getElem? (hV i (by omega)))
theorem more9 {E E' : LpEnd} {Z : Rv} (hV : ∀ i, i < m → ls[i]? = some (V i)) (h : LpSays m n (rwA2 ls) (rwB2 ls false) (fvR l) E)
    (h' : LpSays (m + 1) n (rwA2 (ofF (m + 1) (putF V m Z))) (rwB2 (ofF (m + 1) (putF V m Z)) false) (fvR l) E') (hE : E ≠ .full) (hE' : E' ≠ .full) :
    (∀ y, E = .none y → ∃ z, E' = .none z) ∧ (∀ x y z, E = .best x y → ¬ E' = .ray z) ∧ ∀ x y u v, E = .best x y → E' = .best u v → smQ (fun j => fvR l j * u j) n ≤ smQ (fun j => fvR l j * x j) n :=
  more_ends _ _ (fun i j hi => by rw [rwA2_at (ofF_get (show i < m + 1 by omega)), rwA2_at (hV i hi), putF_other (show i ≠ m by omega)])
    (fun i hi => by rw [rwB2_at (ofF_get (show i < m + 1 by omega)), rwB2_at (hV i hi), putF_other (show i ≠ m by omega)]) h h' hE hE'
end
end Go.Proofs.Ytdlcglndhhndpaa
namespace Go.Proofs.Ytdlcglndhhndpaa
open Go.RowKit
theorem ZS6 {p : Prop} (h : p := by
  first
    | (go_enter Try.func76, Try.ntmps76
       go_wp2_with (first | (refine ZAL ?_; clear K r; intro W b K r) | (refine ZST ?_; clear K r; intro W K r))
       refine (HD1.out _ ZRD ZRD).mono ?_
       rintro e W' ⟨s5, A5, n5, c5, l5, s6, A6, n6, c6, l6, rfl, ⟨hra, hs5, hfa⟩, ⟨hrb, hs6, hfb⟩, hb⟩
       have hf5 := Lib.hid (hfa.mono K.1.size)
       have hg5 := Lib.hid (hfb.mono K.1.size)
       replace K := K.retF hb hra hrb hfa hfb
       clear r
       have r := K.rawS
       clear hra hrb hfa hfb hb
       go_wp2_with (first | (refine ZAL ?_; clear K r; intro W b K r) | (refine ZST ?_; clear K r; intro W K r))
       refine (HD2.out _ ZRD ZRD).mono ?_
       rintro e W' ⟨s7, A7, n7, c7, l7, s8, A8, n8, c8, l8, rfl, ⟨hra, hs7, hfa⟩, ⟨hrb, hs8, hfb⟩, hb⟩
       have hf7 := Lib.hid (hfa.mono K.1.size)
       have hg7 := Lib.hid (hfb.mono K.1.size)
       replace K := K.retF hb hra hrb hfa hfb
       clear r
       have r := K.rawS
       clear hra hrb hfa hfb hb
       obtain rfl : s6 = U := hs6.1.trans hU
       obtain rfl : s8 = V := hs8.1.trans hV
       go_wp2_with (first | (refine ZAL ?_; clear K r; intro W b K r) | (refine ZST ?_; clear K r; intro W K r))
       refine (HC.out _ _ _ _ _ _ _ _ _ _ _ ZRD ZRD hs5 hs7).mono ?_
       rintro e W' ⟨rfl, hb⟩
       replace K := K.keep hb
       clear r
       have r := K.rawS
       clear hb
       clear hs5 hs6 hs7 hs8 hU hV
       go_wp2
       go_ret
       exact ⟨by rw [← HE.out, Int.one_mul]; rfl, K.1⟩)
    | fail) : p := h
end Go.Proofs.Ytdlcglndhhndpaa
namespace Go.Proofs.Ytdlcglndhhndpaa
open Go.RowKit
set_option maxRecDepth 100000 in
set_option maxHeartbeats 4000000 in
theorem gbelow_any (N : Nat) : ∀ (C p q r' s : Int) (s1 s2 s3 s4 : Int) (A1 A2 A3 A4 : Option Addr) (n1 c1 n2 c2 n3 c3 n4 c4 : Nat) (l1 l2 l3 l4 : List Int) (w : World) (r1 : RdI w w.heap.size A1 n1 c1 l1) (r2 : RdI w w.heap.size A2 n2 c2 l2) (r3 : RdI w w.heap.size A3 n3 c3 l3) (r4 : RdI w w.heap.size A4 n4 c4 l4) (e1 : Std s1 l1 p) (e2 : Std s2 l2 q) (e3 : Std s3 l3 r') (e4 : Std s4 l4 s) (f1 : fits p = true) (f2 : fits q = true) (f3 : fits r' = true) (f4 : fits s = true) (hC : CmpI C 1 p q r' s) (hN : (q + s).toNat ≤ N),
    Calls Try.prog 76 #[.agg #[.int .i64 s1, .slice A1 n1 c1], .agg #[.int .i64 s2, .slice A2 n2 c2], .agg #[.int .i64 s3, .slice A3 n3 c3], .agg #[.int .i64 s4, .slice A4 n4 c4]] w fun e w' => e = .returned (.int .i64 C) ∧ Below w.heap.size w w' := by
  induction N with
  | zero => intro C p q r' s s1 s2 s3 s4 A1 A2 A3 A4 n1 c1 n2 c2 n3 c3 n4 c4 l1 l2 l3 l4 w r1 r2 r3 r4 e1 e2 e3 e4 f1 f2 f3 f4 hC hN; have := hC.1; have := hC.2.1; omega
  | succ N ih =>
    intro C p q r' s s1 s2 s3 s4 A1 A2 A3 A4 n1 c1 n2 c2 n3 c3 n4 c4 l1 l2 l3 l4 w r1 r2 r3 r4 e1 e2 e3 e4 f1 f2 f3 f4 hC hN
    have K := ((((St.start w).oldRd r1).oldRd r2).oldRd r3).oldRd r4
    have r := K.raw
    have hq := hC.1
    have hs := hC.2.1
    have HD1 := Lib.hid (fun W hl hm => uDiv p q s1 A1 n1 c1 l1 s2 A2 n2 c2 l2 W hl hm e1 e2 f1 f2 (by omega))
    have HD2 := Lib.hid (fun W hl hm => uDiv r' s s3 A3 n3 c3 l3 s4 A4 n4 c4 l4 W hl hm e3 e4 f3 f4 (by omega))
    have HC := Lib.hid (fun s5 A5 n5 c5 l5 s6 A6 n6 c6 l6 W r1 r2 h1 h2 => uCompare (fq p q) (fq r' s) s5 A5 n5 c5 l5 s6 A6 n6 c6 l6 W r1 r2 h1 h2 (fits_fq hq f1) (fits_fq hs f3))
    have G2 := fits_fr (x := p) hq f2
    have G4 := fits_fr (x := r') hs f4
    have Hp := hC.parts
    have Hs := hC.stop
    have Hr := hC.rests
    obtain ⟨U, hU⟩ : ∃ U, sgI (fr p q) = U := ⟨_, rfl⟩
    obtain ⟨V, hV⟩ : ∃ V, sgI (fr r' s) = V := ⟨_, rfl⟩
    rw [hU, hV] at Hs
    have hU1 : -1 ≤ U ∧ U ≤ 1 := by rw [← hU]; unfold sgI; split; omega; split <;> omega
    have hV1 : -1 ≤ V ∧ V ≤ 1 := by rw [← hV]; unfold sgI; split; omega; split <;> omega
    have hU0 : U = 0 ↔ fr p q = 0 := by rw [← hU]; unfold sgI; split; omega; split <;> omega
    have hV0 : V = 0 ↔ fr r' s = 0 := by rw [← hV]; unfold sgI; split; omega; split <;> omega
    clear r1 r2 r3 r4 e1 e3 f1 f3 hC
    generalize fr p q = u at *
    generalize fr r' s = v at *
    generalize cmpI (fq p q) (fq r' s) = c at *
    generalize fq p q = x at *
    generalize fq r' s = y at *
    by_cases hc : c = 0
    case neg =>
      have hd : (c != 0) = true := by simp [hc]
      have HE := Lib.hid (Hp hc)
      clear hc Hp Hs Hr G2 G4 ih hq hs hN hU1 hV1 hU0 hV0 e2 e4 f2 f4
      exact ZS6
    subst hc
    have hw : IntKind.i64.wrap (U - V) = U - V := IntWalk.i64_in _ (by omega)
    obtain ⟨g1, g2, g3⟩ := Hr rfl
    by_cases hu : u = 0
    · have hd : (U == 0) = true := by simp [hU0, hu]
      have HE := Lib.hid (Hs rfl (Or.inl hu))
      clear Hp Hs Hr G2 G4 ih hq hs hN hU1 hV1 hU0 hV0 e2 e4 f2 f4 g1 g2 g3 hu
      exact ZS6
    by_cases hv : v = 0
    · have hd : (U == 0) = false := by simp [hU0, hu]
      have hd2 : (V == 0) = true := by simp [hV0, hv]
      have HE := Lib.hid (Hs rfl (Or.inr hv))
      clear Hp Hs Hr G2 G4 ih hq hs hN hU1 hV1 hU0 hV0 e2 e4 f2 f4 g1 g2 g3 hu hv
      exact ZS6
    have hd : (U == 0) = false := by simp [hU0, hu]
    have hd2 : (V == 0) = false := by simp [hV0, hv]
    have HI := Lib.hid (fun s8 s6 A8 A6 n8 c8 n6 c6 l8 l6 W r4 r8 r2 r6 h8 h6 => ih C s v q u s4 s8 s2 s6 A4 A8 A2 A6 n4 c4 n8 c8 n2 c2 n6 c6 l4 l8 l2 l6 W r4 r8 r2 r6 e4 h8 e2 h6 f4 G4 f2 G2 ⟨by omega, by omega, Or.inl rfl, by rw [Int.mul_comm s u, Int.mul_comm q v]; exact g1⟩ (by omega))
    clear Hp Hs Hr G2 G4 ih hq hs hN hU1 hV1 hU0 hV0 e2 e4 f2 f4 g1 g2 g3 hu hv
    go_enter Try.func76, Try.ntmps76
    go_wp2_with (first | (refine ZAL ?_; clear K r; intro W b K r) | (refine ZST ?_; clear K r; intro W K r))
    refine (HD1.out _ ZRD ZRD).mono ?_
    rintro e W' ⟨s5, A5, n5, c5, l5, s6, A6, n6, c6, l6, rfl, ⟨hra, hs5, hfa⟩, ⟨hrb, hs6, hfb⟩, hb⟩
    have hf5 := Lib.hid (hfa.mono K.1.size)
    have hg5 := Lib.hid (hfb.mono K.1.size)
    replace K := K.retF hb hra hrb hfa hfb
    clear r
    have r := K.rawS
    clear hra hrb hfa hfb hb
    go_wp2_with (first | (refine ZAL ?_; clear K r; intro W b K r) | (refine ZST ?_; clear K r; intro W K r))
    refine (HD2.out _ ZRD ZRD).mono ?_
    rintro e W' ⟨s7, A7, n7, c7, l7, s8, A8, n8, c8, l8, rfl, ⟨hra, hs7, hfa⟩, ⟨hrb, hs8, hfb⟩, hb⟩
    have hf7 := Lib.hid (hfa.mono K.1.size)
    have hg7 := Lib.hid (hfb.mono K.1.size)
    replace K := K.retF hb hra hrb hfa hfb
    clear r
    have r := K.rawS
    clear hra hrb hfa hfb hb
    obtain rfl : s6 = U := hs6.1.trans hU
    obtain rfl : s8 = V := hs8.1.trans hV
    go_wp2_with (first | (refine ZAL ?_; clear K r; intro W b K r) | (refine ZST ?_; clear K r; intro W K r))
    refine (HC.out _ _ _ _ _ _ _ _ _ _ _ ZRD ZRD hs5 hs7).mono ?_
    rintro e W' ⟨rfl, hb⟩
    replace K := K.keep hb
    clear r
    have r := K.rawS
    clear hb
    clear hU hV hs5 hs7
    go_wp2_with (first | (refine ZAL ?_; clear K r; intro W b K r) | (refine ZST ?_; clear K r; intro W K r))
    refine (HI.out _ _ _ _ _ _ _ _ _ _ _ ZRD ZRD ZRD ZRD hs8 hs6).mono ?_
    rintro e W' ⟨rfl, hb⟩
    replace K := K.keep hb
    clear r
    have r := K.rawS
    clear hb
    clear hs6 hs8
    go_wp2
    go_ret
    exact ⟨rfl, K.1⟩
end Go.Proofs.Ytdlcglndhhndpaa
namespace Go.Proofs.Ytdlcglndhhndpaa
open Go.RowKit
set_option maxRecDepth 100000 in
set_option maxHeartbeats 2000000 in
theorem gCompare_any (s1 t1 s2 t2 : Int) (A1 B1 A2 B2 : Option Addr) (n1 c1 m1 d1 n2 c2 m2 d2 : Nat) (l1 k1 l2 k2 : List Int) (w : World) (r1 : RdI w w.heap.size A1 n1 c1 l1) (q1 : RdI w w.heap.size B1 m1 d1 k1) (r2 : RdI w w.heap.size A2 n2 c2 l2) (q2 : RdI w w.heap.size B2 m2 d2 k2) :
    Calls Try.prog 38 #[.agg #[.int .i64 s1, .slice A1 n1 c1, .int .i64 t1, .slice B1 m1 d1], .agg #[.int .i64 s2, .slice A2 n2 c2, .int .i64 t2, .slice B2 m2 d2]] w fun e w' => e = .returned (.int .i64 (cmpF (rightF s1 l1 t1 k1 && rightF s2 l2 t2 k2) (ratF s1 l1 t1 k1) (ratF s2 l2 t2 k2))) ∧ Below w.heap.size w w' := by
  have K := ((((St.start w).oldRd r1).oldRd q1).oldRd r2).oldRd q2
  have r := K.raw
  have HR1 := Lib.hid (fun W h g => gRight_any s1 t1 A1 B1 n1 c1 m1 d1 l1 k1 W h g)
  have HR2 := Lib.hid (fun W h g => gRight_any s2 t2 A2 B2 n2 c2 m2 d2 l2 k2 W h g)
  have Hno := Lib.hid (fun W (c : Int) (h : Below w.heap.size w W) => (⟨0, none, 0, 0, [], 0, none, 0, 0, [], rfl, ⟨Rd.nil, Rd.nil⟩, ⟨rfl, rfl, rfl, rfl⟩, ⟨FrA.none, FrA.none⟩, h⟩ : FrE w none c (.returned (.tuple #[.agg #[.int .i64 0, .slice none 0 0, .int .i64 0, .slice none 0 0], .int .i64 c])) W))
  cases h1 : rightF s1 l1 t1 k1
  · rw [h1] at HR1
    clear h1
    go_enter Try.func38, Try.ntmps38
    go_wp2_with (first | (refine ZAL ?_; clear K r; intro W b K r) | (refine ZST ?_; clear K r; intro W K r))
    refine (HR1.out _ ZRD ZRD).mono ?_
    rintro e W' ⟨rfl, hb⟩
    replace K := K.keep hb
    clear r
    have r := K.rawS
    clear hb
    go_wp2
    go_ret
    exact ⟨rfl, K.1⟩
  cases h2 : rightF s2 l2 t2 k2
  · rw [h1] at HR1
    rw [h2] at HR2
    clear h1 h2
    go_enter Try.func38, Try.ntmps38
    go_wp2_with (first | (refine ZAL ?_; clear K r; intro W b K r) | (refine ZST ?_; clear K r; intro W K r))
    refine (HR1.out _ ZRD ZRD).mono ?_
    rintro e W' ⟨rfl, hb⟩
    replace K := K.keep hb
    clear r
    have r := K.rawS
    clear hb
    go_wp2_with (first | (refine ZAL ?_; clear K r; intro W b K r) | (refine ZST ?_; clear K r; intro W K r))
    refine (HR2.out _ ZRD ZRD).mono ?_
    rintro e W' ⟨rfl, hb⟩
    replace K := K.keep hb
    clear r
    have r := K.rawS
    clear hb
    go_wp2
    go_ret
    exact ⟨rfl, K.1⟩
  rw [h1] at HR1
  rw [h2] at HR2
  obtain ⟨⟨S1, T1⟩, F1⟩ := rightF_std h1
  obtain ⟨⟨S2, T2⟩, F2⟩ := rightF_std h2
  have a1 := fitsF_num F1
  have a2 := fitsF_den F1
  have a3 := fitsF_num F2
  have a4 := fitsF_den F2
  rw [Bool.true_and]
  generalize ratF s1 l1 t1 k1 = x at *
  generalize ratF s2 l2 t2 k2 = y at *
  have hcmp : cmpF true x y = cmpQ x y := if_pos rfl
  rw [hcmp]
  have HB := Lib.hid (fun W r1 r2 r3 r4 => gbelow_any (x.den + y.den : Int).toNat (cmpQ x y) x.num x.den y.num y.den s1 t1 s2 t2 A1 B1 A2 B2 n1 c1 m1 d1 n2 c2 m2 d2 l1 k1 l2 k2 W r1 r2 r3 r4 S1 T1 S2 T2 a1 a2 a3 a4 (CmpI.start x y) (Nat.le_refl _))
  generalize cmpQ x y = C at *
  clear hcmp h1 h2 S1 S2 T1 T2 F1 F2 a1 a2 a3 a4
  go_enter Try.func38, Try.ntmps38
  go_wp2_with (first | (refine ZAL ?_; clear K r; intro W b K r) | (refine ZST ?_; clear K r; intro W K r))
  refine (HR1.out _ ZRD ZRD).mono ?_
  rintro e W' ⟨rfl, hb⟩
  replace K := K.keep hb
  clear r
  have r := K.rawS
  clear hb
  go_wp2_with (first | (refine ZAL ?_; clear K r; intro W b K r) | (refine ZST ?_; clear K r; intro W K r))
  refine (HR2.out _ ZRD ZRD).mono ?_
  rintro e W' ⟨rfl, hb⟩
  replace K := K.keep hb
  clear r
  have r := K.rawS
  clear hb
  go_wp2_with (first | (refine ZAL ?_; clear K r; intro W b K r) | (refine ZST ?_; clear K r; intro W K r))
  refine (HB.out _ ZRD ZRD ZRD ZRD).mono ?_
  rintro e W' ⟨rfl, hb⟩
  replace K := K.keep hb
  clear r
  have r := K.rawS
  clear hb
  go_wp2
  go_ret
  exact ⟨rfl, K.1⟩
end Go.Proofs.Ytdlcglndhhndpaa
namespace Go.Proofs.Ytdlcglndhhndpaa
open Go.RowKit
section
variable {P : Program} {ops : Array Oper} {rest : List Oper} {o : Oper} {a : Act} {Q : Exit → Act → World → Prop} {w W : World} {L L' X : List Blk} {D : List Hl}
theorem OwL.empty {α : Type} (sz : Nat) (enc : α → List Value) (e : TypeId) (g : Nat) : OwL sz enc e (.slice (some ⟨g, 0, none⟩) 0 0) ([] : List α) [(g, #[], e)] := Or.inr ⟨g, 0, [], rfl, rfl, Nat.le_refl _, by unfold maxLen; omega, by simp⟩
end
theorem rr_cells {w : World} {B : Nat} {A : Option Addr} {n cap : Nat} {v : Nat → Rr} (h : Rd 5 (flat Rr.cs) w B A n cap (ofF n v)) (hn : 0 < n) : ∃ b off, A = some ⟨b, off, none⟩ ∧ b < B ∧ ∀ i, i < n → w.cell? ⟨b, off + i * 5, none⟩ = some (.slice (v i).A (v i).n (v i).c) ∧ w.cell? ⟨b, off + i * 5 + 1, none⟩ = some (.int .i64 (v i).y.s) ∧ w.cell? ⟨b, off + i * 5 + 2, none⟩ = some (.slice (v i).y.A (v i).y.n (v i).y.c) ∧ w.cell? ⟨b, off + i * 5 + 3, none⟩ = some (.int .i64 (v i).y.t) ∧ w.cell? ⟨b, off + i * 5 + 4, none⟩ = some (.slice (v i).y.B (v i).y.m (v i).y.d) := by
  obtain ⟨b, off, rfl, hb, hc⟩ := h.2.2.2 hn
  refine ⟨b, off, rfl, hb, fun i hi => ?_⟩
  obtain ⟨cs, h1, h2, h3⟩ := hc i (by rw [ofF_len]; exact hi)
  have e : (ofF n v)[i]'(by rw [ofF_len]; exact hi) = v i := by
    have := ofF_get (f := v) hi
    rw [List.getElem?_eq_getElem (by rw [ofF_len]; exact hi)] at this
    exact Option.some.inj this
  rw [e] at h1
  have h1 : cs = (v i).cs := h1
  subst h1
  exact ⟨h3 0 _ rfl, h3 1 _ rfl, h3 2 _ rfl, h3 3 _ rfl, h3 4 _ rfl⟩
theorem St.rdRR {w W : World} {L : List Blk} {D : List Hl} {n g cap : Nat} {u : Nat → Rr} {S : Nat → Nat → Prop} {J : List Value} (K : St w L D W) (hb : ((g, recA Rr.cs n u J, 45) : Blk) ∈ L) (hm : rrF n u S ∈ D) (hn : n ≤ 1000000) (hc : n ≤ cap ∧ cap ≤ 9223372036854775807) : RdR W W.heap.size (some ⟨g, 0, none⟩) n cap (ofF n fun i => (u i).rv) := by
  have hB := K.blk hb
  refine ⟨ofF_len, hc.1, ⟨hc.2, by omega⟩, fun hn => ⟨g, 0, rfl, hB.lt, fun k hk => ?_⟩⟩
  rw [ofF_len] at hk
  refine ⟨(u k).cs, ?_, rfl, fun j v hv => ?_⟩
  · have e : (ofF n fun i => (u i).rv)[k]'(by rw [ofF_len]; exact hk) = (u k).rv := by
      have := ofF_get (f := fun i => (u i).rv) hk
      rw [List.getElem?_eq_getElem (by rw [ofF_len]; exact hk)] at this
      exact Option.some.inj this
    rw [e]
    have ho := (K.famAt hm (i := k) hk).1
    exact ⟨_, _, _, _, rfl, ho.1, _, _, _, _, _, _, rfl, ho.2.1, ho.2.2⟩
  · have hj : j < 5 := (List.getElem?_eq_some_iff.1 hv).1
    rw [Nat.zero_add]
    exact hB.cell ((recA_get (J := J) (v := u) rr_sized hk hj).trans hv)
theorem tmod_nat {i : Int} {n : Nat} (h0 : 0 ≤ i) (hn : 0 < n) : Int.tmod i (n : Int) = ((i.toNat % n : Nat) : Int) ∧ i.toNat % n < n := by
  refine ⟨?_, Nat.mod_lt _ hn⟩
  have e : i = ((i.toNat : Nat) : Int) := by omega
  rw [e, Int.tmod_eq_emod_of_nonneg (by omega)]
  rfl
end Go.Proofs.Ytdlcglndhhndpaa
