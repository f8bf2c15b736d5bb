/- Walk over steps of the statements of layer 15; and the plain law: what the program and the reference tell is the same. Conditions stand in each theorem. -/
import Derived.Test.YthmnkmomgaamlaaF5
import Derived.Test.YthmnkmomgaamlaaL5
namespace Go.Proofs.Ythmnkmomgaamlaa
open Go.RowKit
set_option linter.unusedVariables false

def SFact (m : Int) (l : List Lg) (la : List Int) (C : List St) (er : Int) : Prop :=
  (rightL m l = false ∧ la = [] ∧ C = [] ∧ er = 1) ∨ (rightL m l = true ∧ ((er = 0 ∧ C = [] ∧ ∃ T, la = ofF m.toNat T ∧ Least m.toNat (stepsF m.toNat l) T ∧ ∀ v, v < m.toNat → T v ≤ (((m.toNat + 1) * (stepsF m.toNat l).length : Nat) : Int) * 1048576) ∨
   (er = 22 ∧ la = [] ∧ 1 ≤ C.length ∧ C.length ≤ 200 ∧ refF m l C = true ∧ ∃ B v, BadAt m.toNat (stepsF m.toNat l) B v)))
theorem solve_form {w w' : World} {m : Int} {l : List Lg} {e : Ending} (h : SolvePost w m l e w') : ∃ (Aa : Option Addr) (na ca : Nat) (la : List Int) (Af : Option Addr) (nf cf : Nat) (C : List St) (er : Int),
    e = .returned (.tuple #[.slice Aa na ca, .slice Af nf cf, .int .i64 er]) ∧ Below w.heap.size w w' ∧ RdI w' w'.heap.size Aa na ca la ∧ RdT w' w'.heap.size Af nf cf C ∧ SFact m l la C er := by
  obtain ⟨v1, v2, er, rfl, hb, hc⟩ := h
  rcases hc with ⟨hr, rfl, rfl, rfl⟩ | ⟨hr, ⟨rfl, rfl, T, g, rfl, rT, hT, hTb⟩ | ⟨rfl, rfl, C, A, k, c, rfl, k1, k2, rC, href, hbad⟩⟩
  · exact ⟨none, 0, 0, [], none, 0, 0, [], 1, rfl, hb, Rd.nil, Rd.nil, Or.inl ⟨hr, rfl, rfl, rfl⟩⟩
  · exact ⟨_, _, _, _, none, 0, 0, [], 0, rfl, hb, rT, Rd.nil, Or.inr ⟨hr, Or.inl ⟨rfl, rfl, T, rfl, hT, hTb⟩⟩⟩
  · obtain ⟨hm, _⟩ := rightL_iff hr
    have hlc := rC.len
    have hmm : ((m.toNat : Nat) : Int) = m := by omega
    rw [hmm] at href
    exact ⟨none, 0, 0, [], A, k, c, C, 22, rfl, hb, Rd.nil, rC, Or.inr ⟨hr, Or.inr ⟨rfl, rfl, by omega, by omega, href, hbad⟩⟩⟩
def RSFact (m : Int) (l : List Lg) (lb : List Int) (er : Int) : Prop :=
  (rightL m l = false ∧ lb = [] ∧ er = 1) ∨ (rightL m l = true ∧ ((er = 22 ∧ lb = [] ∧ ∀ F, Feas (stepsF m.toNat l) F → False) ∨ (er = 0 ∧ ∃ D : Nat → Nat → Int, lb = ofF m.toNat (D 0) ∧ Fw m.toNat (stepsF m.toNat l) m.toNat D ∧ ∀ x, x < m.toNat → D x x ≤ 0)))
theorem rsolve_form {w w' : World} {m : Int} {l : List Lg} {e : Ending} (h : RSolvePost w m l e w') : ∃ (Aa : Option Addr) (na ca : Nat) (la : List Int) (er : Int),
    e = .returned (.tuple #[.slice Aa na ca, .int .i64 er]) ∧ Below w.heap.size w w' ∧ RdI w' w'.heap.size Aa na ca la ∧ RSFact m l la er := by
  obtain ⟨v, er, rfl, hb, hc⟩ := h
  rcases hc with ⟨hr, rfl, rfl⟩ | ⟨hr, ⟨rfl, rfl, hno⟩ | ⟨rfl, A, D, rfl, rD, hfw, hd⟩⟩
  · exact ⟨none, 0, 0, [], 1, rfl, hb, Rd.nil, Or.inl ⟨hr, rfl, rfl⟩⟩
  · exact ⟨none, 0, 0, [], 22, rfl, hb, Rd.nil, Or.inr ⟨hr, Or.inl ⟨rfl, rfl, hno⟩⟩⟩
  · exact ⟨A, _, _, _, 0, rfl, hb, rD, Or.inr ⟨hr, Or.inr ⟨rfl, D, rfl, hfw, hd⟩⟩⟩
def LFact (m : Int) (l : List Lg) (en : Int) (lc : List Int) (er : Int) : Prop :=
  ((rightL m l = false ∨ en < 0 ∨ 1048576 < en) ∧ lc = [] ∧ er = 1) ∨ (rightL m l = true ∧ (0 ≤ en ∧ en ≤ 1048576) ∧
    ((er = 22 ∧ lc = [] ∧ ∃ B v, BadAt m.toNat (stepsF m.toNat l) B v) ∨ (er = 20 ∧ lc = [] ∧ ∃ T, Least m.toNat (stepsF m.toNat l) T ∧ ∃ i, i < m.toNat ∧ en < T i) ∨
     (er = 0 ∧ ∃ L T : Nat → Int, lc = ofF m.toNat L ∧ Greatest m.toNat (stepsF m.toNat l) en L ∧ Least m.toNat (stepsF m.toNat l) T ∧ ∀ i, i < m.toNat → T i ≤ en ∧ T i ≤ L i)))
theorem latest_form {w w' : World} {m : Int} {l : List Lg} {en : Int} {e : Ending} (h : LatPost w m l en e w') : ∃ (Aa : Option Addr) (na ca : Nat) (la : List Int) (er : Int),
    e = .returned (.tuple #[.slice Aa na ca, .int .i64 er]) ∧ Below w.heap.size w w' ∧ RdI w' w'.heap.size Aa na ca la ∧ LFact m l en la er := by
  obtain ⟨v, er, rfl, hb, hc⟩ := h
  rcases hc with ⟨hr, rfl, rfl⟩ | ⟨hr, hen, ⟨rfl, rfl, hbad⟩ | ⟨rfl, rfl, hT⟩ | ⟨rfl, L, T, A, c, rfl, rL, hG, hT, hle⟩⟩
  · exact ⟨none, 0, 0, [], 1, rfl, hb, Rd.nil, Or.inl ⟨hr, rfl, rfl⟩⟩
  · exact ⟨none, 0, 0, [], 22, rfl, hb, Rd.nil, Or.inr ⟨hr, hen, Or.inl ⟨rfl, rfl, hbad⟩⟩⟩
  · exact ⟨none, 0, 0, [], 20, rfl, hb, Rd.nil, Or.inr ⟨hr, hen, Or.inr (Or.inl ⟨rfl, rfl, hT⟩)⟩⟩
  · exact ⟨A, _, _, _, 0, rfl, hb, rL, Or.inr ⟨hr, hen, Or.inr (Or.inr ⟨rfl, L, T, rfl, hG, hT, hle⟩)⟩⟩
def RLFact (m : Int) (l : List Lg) (en : Int) (lc : List Int) (er : Int) : Prop :=
  ((rightL m l && decide (0 ≤ en ∧ en ≤ 1048576)) = false ∧ lc = [] ∧ er = 1) ∨ (rightL m l = true ∧ (0 ≤ en ∧ en ≤ 1048576) ∧ ((er = 22 ∧ lc = [] ∧ ∀ F, Feas (stepsF m.toNat l) F → False) ∨
    (∃ D : Nat → Nat → Int, Fw m.toNat (stepsF m.toNat l) m.toNat D ∧ (∀ x, x < m.toNat → D x x ≤ 0) ∧ ((er = 20 ∧ lc = [] ∧ ∃ i, i < m.toNat ∧ en < D 0 i) ∨
      (er = 0 ∧ (∀ i, i < m.toNat → D 0 i ≤ en) ∧ ∃ R : Nat → Int, lc = ofF m.toNat R ∧ ∀ i, i < m.toNat → LatR m.toNat D en i (R i))))))
theorem rlatest_form {w w' : World} {m : Int} {l : List Lg} {en : Int} {e : Ending} (h : RLatPost w m l en e w') : ∃ (Aa : Option Addr) (na ca : Nat) (la : List Int) (er : Int),
    e = .returned (.tuple #[.slice Aa na ca, .int .i64 er]) ∧ Below w.heap.size w w' ∧ RdI w' w'.heap.size Aa na ca la ∧ RLFact m l en la er := by
  obtain ⟨v, er, rfl, hb, hc⟩ := h
  rcases hc with ⟨hr, rfl, rfl⟩ | ⟨hr, hen, ⟨rfl, rfl, hno⟩ | ⟨D, hfw, hd, ⟨rfl, rfl, hi⟩ | ⟨rfl, hle, A, c, R, rfl, rR, hR⟩⟩⟩
  · exact ⟨none, 0, 0, [], 1, rfl, hb, Rd.nil, Or.inl ⟨hr, rfl, rfl⟩⟩
  · exact ⟨none, 0, 0, [], 22, rfl, hb, Rd.nil, Or.inr ⟨hr, hen, Or.inl ⟨rfl, rfl, hno⟩⟩⟩
  · exact ⟨none, 0, 0, [], 20, rfl, hb, Rd.nil, Or.inr ⟨hr, hen, Or.inr ⟨D, hfw, hd, Or.inl ⟨rfl, rfl, hi⟩⟩⟩⟩
  · exact ⟨A, _, _, _, 0, rfl, hb, rR, Or.inr ⟨hr, hen, Or.inr ⟨D, hfw, hd, Or.inr ⟨rfl, hle, R, rfl, hR⟩⟩⟩⟩
theorem least_far {n : Nat} {l : List Lg} {T : Nat → Int} (hn : n ≤ 14) (hl : l.length ≤ 40) (hb : ∀ v, v < n → T v ≤ (((n + 1) * (stepsF n l).length : Nat) : Int) * 1048576) : ∀ v, v < n → T v ≤ 100000000000 := fun v hv => by
  have h2 := hb v hv
  have h3 := steps_len (n := n) (l := l)
  have h4 : (n + 1) * (stepsF n l).length ≤ 15 * 93 := Nat.mul_le_mul (by omega) (by omega)
  omega
theorem same_solve {m : Int} {l : List Lg} {la lb : List Int} {C : List St} {er er' : Int} (hs : SFact m l la C er) (hs' : RSFact m l lb er') (hm : rightL m l = true → m ≤ 14) (hl : l.length ≤ 40) :
    la = lb ∧ er = er' ∧ ((er = 22 ∧ 1 ≤ C.length ∧ C.length ≤ 200 ∧ refF m l C = true) ∨ ((er = 0 ∨ er = 1) ∧ C = [])) := by
  rcases hs with ⟨hr, rfl, rfl, rfl⟩ | ⟨hr, hs⟩
  · rcases hs' with ⟨_, rfl, rfl⟩ | ⟨hr', _⟩
    · exact ⟨rfl, rfl, Or.inr ⟨Or.inr rfl, rfl⟩⟩
    · rw [hr] at hr'; cases hr'
  have hm14 := hm hr
  obtain ⟨hmr, _⟩ := rightL_iff hr
  obtain ⟨m, rfl⟩ := Int.eq_ofNat_of_zero_le (show 0 ≤ m by omega)
  rcases hs' with ⟨hr', _⟩ | ⟨_, hs'⟩
  · rw [hr] at hr'; cases hr'
  rw [Int.toNat_natCast] at hs hs'
  rcases hs with ⟨rfl, rfl, T, rfl, hT, hTb⟩ | ⟨rfl, rfl, c1, c2, href, B, v, hbad⟩
  · rcases hs' with ⟨_, _, hno⟩ | ⟨rfl, D, rfl, hfw, hd⟩
    · exact (hno T hT.1).elim
    · exact ⟨ofF_congr fun i hi => (fw_least hr hfw hd hT (least_far (by omega) hl hTb) i hi).symm, rfl, Or.inr ⟨Or.inl rfl, rfl⟩⟩
  · rcases hs' with ⟨rfl, rfl, hno⟩ | ⟨rfl, D, rfl, hfw, hd⟩
    · exact ⟨rfl, rfl, Or.inl ⟨rfl, c1, c2, href⟩⟩
    · obtain ⟨x, hx, hp⟩ := hfw.circle hbad
      have := hd x hx
      omega
theorem same_latest {m : Int} {l : List Lg} {la lc ld : List Int} {C : List St} {er en g h : Int} (hs : SFact m l la C er) (hc : LFact m l en lc g) (hd : RLFact m l en ld h) (hm : rightL m l = true → m ≤ 14) (hl : l.length ≤ 40) : lc = ld ∧ g = h := by
  rcases hc with ⟨hr, rfl, rfl⟩ | ⟨hr, hen, hc⟩
  · rcases hd with ⟨_, rfl, rfl⟩ | ⟨hr', hen', _⟩
    · exact ⟨rfl, rfl⟩
    · rcases hr with hr | hr | hr
      · rw [hr] at hr'; cases hr'
      · omega
      · omega
  rcases hd with ⟨h1, _⟩ | ⟨_, _, hd⟩
  · rw [hr, decide_eq_true hen] at h1; cases h1
  rcases hs with ⟨hr', _⟩ | ⟨_, hs⟩
  · rw [hr] at hr'; cases hr'
  have hm14 := hm hr
  obtain ⟨hmr, _⟩ := rightL_iff hr
  obtain ⟨m, rfl⟩ := Int.eq_ofNat_of_zero_le (show 0 ≤ m by omega)
  rw [Int.toNat_natCast] at hs hc hd
  rcases hs with ⟨-, -, T0, -, hT0, hTb⟩ | ⟨-, -, -, -, -, B, v, hbad⟩
  · have hfar := least_far (by omega) hl hTb
    rcases hd with ⟨-, -, hno⟩ | ⟨D, hfw, hdd, hd⟩
    · exact (hno T0 hT0.1).elim
    have hD := fw_least hr hfw hdd hT0 hfar
    rcases hc with ⟨-, -, B, v, hbad⟩ | ⟨rfl, rfl, T, hT, i, hi, hlt⟩ | ⟨rfl, L, T, rfl, hG, hT, hle⟩
    · exact (bad_feas hbad hT0.1).elim
    · rcases hd with ⟨rfl, rfl, _⟩ | ⟨-, hle, _⟩
      · exact ⟨rfl, rfl⟩
      · have h1 := hle i hi
        rw [hD i hi, least_unique hT0 hT i hi] at h1
        omega
    · rcases hd with ⟨-, -, i, hi, hlt⟩ | ⟨rfl, hle2, R, rfl, hR⟩
      · have h1 := (hle i hi).1
        rw [hD i hi, least_unique hT0 hT i hi] at hlt
        omega
      · exact ⟨ofF_congr fun i hi => great_unique hG (fw_great (by omega) hr hfw hdd hT0 hfar hen.1 hle2 hR) i hi, rfl⟩
  · rcases hd with ⟨rfl, rfl, hno⟩ | ⟨D, hfw, hdd, hd⟩
    · rcases hc with ⟨rfl, rfl, _⟩ | ⟨-, -, T, hT, _⟩ | ⟨-, L, T, -, hG, hT, hle⟩
      · exact ⟨rfl, rfl⟩
      · exact (bad_feas hbad hT.1).elim
      · exact (bad_feas hbad hT.1).elim
    · obtain ⟨x, hx, hp⟩ := hfw.circle hbad
      have := hdd x hx
      omega
set_option maxRecDepth 100000 in
set_option maxHeartbeats 1000000 in
theorem lawsteps_any (A : Option Addr) (n cap : Nat) (C : List St) (w : World) (hc : RdT w w.heap.size A n cap C) (hn : n ≤ 5000) :
  Calls Try.prog 15 #[.slice A n cap] w (OwnPost 3 tEnc 34 w C) := by
  obtain ⟨i0, hi0, hz0, hz1, hz2⟩ := info_parts rstep_info
  have hcaps := hc.caps
  have hlc := hc.len
  go_enter Try.func15, Try.ntmps15
  go_wp2
  go_loopg [3, 4] n (fun gk v i wr => ∃ j : Nat, j ≤ n ∧ gk = n - j ∧ i = .int .i64 j ∧ Own 3 tEnc wr w.heap.size 34 v (C.take j) ∧ Below w.heap.size w wr)
  case atStart => exact ⟨0, Nat.zero_le _, rfl, rfl, by simpa using Own.nil, Below.refl _ _⟩
  case round =>
    obtain ⟨j, hj, rfl, rfl, ho, hb⟩ := hrel
    by_cases hlt : j < n
    · obtain ⟨b, off, x, y, z, rfl, hbB, hx, c0, c1, c2⟩ := (hc.up (flat_lasts _) hb).atT hlt
      have hcb : b < w.heap.size := by
        obtain ⟨b', o', _, _, _, h', hl', _⟩ := hc.atT hlt
        injection h' with h'; injection h' with h1 h2; omega
      have hji : (j : Int) < (n : Int) := by omega
      have hj0 : (0 : Int) ≤ (j : Int) := by omega
      have hmore : C.take j ++ [(x, y, z)] = C.take (j + 1) := by rw [List.take_add_one, hx]; rfl
      have hlen : (C.take j).length = j := by rw [List.length_take]; omega
      obtain ⟨Cj, hCj⟩ : ∃ q, C.take j = q := ⟨_, rfl⟩
      rw [hCj] at ho hmore hlen
      have Hmore := Lib.hid hmore
      have hsz := hb.size
      clear hx hmore hCj
      go_wp2
      go_region_held3 (fun w' => w'.cell? ⟨b, off + j * 3, none⟩ = some (.int .i64 x) ∧ w'.cell? ⟨b, off + j * 3 + 1, none⟩ = some (.int .i64 y) ∧ w'.cell? ⟨b, off + j * 3 + 2, none⟩ = some (.int .i64 z))
        (first | exact ⟨c0, c1, c2⟩ | exact ⟨(World.cell?_alloc_lt _ _ _ hbB).trans c0, (World.cell?_alloc_lt _ _ _ hbB).trans c1, (World.cell?_alloc_lt _ _ _ hbB).trans c2⟩ | exact ⟨d0, d1, d2⟩ | go_keep)
        (first
          | (refine step_app1 tSized (by rfl) _ _ 24 (by rfl) w.heap.size 34 i0 _ 24 Try.underlying24 hi0 hz0 hz1 hz2 rfl _ Cj (by rfl) ho.drew (x, y, z) _ rfl wr.heap.size rfl (by rfl) (by rw [hlen]; omega) (by omega) hsz ?_
             intro v5 w5 ho5 hk5 hn5 hB5
             have hb5 := hB5 _ _ (Nat.le_refl _) hb.drew
             have d0 := ((hb5.cell (p := ⟨b, off + j * 3, none⟩) hcb).trans (hb.cell hcb).symm).trans c0
             have d1 := ((hb5.cell (p := ⟨b, off + j * 3 + 1, none⟩) hcb).trans (hb.cell hcb).symm).trans c1
             have d2 := ((hb5.cell (p := ⟨b, off + j * 3 + 2, none⟩) hcb).trans (hb.cell hcb).symm).trans c2
             rw [Hmore.out] at ho5))
      go_wp2
      go_roundg (n - (j + 1))
      case rel => exact ⟨j + 1, by omega, rfl, by go_num, ho5, hb5⟩
      case measure => omega
    · have e : j = n := by omega
      subst e
      have ht : C.take j = C := List.take_of_length_le (by omega)
      rw [ht] at ho
      clear ht
      go_wp2
      go_ret
      exact ⟨_, rfl, ho, hb⟩
end Go.Proofs.Ythmnkmomgaamlaa
