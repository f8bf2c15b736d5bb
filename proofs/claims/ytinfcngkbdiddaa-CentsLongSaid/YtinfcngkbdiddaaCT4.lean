
/- Walk over the statement CentsLong. Conditions stand in each theorem. -/
import Derived.Test.YtinfcngkbdiddaaCz
import Derived.Test.YtinfcngkbdiddaaCS3
import Derived.Test.YtinfcngkbdiddaaOpe
import Derived.Test.YtinfcngkbdiddaaCb
import Derived.BigGuard
namespace Go.Proofs.Ytinfcngkbdiddaa
open Go.RowKit
set_option linter.unusedVariables false
set_option linter.unusedSimpArgs false

/-- between rounds -/
structure LInv (j n : Nat) (u : Nat → Rw) (gf : Nat → Int) (M : List Fv) (D sm : Int) : Prop where
  mem : MemS D n M
  den : 0 < D ∧ D ≤ dB j
  owe : ∀ i, i < n → (u i).fv.ok = true ∧ ((gf i : Int) : Rat) + gq (ratL M) i = (u i).fv.rat
  gbd : ∀ i, i < n → -(j : Int) * 2000000000000000 ≤ gf i ∧ gf i ≤ (j : Int) * 2000000000000000
  sum : smI gf n = sm
  sbd : 0 ≤ sm ∧ sm ≤ (j : Int) * 1000000
/-- within a round -/
structure IInv (k n : Nat) (u0 u : Nat → Rw) (g0 gf G : Nat → Int) (M : List Fv) : Prop where
  ok : ∀ i, i < n → (u i).fv.ok = true
  new : ∀ i, i < n → i < k → ((gf i : Int) : Rat) + gq (ratL M) i = (u i).fv.rat ∧ gf i = g0 i + G i
  old : ∀ i, i < n → k ≤ i → gf i = g0 i ∧ (u i).fv.rat = (u0 i).fv.rat
theorem LInv.start (n : Nat) {u : Nat → Rw} (hu : ∀ j, j < n → (u j).fv = fvQ 0) : LInv 0 n u (fun _ => 0) (zeL n) 1 0 :=
  ⟨MemS.zero n, by decide, fun i hi => by
    rw [hu i hi, zeL_gq, fvQ_rat]
    exact ⟨fvQ_ok (by decide +kernel), by decide +kernel⟩, fun i _ => by simp, by
    have : ∀ k, smI (fun _ => 0) k = 0 := fun k => by
      induction k with
      | zero => rfl
      | succ k ih => rw [smI, ih]; rfl
    exact this n, by simp⟩
theorem LInv.next {j n : Nat} {u0 u : Nat → Rw} {g0 gf G : Nat → Int} {M M' : List Fv} {D d sm T : Int} (h : LInv j n u0 g0 M D sm) (hd : 1 ≤ d ∧ d ≤ 1530) (hm : MemS (D * d) n M') (hT : 0 ≤ T ∧ T ≤ 1000000) (hG : ∀ i, i < n → -1 ≤ G i ∧ G i ≤ 1000000000000002) (hs : smI G n = T) (hi : IInv n n u0 u g0 gf G M') : LInv (j + 1) n u gf M' (D * d) (sm + T) ∧ smI gf n = sm + T := by
  have e : smI gf n = sm + T := by
    have h1 : smI gf n = smI (fun i => g0 i + G i) n := smI_congr fun i hi' => (hi.new i hi' hi').2
    have h2 : ∀ k, smI (fun i => g0 i + G i) k = smI g0 k + smI G k := fun k => by
      induction k with
      | zero => rfl
      | succ k ih => rw [smI, smI, smI, ih]; omega
    rw [h1, h2, h.sum, hs]
  refine ⟨⟨hm, dB_step h.den hd, fun i hi' => ⟨hi.ok i hi', (hi.new i hi' hi').1⟩, fun i hi' => ?_, e, ?_⟩, e⟩
  · have h1 := h.gbd i hi'
    have h2 := hG i hi'
    have h3 := (hi.new i hi' hi').2
    rw [h3]
    push_cast
    omega
  · have h1 := h.sbd
    push_cast
    omega
theorem IInv.start {n : Nat} {u : Nat → Rw} {g G : Nat → Int} {M : List Fv} (h : ∀ i, i < n → (u i).fv.ok = true) : IInv 0 n u u g g G M :=
  ⟨h, fun i _ h => absurd h (by omega), fun i _ _ => ⟨rfl, rfl⟩⟩
theorem IInv.step {k n : Nat} {u0 u : Nat → Rw} {g0 gf G : Nat → Int} {M : List Fv} (h : IInv k n u0 u g0 gf G M) (hk : k < n) {x : Rw} (hx : x.fv.ok = true) (he : (((gf k + G k : Int)) : Rat) + gq (ratL M) k = x.fv.rat) : IInv (k + 1) n u0 (putF u k x) g0 (putF gf k (gf k + G k)) G M := by
  refine ⟨fun i hi => ?_, fun i hi hik => ?_, fun i hi hik => ?_⟩
  · by_cases e : i = k
    · subst e; rw [putF_same]; exact hx
    · rw [putF_other e]; exact h.ok i hi
  · by_cases e : i = k
    · subst e
      rw [putF_same, putF_same]
      exact ⟨he, by rw [(h.old i hi (Nat.le_refl _)).1]⟩
    · rw [putF_other e, putF_other e]
      exact h.new i hi (by omega)
  · rw [putF_other (by omega), putF_other (by omega)]
    exact h.old i hi (by omega)
theorem smI_put {gf : Nat → Int} {k : Nat} {v : Int} : smI (putF gf k v) (k + 1) = smI gf k + v := by
  rw [smI, putF_same, smI_congr (g := gf) (fun i hi => putF_other (by omega))]
theorem St.setI0 {w W : World} {L : List Blk} {D : List Hl} {g j n : Nat} {f : Nat → Int} {v : Int} {t : TypeId} (h : St w ((g, intA n f, t) :: L) D W) (hj : j < n) : St w ((g, intA n (putF f j v), t) :: L) D (W.setCell ⟨g, j, none⟩ (.int .i64 v)) := by
  have h1 := h.setJ (j := j) (v := .int .i64 v)
  rw [intA_set hj] at h1
  exact h1
theorem wz_fr (n : Nat) (w : World) (hn : n ≤ 1000) : Calls Try.prog 21 #[.int .i64 n] w fun e w' => ∃ A cap, e = .returned (.slice A n cap) ∧ FrK w w' A n cap (zeL n) ∧ Below w.heap.size w w' := wzeros_fr n w hn
theorem RdF.elem {W : World} {A : Option Addr} {n cap : Nat} {l : List Fv} (h : RdF W W.heap.size A n cap l) {k : Nat} (hk : k < n) :
    ∃ b off A1 n1 c1 A2 n2 c2 x, A = some ⟨b, off, none⟩ ∧ l[k]? = some x ∧ (∀ W' : World, Below W.heap.size W W' → W'.cell? ⟨b, off + k * 4, none⟩ = some (.int .i64 x.s) ∧ W'.cell? ⟨b, off + k * 4 + 1, none⟩ = some (.slice A1 n1 c1) ∧ W'.cell? ⟨b, off + k * 4 + 2, none⟩ = some (.int .i64 x.t) ∧ W'.cell? ⟨b, off + k * 4 + 3, none⟩ = some (.slice A2 n2 c2)) ∧ (∀ W' : World, Below W.heap.size W W' → RdI W' W'.heap.size A1 n1 c1 x.l) ∧ (∀ W' : World, Below W.heap.size W W' → RdI W' W'.heap.size A2 n2 c2 x.m) := by
  obtain ⟨b, off, A1, n1, c1, A2, n2, c2, x, h1, h2, h3, ⟨z0, z1, z2, z3⟩, r1, r2⟩ := h.atF hk
  exact ⟨b, off, A1, n1, c1, A2, n2, c2, x, h1, h3, fun W' hb => ⟨(hb.cell h2).trans z0, (hb.cell h2).trans z1, (hb.cell h2).trans z2, (hb.cell h2).trans z3⟩, fun W' hb => r1.up (flat_lasts _) hb, fun W' hb => r2.up (flat_lasts _) hb⟩
theorem cl_z {g3 Gk V : Int} {x q mM ma : Rat} (h1 : ((Gk : Int) : Rat) + ma = q + mM) (hx : x = ((g3 : Int) : Rat) + mM) (hV : V = g3 + Gk) : x + q = ((V : Int) : Rat) + ma := by
  subst hV
  rw [Rat.intCast_add, hx]
  grind
theorem cl_cmp {V : Int} {Z m : Rat} (hZ : Z = ((V : Int) : Rat) + m) (h : -1 < m ∧ m < 1) : cmpQ ((V - 1 : Int) : Rat) Z = -1 ∧ cmpQ Z ((V + 1 : Int) : Rat) = -1 := by
  have e : ((1 : Int) : Rat) = 1 := rfl
  unfold cmpQ
  rw [Rat.intCast_sub, Rat.intCast_add, hZ, e]
  exact ⟨if_pos (by grind), if_pos (by grind)⟩
set_option maxRecDepth 100000 in
set_option maxHeartbeats 8000000 in
theorem centsLong_walk (x : Int) (A : Option Addr) (nL cap : Nat) (L : List (Int × List Int)) (w : World) (hx : 0 ≤ x ∧ x ≤ 255) (hl : Rd 2 rnE w w.heap.size A nL cap L) (hL : ∀ y ∈ L, (-9223372036854775808 ≤ y.1 ∧ y.1 ≤ 9223372036854775807) ∧ ∀ z ∈ y.2, 0 ≤ z ∧ z ≤ 255) :
    Calls Try.prog 5 #[.int .u8 x, .slice A nL cap] w fun e w' => e = .returned (.bool true) ∧ Below w.heap.size w w' := by
  have K := St.start w
  have r := True.intro
  have hcapL := hl.caps
  have HL := Lib.hid hl
  have HLd := Lib.hid hL
  clear hl hL
  obtain ⟨n, hn⟩ : ∃ n : Nat, (n : Int) = 1 + x % 6 := ⟨(1 + x % 6).toNat, by omega⟩
  have hn1 : 1 ≤ n := by omega
  have hn6 : n ≤ 6 := by omega
  have hx1 : x.tmod 6 = x % 6 := Int.tmod_eq_emod_of_nonneg hx.1
  have hx2 : IntKind.u8.wrap (x % 6) = x % 6 := by rw [IntKind.wrap_u8]; omega
  have hx3 : IntKind.i64.wrap (x % 6) = x % 6 := IntWalk.i64_in _ (by omega)
  have hx4 : IntKind.i64.wrap (1 + x % 6) = (n : Int) := by rw [← hn]; exact IntWalk.i64_in _ (by omega)
  have hx5 : IntKind.u8.wrap (x.tmod 6) = x % 6 := by rw [hx1, hx2]
  have Hn := Lib.hid hn
  clear hn
  go_enter Try.func5, Try.ntmps5
  go_wp2_with fail
  refine (wsmall_any _).mono ?_
  rintro e W' ⟨rfl, hb⟩
  replace K := K.keep hb
  clear hb
  by_cases h8 : (8 : Int) < (nL : Int)
  · have hd : decide ((8 : Int) < (nL : Int)) = true := decide_eq_true h8
    go_wp2_with fail
    go_ret
    exact ⟨rfl, K.1⟩
  have hd : decide ((8 : Int) < (nL : Int)) = false := decide_eq_false h8
  have hL8 : nL ≤ 8 := by omega
  clear h8
  go_wp2_with fail
  refine (wz_fr n _ (by omega)).mono ?_
  rintro e W' ⟨A7, c7, rfl, hfr, hb⟩
  obtain ⟨S7, K7⟩ : ∃ S7, St w [] (⟨rfQ A7 n c7 (zeL n), S7⟩ :: []) W' := ⟨_, (K.addK hb hfr)⟩
  replace K := K7
  clear hb hfr K7
  go_wp2_with (at_make; refine K.make rfl _ _ _ _ rfl _ _ _ Try.underlying25 int_made n rfl rfl _ (made_ints n) (by omega) (by omega) ?_; clear K; intro W b0 K)
  refine (wzeros_own n _ (by omega)).mono ?_
  rintro e W' ⟨v, u, X, rfl, ho, KJ, hu, hfr⟩
  obtain ⟨g2, cap2, J2, rfl, rfl, hc1, hc2⟩ := ho.blk (by omega)
  replace K := (K.join KJ (fun x hx b hS => by rcases List.mem_singleton.1 hx with rfl; exact hfr b hS)).perm (L' := [(b0, intA n (fun _ => 0), 3), (g2, rwA n u J2, 35)]) (List.Perm.swap _ _ _)
  replace K : St w [(b0, intA n (fun _ => 0), 3), (g2, rwA n u J2, 35)] [⟨rwP n u, rwS n u⟩, ⟨rfQ A7 n c7 (zeL n), S7⟩] W' := K
  have HI0 := Lib.hid (LInv.start n hu)
  clear KJ ho hu hfr hx hx1 hx2 hx3 hx4 hx5 hd
  go_wp2_with fail
  go_loopg [7, 10, 11] nL (fun gk s7 s10 s11 wr => ∃ (j : Nat) (u : Nat → Rw) (gf : Nat → Int) (M : List Fv) (D sm : Int) (A7 : Option Addr) (c7 : Nat) (S7 : Nat → Prop), j ≤ nL ∧ gk = nL - j ∧ s11 = .int .i64 j ∧ s10 = .int .i64 sm ∧ s7 = .slice A7 n c7 ∧ Hid (LInv j n u gf M D sm) ∧ St w [(b0, intA n gf, 3), (g2, rwA n u J2, 35)] [⟨rwP n u, rwS n u⟩, ⟨rfQ A7 n c7 M, S7⟩] wr)
  case atStart => exact ⟨0, u, fun _ => 0, zeL n, 1, 0, A7, c7, S7, Nat.zero_le _, rfl, rfl, rfl, rfl, HI0, K⟩
  case round =>
    clear K HI0
    obtain ⟨j, u, gf, M, D, sm, A7, c7, S7, hj, rfl, rfl, rfl, rfl, HI, K⟩ := hrel
    by_cases hlt : j < nL
    · obtain ⟨rb, roff, Ap, np, cp, y, hA, hrb, hy, ⟨z0, z1⟩, hP⟩ := HL.out.atRn hlt
      subst hA
      have e0 := (K.1.cell (p := ⟨rb, roff + j * 2, none⟩) hrb).trans z0
      have e1 := (K.1.cell (p := ⟨rb, roff + j * 2 + 1, none⟩) hrb).trans z1
      have Ez := Lib.hid (fun W (h : Below w.heap.size w W) => (h.cell (p := ⟨rb, roff + j * 2, none⟩) hrb).trans z0)
      have hyd := HLd.out y (List.mem_of_getElem? hy)
      have hji : (j : Int) < (nL : Int) := by omega
      have hj0 : (0 : Int) ≤ (j : Int) := by omega
      have HP := Lib.hid hP
      have Hyd := Lib.hid hyd.2
      obtain ⟨T, hT⟩ : ∃ T, T = y.1 := ⟨_, rfl⟩
      rw [← hT] at e0 Ez
      clear z0 z1 hrb hy hP hyd hT
      by_cases hT0 : T < 0
      · have hTd : decide (T < 0) = true := decide_eq_true hT0
        go_wp2_with fail
        go_ret
        exact ⟨rfl, K.1⟩
      have hTd : decide (T < 0) = false := decide_eq_false hT0
      by_cases hT6 : 1000000 < T
      · have hTe : decide (1000000 < T) = true := decide_eq_true hT6
        go_wp2_with fail
        go_ret
        exact ⟨rfl, K.1⟩
      have hTe : decide (1000000 < T) = false := decide_eq_false hT6
      have hTr : 0 ≤ T ∧ T ≤ 1000000 := by omega
      have HSh := Lib.hid (fun W (h : Below w.heap.size w W) => rshares_any T Ap np cp y.2 n W hTr (HP.out.up (flat_lasts _) h) Hyd.out hn1 hn6)
      have hdr := shD_rng (n := n) Hyd.out hn1 hn6
      have hMr : rightM M = true := HI.out.mem.right hn1 hn6 HI.out.den.1 (Int.lt_of_le_of_lt HI.out.den.2 (dB_pw (by omega)))
      have HSp := Lib.hid (shL_split hTr Hyd.out hn1 hn6 hMr HI.out.mem.len)
      clear hT0 hT6 hMr
      go_wp2_with fail
      refine (HSh.out _ K.1).mono ?_
      rintro e W' ⟨A12, c12, rfl, hfr, hb⟩
      obtain ⟨S12, K7⟩ : ∃ S12, St w [(b0, intA n gf, 3), (g2, rwA n u J2, 35)] [⟨rfQ A12 n c12 (shL T y.2 n), S12⟩, ⟨rwP n u, rwS n u⟩, ⟨rfQ A7 n c7 M, S7⟩] W' := ⟨_, (K.addK hb hfr)⟩
      replace K := K7
      clear hb hfr K7 e0 e1 HSh hTd hTe
      have e0 := Ez.out _ K.1
      go_wp2_with fail
      refine (csplit_own T _ _ n _ _ _ (shL T y.2 n) M _ ?qa ?qb (by omega) (by omega)).mono ?_
      case qa => exact K.getQ (by repeat (first | with_reducible exact List.mem_cons_self | with_reducible apply List.mem_cons_of_mem))
      case qb => exact K.getQ (by repeat (first | with_reducible exact List.mem_cons_self | with_reducible apply List.mem_cons_of_mem))
      clear e0
      rcases HSp.out with hE | hE
      case inr =>
        rintro e W' ⟨A13, n13, c13, gl, A14, n14, c14, a, rfl, -, -, -, hb, -⟩
        rw [hE]
        replace K := K.keep hb
        clear hb hE
        go_wp2_with fail
        go_ret
        exact ⟨rfl, K.1⟩
      rintro e W' ⟨A13, n13, c13, gl, A14, n14, c14, a, rfl, ⟨hg, ha⟩, -, h1, hb, hfr⟩
      rw [hE]
      obtain ⟨hao, hPt⟩ := h1 hE
      have hC := checkC_zero (splitE_zero hE).1
      have hsl : (shL T y.2 n).length = n := ofF_len
      rw [hsl] at hC
      have hSpc := SpC.of hsl hao hPt
      have hlg := hg.len
      have hla := ha.len
      obtain rfl : n = n13 := by rw [← hlg, hSpc.lenG]
      obtain rfl : n = n14 := by rw [← hla, hSpc.lenA]
      obtain ⟨hMS, G, hG1, hG2, hG3, hG4⟩ := HI.out.mem.step hTr Hyd.out hn1 hn6 hC hSpc
      obtain ⟨S14, K7⟩ : ∃ S14, St w [(b0, intA n gf, 3), (g2, rwA n u J2, 35)] [⟨rfQ A14 n c14 a, S14⟩, ⟨rfQ A12 n c12 (shL T y.2 n), S12⟩, ⟨rwP n u, rwS n u⟩, ⟨rfQ A7 n c7 M, S7⟩] W' := ⟨_, K.addK hb (fun W h1 h2 => (hfr W h1 h2).2)⟩
      obtain ⟨S13, K8⟩ : ∃ S13, St w [(b0, intA n gf, 3), (g2, rwA n u J2, 35)] [⟨riQ A13 n c13 gl, S13⟩, ⟨rfQ A12 n c12 (shL T y.2 n), S12⟩, ⟨rwP n u, rwS n u⟩, ⟨rfQ A7 n c7 M, S7⟩] W' := ⟨_, K.addKI hb (fun W h1 h2 => (hfr W h1 h2).1)⟩
      have K9 : St w [(b0, intA n gf, 3), (g2, rwA n u J2, 35)] [⟨rwP n u, rwS n u⟩, ⟨riQ A13 n c13 gl, S13⟩, ⟨rfQ A14 n c14 a, S14⟩, ⟨rfQ A12 n c12 (shL T y.2 n), S12⟩] W' :=
        ⟨K7.1, K7.2.1, K7.2.2.1, fun x hx => by
          simp only [List.mem_cons, List.not_mem_nil, or_false] at hx
          rcases hx with rfl | rfl | rfl | rfl
          · exact K7.2.2.2 _ (by repeat (first | with_reducible exact List.mem_cons_self | with_reducible apply List.mem_cons_of_mem))
          · exact K8.2.2.2 _ (by repeat (first | with_reducible exact List.mem_cons_self | with_reducible apply List.mem_cons_of_mem))
          · exact K7.2.2.2 _ (by repeat (first | with_reducible exact List.mem_cons_self | with_reducible apply List.mem_cons_of_mem))
          · exact K7.2.2.2 _ (by repeat (first | with_reducible exact List.mem_cons_self | with_reducible apply List.mem_cons_of_mem))⟩
      replace K := K9
      have hcg := hg.caps
      have hca := ha.caps
      have HMS := Lib.hid hMS
      have HG1 := Lib.hid hG1
      have HG2 := Lib.hid hG2
      have HG3 := Lib.hid hG3
      have HG4 := Lib.hid hG4
      clear K7 K8 K9 hfr hb h1 hE hao hPt hC hsl hSpc hlg hla hMS hG1 hG2 hG3 hG4 hg ha HSp
      have HII := Lib.hid (IInv.start (G := G) (M := a) (g := gf) (fun i hi => (HI.out.owe i hi).1))
      have e0 := Ez.out _ K.1
      have hsb := HI.out.sbd
      have hws : IntKind.i64.wrap (sm + T) = sm + T := IntWalk.i64_in _ (by omega)
      have hnn : ((n : Int) != (n : Int)) = false := by simp
      have hr0 : smI gf 0 = 0 := rfl
      go_wp2_with fail
      go_loopg [16, 17] n (fun gk s16 s17 wr => ∃ (k : Nat) (u2 : Nat → Rw) (g3 : Nat → Int), k ≤ n ∧ gk = n - k ∧ s17 = .int .i64 k ∧ s16 = .int .i64 (smI g3 k) ∧ Hid (IInv k n u u2 gf g3 G a) ∧ St w [(b0, intA n g3, 3), (g2, rwA n u2 J2, 35)] [⟨rwP n u2, rwS n u2⟩, ⟨riQ A13 n c13 gl, S13⟩, ⟨rfQ A14 n c14 a, S14⟩, ⟨rfQ A12 n c12 (shL T y.2 n), S12⟩] wr)
      case atStart => exact ⟨0, u, gf, Nat.zero_le _, rfl, rfl, rfl, HII, K⟩
      case round =>
        clear K HII e0
        obtain ⟨k, u2, g3, hk, rfl, rfl, rfl, HII, K⟩ := hrel
        by_cases hltk : k < n
        · have hlt := hltk
          have hki : (k : Int) < (n : Int) := by omega
          have hk0 : (0 : Int) ≤ (k : Int) := by omega
          obtain ⟨c1', o1', gv, hA13, hc1', hgv, d0⟩ := (K.getI (A := A13) (n := n) (cap := c13) (l := gl) (by repeat (first | with_reducible exact List.mem_cons_self | with_reducible apply List.mem_cons_of_mem))).atI hlt
          subst hA13
          have egv : gv = G k := by have := HG1.out k hlt; rw [hgv] at this; exact Option.some.inj this
          have g0 := K.cellN (g := b0) (f := g3) hlt (by repeat (first | with_reducible exact List.mem_cons_self | with_reducible apply List.mem_cons_of_mem))
          have z0 := (K.blk (b := b0) (by repeat (first | with_reducible exact List.mem_cons_self | with_reducible apply List.mem_cons_of_mem))).thaw (j := k)
          have hgk := HG2.out k hlt
          have hold := (HII.out.old k hlt (Nat.le_refl _))
          have hgb := HI.out.gbd k hlt
          obtain ⟨V, hV⟩ : ∃ V, V = g3 k + G k := ⟨_, rfl⟩
          have hVb : -100000000000000000 ≤ V ∧ V ≤ 100000000000000000 := by
            rw [hV, hold.1]
            have : (j : Int) ≤ 8 := by omega
            omega
          have hw1 : IntKind.i64.wrap (g3 k + G k) = V := by rw [← hV]; exact IntWalk.i64_in _ (by omega)
          have hS3 : -1000000000000000000 ≤ smI g3 k ∧ smI g3 k ≤ 1000000000000000000 := by
            have h1 := smI_bd (f := g3) (lo := -100000000000000000) (hi := 100000000000000000) (n := k) (fun i hi => by
              have a1 := HI.out.gbd i (by omega)
              have a2 := HG2.out i (by omega)
              have a3 := (HII.out.new i (by omega) hi).2
              have : (j : Int) ≤ 8 := by omega
              omega)
            omega
          have hw2 : IntKind.i64.wrap (smI g3 k + V) = smI g3 k + V := IntWalk.i64_in _ (by omega)
          have hw3 : IntKind.i64.wrap (V - 1) = V - 1 := IntWalk.i64_in _ (by omega)
          have hw4 : IntKind.i64.wrap (V + 1) = V + 1 := IntWalk.i64_in _ (by omega)
          have HVe := Lib.hid hV
          rw [egv] at d0
          generalize hGk : G k = Gk at *
          generalize hg3 : g3 k = g3k at *
          have HGk := Lib.hid hGk
          have Hg3 := Lib.hid hg3
          have Hold := Lib.hid hold
          clear hgv egv hc1' hV hGk hg3 hold hgb
          obtain ⟨RG, hRG⟩ : ∃ RG : World → Prop, ∀ W, RG W ↔ St w [(b0, intA n (putF g3 k V), 3), (g2, rwA n u2 J2, 35)] [⟨rwP n u2, rwS n u2⟩, ⟨riQ (some ⟨c1', o1', none⟩) n c13 gl, S13⟩, ⟨rfQ A14 n c14 a, S14⟩, ⟨rfQ A12 n c12 (shL T y.2 n), S12⟩] W := ⟨_, fun _ => Iff.rfl⟩
          have K2 := K.setI0 (v := V) hlt
          have HK2 := Lib.hid ((hRG _).2 K2)
          have HK3 := Lib.hid ((hRG _).2 K2.drew)
          clear K2 K
          go_upto_region 26 with fail
          go_cut [17] from 104 to 115 (fun s wx => s = .int .i64 k ∧ RG wx)
          case first =>
            go_region
            all_goals
              go_wp2_with fail
              go_meet
              exact ⟨rfl, by first | exact HK2.out | exact HK3.out⟩
          obtain ⟨rfl, hkg⟩ := hcut
          have K := (hRG _).1 hkg
          clear hkg hRG HK2 HK3 d0 g0 z0
          have g0 := K.cellN (g := b0) (f := putF g3 k V) hlt (by repeat (first | with_reducible exact List.mem_cons_self | with_reducible apply List.mem_cons_of_mem))
          rw [putF_same] at g0
          obtain ⟨eb1, off1, A1, n1, c1, B1, m1, d1, sx, hA12, hsx, Ex, Qa, Qb⟩ := RdF.elem (K.getQ (A := A12) (n := n) (cap := c12) (l := shL T y.2 n) (by repeat (first | with_reducible exact List.mem_cons_self | with_reducible apply List.mem_cons_of_mem))) hlt
          subst hA12
          have Ex1 := Lib.hid Ex
          have HQa := Lib.hid Qa
          have HQb := Lib.hid Qb
          have e1 := Ex _ (Below.refl _ _)
          have hcap1 := (Qa _ (Below.refl _ _)).caps
          have hcap2 := (Qb _ (Below.refl _ _)).caps
          clear Ex Qa Qb
          have hsx2 : sx = fvQ (shR T y.2 n k) := by
            have : (shL T y.2 n)[k]? = some (fvQ (shR T y.2 n k)) := ofF_get hlt
            rw [hsx] at this
            exact Option.some.inj this
          obtain ⟨q, hq⟩ : ∃ q, q = shR T y.2 n k := ⟨_, rfl⟩
          have hqf := (shR_facts hTr Hyd.out hn1 hn6 k).2.2
          rw [← hq] at hsx2 hqf
          have hstd : StdF sx.s sx.l sx.t sx.m q := by rw [hsx2]; exact fvQ_std q
          obtain ⟨x, hx⟩ : ∃ x, x = u2 k := ⟨_, rfl⟩
          have Hx := Lib.hid hx
          have hxo := HII.out.ok k hlt
          have hxr : x.fv.rat = ((g3k : Int) : Rat) + gq (ratL M) k := by
            rw [hx, Hold.out.2, ← (HI.out.owe k hlt).2, Hold.out.1]
          rw [← hx] at hxo
          obtain ⟨hsy, fy⟩ := fv_std hxo
          have HqA := Lib.hid (fun W (K : rwP n u2 W) => (show RdI W W.heap.size x.A x.n x.c x.l ∧ RdI W W.heap.size x.B x.m x.d x.k from by rw [Hx.out]; exact K k hlt))
          have hcap3 := (HqA.out _ (K.at (by repeat (first | with_reducible exact List.mem_cons_self | with_reducible apply List.mem_cons_of_mem)))).1.caps
          have hcap4 := (HqA.out _ (K.at (by repeat (first | with_reducible exact List.mem_cons_self | with_reducible apply List.mem_cons_of_mem)))).2.caps
          have c := (K.cellR (g := g2) (i := k) (v := u2) hlt (by repeat (first | with_reducible exact List.mem_cons_self | with_reducible apply List.mem_cons_of_mem))).1
          rw [← Hx.out] at c
          have HAd := Lib.hid (fun W a b c d => qAdd x.fv.rat q x.s x.t sx.s sx.t x.A x.B A1 B1 x.n x.c x.m x.d n1 c1 m1 d1 x.l x.k sx.l sx.m W a b c d hsy hstd fy hqf)
          clear hx hsx hsx2 hqf hstd hsy fy hxo
          have r := True.intro
          cases hadd : addK x.fv.rat q
          · rw [hadd] at HAd
            clear hadd
            go_upto_region 28 with (first | ((first | (apply K.alloc; rfl; rfl; (first | with_reducible exact big_zero | with_reducible exact frac_zero)) | (apply K.box; rfl; rfl; rfl)); clear K r; (first | ((fail_if_success revert b0); intro W b0 K) | ((fail_if_success revert b1); intro W b1 K) | ((fail_if_success revert b2); intro W b2 K) | ((fail_if_success revert b3); intro W b3 K) | ((fail_if_success revert b4); intro W b4 K) | ((fail_if_success revert b5); intro W b5 K) | ((fail_if_success revert b6); intro W b6 K) | ((fail_if_success revert b7); intro W b7 K)); have r := K.rawS) | (apply K.storeA; rfl; rfl; rfl; rfl; rfl; (repeat (first | with_reducible exact Upd.head _ | with_reducible apply Upd.tail)); (first | with_reducible exact big_size | with_reducible exact frac_size); rfl; rfl; rfl; clear K r; intro W K; have r := K.rawS))
            obtain ⟨RR, HR0⟩ := K.hideZ 35
            go_cut [19, 18] from 123 to 133 (fun e p wx => ∃ g s8 A8 n8 c8 l8 t8 B8 m8 d8 k8, e = .int .i64 6 ∧ p = .pointer (some ⟨g, 0, none⟩) ∧ OptF s8 l8 t8 k8 (none) ∧ RR g #[.int .i64 s8, .slice A8 n8 c8, .int .i64 t8, .slice B8 m8 d8] A8 n8 c8 l8 B8 m8 d8 k8 wx)
            case first =>
              obtain ⟨gz1, hgz1, KA⟩ := K.newZ #[.int .i64 0, .slice none 0 0, .int .i64 0, .slice none 0 0] 35
              have rA := KA.raw
              have Kd := K.drew
              have KAd := KA.drew
              have eA1 := Ex1.out _ ((Below.refl _ _).alloc (Nat.le_refl _) (.cells #[.int .i64 0, .slice none 0 0, .int .i64 0, .slice none 0 0] 35))
              have cA := (KA.cellR (g := g2) (i := k) hlt (by repeat (first | with_reducible exact List.mem_cons_self | with_reducible apply List.mem_cons_of_mem))).1
              rw [← Hx.out] at cA
              have HQ1 := HQa.out
              have HQ2 := HQb.out
              have HQ := HQ1
              simp only [Raw, RawC, RawZ, and_true, true_and, Nat.zero_add, Nat.reduceAdd] at rA
              first
                | go_region_with (first
                  | (go_at_call 15; (with_reducible refine (HAd.out _ ?qa ?qb ?qc ?qd).mono ?_); (case qa => (first | exact (HqA.out _ (Kd.at (by repeat (first | with_reducible exact List.mem_cons_self | with_reducible apply List.mem_cons_of_mem)))).1 | exact (HqA.out _ (KAd.at (by repeat (first | with_reducible exact List.mem_cons_self | with_reducible apply List.mem_cons_of_mem)))).1)); (case qb => (first | exact (HqA.out _ (Kd.at (by repeat (first | with_reducible exact List.mem_cons_self | with_reducible apply List.mem_cons_of_mem)))).2 | exact (HqA.out _ (KAd.at (by repeat (first | with_reducible exact List.mem_cons_self | with_reducible apply List.mem_cons_of_mem)))).2)); (case qc => (first | exact HQ _ (Below.refl _ _).drew | exact HQ _ ((Below.refl _ _).alloc (Nat.le_refl _) _).drew)); (case qd => (have HQ := HQ2; (first | exact HQ _ (Below.refl _ _).drew | exact HQ _ ((Below.refl _ _).alloc (Nat.le_refl _) _).drew))); rintro e W ⟨s31, A31, n31, c31, l31, t31, B31, m31, d31, k31, rfl, ⟨hra, hrb⟩, hs31, ⟨hfa, hfb⟩, hb⟩; (first | with_reducible replace K := Kd.retF hb hra hrb hfa hfb | with_reducible replace K := KAd.retF hb hra hrb hfa hfb); clear r rA KA e1 eA1 c cA hra hrb hfa hfb hb; have r := K.raw; have z := K.rawz; simp only [Raw, RawC, RawZ, and_true, true_and, Nat.zero_add, Nat.reduceAdd] at r z))
                | fail
              all_goals
                go_wp2_with fail
                go_meet
                first
                  | with_reducible exact ⟨_, s31, A31, n31, c31, l31, t31, B31, m31, d31, k31, rfl, rfl, hs31, (HR0 _ _ _ _ _ _ _ _ _ _ _).2 (K.new #[.int .i64 s31, .slice A31 n31 c31, .int .i64 t31, .slice B31 m31 d31] 35)⟩
                  | with_reducible exact ⟨_, s31, A31, n31, c31, l31, t31, B31, m31, d31, k31, rfl, rfl, hs31, (HR0 _ _ _ _ _ _ _ _ _ _ _).2 (K.set4Z (u0 := .int .i64 s31) (u1 := .slice A31 n31 c31) (u2 := .int .i64 t31) (u3 := .slice B31 m31 d31) (by repeat (first | with_reducible exact Upd.head _ | with_reducible apply Upd.tail)))⟩
                  | exact ⟨_, s31, A31, n31, c31, l31, t31, B31, m31, d31, k31, rfl, rfl, hs31, (HR0 _ _ _ _ _ _ _ _ _ _ _).2 (K.new #[.int .i64 s31, .slice A31 n31 c31, .int .i64 t31, .slice B31 m31 d31] 35)⟩
                  | exact ⟨_, s31, A31, n31, c31, l31, t31, B31, m31, d31, k31, rfl, rfl, hs31, (HR0 _ _ _ _ _ _ _ _ _ _ _).2 (K.set4Z (u0 := .int .i64 s31) (u1 := .slice A31 n31 c31) (u2 := .int .i64 t31) (u3 := .slice B31 m31 d31) (by repeat (first | with_reducible exact Upd.head _ | with_reducible apply Upd.tail)))⟩
            obtain ⟨gb9, s9, A9, n9, c9, l9, t9, B9, m9, d9, k9, rfl, rfl, hs9, hk9⟩ := hcut
            replace K := (HR0 _ _ _ _ _ _ _ _ _ _ _).1 hk9
            clear r hk9 HR0 c e1
            have r := K.rawS
            clear hs9
            go_wp2_with fail
            go_ret
            exact ⟨rfl, K.1⟩
          · rw [hadd] at HAd
            have hff := addK_fits hadd
            have hZ : x.fv.rat + q = ((V : Int) : Rat) + gq (ratL a) k := by
              have h1 := HG3.out k hlt
              rw [← hq, HGk.out] at h1
              exact cl_z h1 hxr HVe.out
            have hMr := HMS.out.rng k hlt
            obtain ⟨Z, hZe⟩ : ∃ Z, Z = x.fv.rat + q := ⟨_, rfl⟩
            rw [← hZe] at HAd hff hZ
            obtain ⟨hc1, hc2⟩ := cl_cmp hZ hMr
            clear hadd hZe hxr hMr
            go_upto_region 28 with (first | ((first | (apply K.alloc; rfl; rfl; (first | with_reducible exact big_zero | with_reducible exact frac_zero)) | (apply K.box; rfl; rfl; rfl)); clear K r; (first | ((fail_if_success revert b0); intro W b0 K) | ((fail_if_success revert b1); intro W b1 K) | ((fail_if_success revert b2); intro W b2 K) | ((fail_if_success revert b3); intro W b3 K) | ((fail_if_success revert b4); intro W b4 K) | ((fail_if_success revert b5); intro W b5 K) | ((fail_if_success revert b6); intro W b6 K) | ((fail_if_success revert b7); intro W b7 K)); have r := K.rawS) | (apply K.storeA; rfl; rfl; rfl; rfl; rfl; (repeat (first | with_reducible exact Upd.head _ | with_reducible apply Upd.tail)); (first | with_reducible exact big_size | with_reducible exact frac_size); rfl; rfl; rfl; clear K r; intro W K; have r := K.rawS))
            obtain ⟨RR, HR0⟩ := K.hideZ 35
            go_cut [19, 18] from 123 to 133 (fun e p wx => ∃ g s8 A8 n8 c8 l8 t8 B8 m8 d8 k8, e = .int .i64 0 ∧ p = .pointer (some ⟨g, 0, none⟩) ∧ OptF s8 l8 t8 k8 (some Z) ∧ RR g #[.int .i64 s8, .slice A8 n8 c8, .int .i64 t8, .slice B8 m8 d8] A8 n8 c8 l8 B8 m8 d8 k8 wx)
            case first =>
              obtain ⟨gz1, hgz1, KA⟩ := K.newZ #[.int .i64 0, .slice none 0 0, .int .i64 0, .slice none 0 0] 35
              have rA := KA.raw
              have Kd := K.drew
              have KAd := KA.drew
              have eA1 := Ex1.out _ ((Below.refl _ _).alloc (Nat.le_refl _) (.cells #[.int .i64 0, .slice none 0 0, .int .i64 0, .slice none 0 0] 35))
              have cA := (KA.cellR (g := g2) (i := k) hlt (by repeat (first | with_reducible exact List.mem_cons_self | with_reducible apply List.mem_cons_of_mem))).1
              rw [← Hx.out] at cA
              have HQ1 := HQa.out
              have HQ2 := HQb.out
              have HQ := HQ1
              simp only [Raw, RawC, RawZ, and_true, true_and, Nat.zero_add, Nat.reduceAdd] at rA
              first
                | go_region_with (first
                  | (go_at_call 15; (with_reducible refine (HAd.out _ ?qa ?qb ?qc ?qd).mono ?_); (case qa => (first | exact (HqA.out _ (Kd.at (by repeat (first | with_reducible exact List.mem_cons_self | with_reducible apply List.mem_cons_of_mem)))).1 | exact (HqA.out _ (KAd.at (by repeat (first | with_reducible exact List.mem_cons_self | with_reducible apply List.mem_cons_of_mem)))).1)); (case qb => (first | exact (HqA.out _ (Kd.at (by repeat (first | with_reducible exact List.mem_cons_self | with_reducible apply List.mem_cons_of_mem)))).2 | exact (HqA.out _ (KAd.at (by repeat (first | with_reducible exact List.mem_cons_self | with_reducible apply List.mem_cons_of_mem)))).2)); (case qc => (first | exact HQ _ (Below.refl _ _).drew | exact HQ _ ((Below.refl _ _).alloc (Nat.le_refl _) _).drew)); (case qd => (have HQ := HQ2; (first | exact HQ _ (Below.refl _ _).drew | exact HQ _ ((Below.refl _ _).alloc (Nat.le_refl _) _).drew))); rintro e W ⟨s31, A31, n31, c31, l31, t31, B31, m31, d31, k31, rfl, ⟨hra, hrb⟩, hs31, ⟨hfa, hfb⟩, hb⟩; (first | with_reducible replace K := Kd.retF hb hra hrb hfa hfb | with_reducible replace K := KAd.retF hb hra hrb hfa hfb); clear r rA KA e1 eA1 c cA hra hrb hfa hfb hb; have r := K.raw; have z := K.rawz; simp only [Raw, RawC, RawZ, and_true, true_and, Nat.zero_add, Nat.reduceAdd] at r z))
                | fail
              all_goals
                go_wp2_with fail
                go_meet
                first
                  | with_reducible exact ⟨_, s31, A31, n31, c31, l31, t31, B31, m31, d31, k31, rfl, rfl, hs31, (HR0 _ _ _ _ _ _ _ _ _ _ _).2 (K.new #[.int .i64 s31, .slice A31 n31 c31, .int .i64 t31, .slice B31 m31 d31] 35)⟩
                  | with_reducible exact ⟨_, s31, A31, n31, c31, l31, t31, B31, m31, d31, k31, rfl, rfl, hs31, (HR0 _ _ _ _ _ _ _ _ _ _ _).2 (K.set4Z (u0 := .int .i64 s31) (u1 := .slice A31 n31 c31) (u2 := .int .i64 t31) (u3 := .slice B31 m31 d31) (by repeat (first | with_reducible exact Upd.head _ | with_reducible apply Upd.tail)))⟩
                  | exact ⟨_, s31, A31, n31, c31, l31, t31, B31, m31, d31, k31, rfl, rfl, hs31, (HR0 _ _ _ _ _ _ _ _ _ _ _).2 (K.new #[.int .i64 s31, .slice A31 n31 c31, .int .i64 t31, .slice B31 m31 d31] 35)⟩
                  | exact ⟨_, s31, A31, n31, c31, l31, t31, B31, m31, d31, k31, rfl, rfl, hs31, (HR0 _ _ _ _ _ _ _ _ _ _ _).2 (K.set4Z (u0 := .int .i64 s31) (u1 := .slice A31 n31 c31) (u2 := .int .i64 t31) (u3 := .slice B31 m31 d31) (by repeat (first | with_reducible exact Upd.head _ | with_reducible apply Upd.tail)))⟩
            obtain ⟨gb9, s9, A9, n9, c9, l9, t9, B9, m9, d9, k9, rfl, rfl, hs9, hk9⟩ := hcut
            replace K := (HR0 _ _ _ _ _ _ _ _ _ _ _).1 hk9
            clear r hk9 HR0 c e1
            have r := K.rawS
            replace hs9 : StdF s9 l9 t9 k9 Z := hs9
            have HI2 := Lib.hid (HII.out.step hlt (x := ⟨s9, A9, n9, c9, l9, t9, B9, m9, d9, k9⟩) (StdF.right hs9 hff) (by rw [Hg3.out, HGk.out, ← HVe.out, ← hZ]; exact (StdF.rat hs9).symm))
            rw [Hg3.out, HGk.out, ← HVe.out] at HI2
            have Hspl := Lib.hid (rwA_spl (J := J2) (v := u2) hlt (⟨s9, A9, n9, c9, l9, t9, B9, m9, d9, k9⟩ : Rw))
            have hf1 : fitsF ((V - 1 : Int) : Rat) = true := fitsF_int (by omega)
            have hf2 : fitsF ((V + 1 : Int) : Rat) = true := fitsF_int (by omega)
            have P1 := Lib.hid (fun s2 t2 A2 B2 n2 c2 m2 d2 l2 k2 W r1 q1 r2 q2 h2 => qCmp ((V - 1 : Int) : Rat) Z s2 t2 s9 t9 A2 B2 A9 B9 n2 c2 m2 d2 n9 c9 m9 d9 l2 k2 l9 k9 W r1 q1 r2 q2 h2 hs9 hf1 hff)
            have P2 := Lib.hid (fun s2 t2 A2 B2 n2 c2 m2 d2 l2 k2 W r1 q1 r2 q2 h2 => qCmp Z ((V + 1 : Int) : Rat) s9 t9 s2 t2 A9 B9 A2 B2 n9 c9 m9 d9 n2 c2 m2 d2 l9 k9 l2 k2 W r1 q1 r2 q2 hs9 h2 hff hf2)
            rw [hc1] at P1
            rw [hc2] at P2
            have HSm := Lib.hid (show smI g3 k + V = smI (putF g3 k V) (k + 1) from smI_put.symm)
            clear hs9 hff hZ hc1 hc2 hf1 hf2 HAd HqA HQa HQb Ex1 hcap1 hcap2 hcap3 hcap4
            have g0 := K.cellN (g := b0) (f := putF g3 k V) hlt (by repeat (first | with_reducible exact List.mem_cons_self | with_reducible apply List.mem_cons_of_mem))
            rw [putF_same] at g0
            go_upto_region 32 with (apply K.storeP; rfl; rfl; rfl; rfl; rfl; (repeat (first | with_reducible apply Upd.head | with_reducible apply Upd.tail)); exact Hspl.out; exact frac_size; rfl; (rw [rwA_size]; show k * 4 + 4 ≤ _; omega); rfl; clear K r; intro W K; have r := K.rawS)
            have K4 := (K.rwPut ⟨s9, A9, n9, c9, l9, t9, B9, m9, d9, k9⟩ k (by repeat (first | with_reducible exact List.mem_cons_self | with_reducible apply List.mem_cons_of_mem)) (by repeat (first | with_reducible exact List.mem_cons_self | with_reducible apply List.mem_cons_of_mem)) (by repeat (first | with_reducible exact List.mem_cons_self | with_reducible apply List.mem_cons_of_mem))).less (D' := [⟨rdP B9 m9 d9 k9, rdS B9 m9⟩, ⟨rdP A9 n9 c9 l9, rdS A9 n9⟩, ⟨rwP n (putF u2 k ⟨s9, A9, n9, c9, l9, t9, B9, m9, d9, k9⟩), rwS n (putF u2 k ⟨s9, A9, n9, c9, l9, t9, B9, m9, d9, k9⟩)⟩, ⟨riQ (some ⟨c1', o1', none⟩) n c13 gl, S13⟩, ⟨rfQ A14 n c14 a, S14⟩, ⟨rfQ (some ⟨eb1, off1, none⟩) n c12 (shL T y.2 n), S12⟩]) (by simp only [List.mem_cons, List.not_mem_nil, or_false, forall_eq_or_imp, forall_eq, true_or, or_true, and_self])
            obtain ⟨KS, X0, XK, XF, XS⟩ := K4.pack3 (fun W => (W.cell? ⟨gb9, 0, none⟩ = some (.int .i64 s9) ∧ W.cell? ⟨gb9, 1, none⟩ = some (.slice A9 n9 c9) ∧ W.cell? ⟨gb9, 2, none⟩ = some (.int .i64 t9) ∧ W.cell? ⟨gb9, 3, none⟩ = some (.slice B9 m9 d9) ∧ W.cell? ⟨b0, k, none⟩ = some (.int .i64 V))) (fun W K => ⟨(K.blk (b := gb9) (by repeat (first | with_reducible exact List.mem_cons_self | with_reducible apply List.mem_cons_of_mem))).cell (j := 0) rfl, (K.blk (b := gb9) (by repeat (first | with_reducible exact List.mem_cons_self | with_reducible apply List.mem_cons_of_mem))).cell (j := 1) rfl, (K.blk (b := gb9) (by repeat (first | with_reducible exact List.mem_cons_self | with_reducible apply List.mem_cons_of_mem))).cell (j := 2) rfl, (K.blk (b := gb9) (by repeat (first | with_reducible exact List.mem_cons_self | with_reducible apply List.mem_cons_of_mem))).cell (j := 3) rfl, by
              have h := K.cellN (g := b0) (f := putF g3 k V) hlt (by repeat (first | with_reducible exact List.mem_cons_self | with_reducible apply List.mem_cons_of_mem))
              rw [putF_same] at h
              exact h⟩)
            have HSx := Lib.hid (fun W (h : KS W) => (show KS W ∧ (W.cell? ⟨gb9, 0, none⟩ = some (.int .i64 s9) ∧ W.cell? ⟨gb9, 1, none⟩ = some (.slice A9 n9 c9) ∧ W.cell? ⟨gb9, 2, none⟩ = some (.int .i64 t9) ∧ W.cell? ⟨gb9, 3, none⟩ = some (.slice B9 m9 d9) ∧ W.cell? ⟨b0, k, none⟩ = some (.int .i64 V)) from ⟨h, XF W h⟩))
            have XD := Lib.hid (fun W (h : KS W) => XK W W.drew h (Below.refl _ _).drew)
            have XSt := Lib.hid (fun W (h : KS W) => (((XS W h).part (L' := [(b0, intA n (putF g3 k V), 3), (g2, rwA n (putF u2 k ⟨s9, A9, n9, c9, l9, t9, B9, m9, d9, k9⟩) J2, 35)]) (by repeat (first | with_reducible exact List.nil_sublist _ | with_reducible apply List.Sublist.cons_cons | with_reducible apply List.Sublist.cons))).less (D' := [⟨rwP n (putF u2 k ⟨s9, A9, n9, c9, l9, t9, B9, m9, d9, k9⟩), rwS n (putF u2 k ⟨s9, A9, n9, c9, l9, t9, B9, m9, d9, k9⟩)⟩, ⟨riQ (some ⟨c1', o1', none⟩) n c13 gl, S13⟩, ⟨rfQ A14 n c14 a, S14⟩, ⟨rfQ (some ⟨eb1, off1, none⟩) n c12 (shL T y.2 n), S12⟩]) (by simp only [List.mem_cons, List.not_mem_nil, or_false, forall_eq_or_imp, forall_eq, true_or, or_true, and_self])))
            have HW1 := Lib.hid (fun W (h : KS W) => (wof_any (V - 1) 1 W (by omega) (by decide) (by decide)).mono fun e W' ⟨s, A, n, cap, l, t, A', n', cap', m, he, hr, hs, hf, hb⟩ => (⟨s, A, n, cap, l, t, A', n', cap', m, he, hr, by rw [divInt_1] at hs; exact hs, XK _ _ h hb⟩ : ∃ s A n cap l t A' n' cap' m, e = Ending.returned (.agg #[.int .i64 s, .slice A n cap, .int .i64 t, .slice A' n' cap']) ∧ (RdI W' W'.heap.size A n cap l ∧ RdI W' W'.heap.size A' n' cap' m) ∧ StdF s l t m ((V - 1 : Int) : Rat) ∧ KS W'))
            have HW2 := Lib.hid (fun W (h : KS W) => (wof_any (V + 1) 1 W (by omega) (by decide) (by decide)).mono fun e W' ⟨s, A, n, cap, l, t, A', n', cap', m, he, hr, hs, hf, hb⟩ => (⟨s, A, n, cap, l, t, A', n', cap', m, he, hr, by rw [divInt_1] at hs; exact hs, XK _ _ h hb⟩ : ∃ s A n cap l t A' n' cap' m, e = Ending.returned (.agg #[.int .i64 s, .slice A n cap, .int .i64 t, .slice A' n' cap']) ∧ (RdI W' W'.heap.size A n cap l ∧ RdI W' W'.heap.size A' n' cap' m) ∧ StdF s l t m ((V + 1 : Int) : Rat) ∧ KS W'))
            have HC1 := Lib.hid (fun s2 t2 A2 B2 n2 c2 m2 d2 l2 k2 W (r2 : RdI W W.heap.size A2 n2 c2 l2) (q2 : RdI W W.heap.size B2 m2 d2 k2) h2 (h : KS W) => (P1.out s2 t2 A2 B2 n2 c2 m2 d2 l2 k2 W r2 q2 ((XS W h).rd (by repeat (first | with_reducible exact List.mem_cons_self | with_reducible apply List.mem_cons_of_mem))) ((XS W h).rd (by repeat (first | with_reducible exact List.mem_cons_self | with_reducible apply List.mem_cons_of_mem))) h2).mono fun e W' ⟨he, hb⟩ => (⟨he, XK _ _ h hb⟩ : e = Ending.returned (.int .i64 (-1)) ∧ KS W'))
            have HC2 := Lib.hid (fun s2 t2 A2 B2 n2 c2 m2 d2 l2 k2 W (r2 : RdI W W.heap.size A2 n2 c2 l2) (q2 : RdI W W.heap.size B2 m2 d2 k2) h2 (h : KS W) => (P2.out s2 t2 A2 B2 n2 c2 m2 d2 l2 k2 W ((XS W h).rd (by repeat (first | with_reducible exact List.mem_cons_self | with_reducible apply List.mem_cons_of_mem))) ((XS W h).rd (by repeat (first | with_reducible exact List.mem_cons_self | with_reducible apply List.mem_cons_of_mem))) r2 q2 h2).mono fun e W' ⟨he, hb⟩ => (⟨he, XK _ _ h hb⟩ : e = Ending.returned (.int .i64 (-1)) ∧ KS W'))
            clear XF XK XS K K4 P1 P2 r g0 Hspl
            go_region_held3 (fun W => KS W ∧ (W.cell? ⟨gb9, 0, none⟩ = some (.int .i64 s9) ∧ W.cell? ⟨gb9, 1, none⟩ = some (.slice A9 n9 c9) ∧ W.cell? ⟨gb9, 2, none⟩ = some (.int .i64 t9) ∧ W.cell? ⟨gb9, 3, none⟩ = some (.slice B9 m9 d9) ∧ W.cell? ⟨b0, k, none⟩ = some (.int .i64 V)))
              ((refine HSx.out _ ?_; first | assumption | exact XD.out _ X0 | exact And.left (by assumption)))
              (first
                | (go_at_call 16; (with_reducible refine (HW1.out _ (And.left (by assumption))).mono ?_); rintro e w5 ⟨s50, A50, n50, c50, l50, t50, B50, m50, d50, k50, rfl, ⟨ra50, rb50⟩, hs50, x50⟩)
                | (go_at_call 16; (with_reducible refine (HW2.out _ (And.left (by assumption))).mono ?_); rintro e w6 ⟨s60, A60, n60, c60, l60, t60, B60, m60, d60, k60, rfl, ⟨ra60, rb60⟩, hs60, x60⟩)
                | (go_at_call 19; (with_reducible refine (HC1.out _ _ _ _ _ _ _ _ _ _ _ (by (first | with_reducible exact ra50 | with_reducible exact ra50.up (flat_lasts _) (Below.refl _ _).drew)) (by (first | with_reducible exact rb50 | with_reducible exact rb50.up (flat_lasts _) (Below.refl _ _).drew)) hs50 (And.left (by assumption))).mono ?_); rintro e w7 ⟨rfl, x70⟩)
                | (go_at_call 19; (with_reducible refine (HC2.out _ _ _ _ _ _ _ _ _ _ _ (by (first | with_reducible exact ra60 | with_reducible exact ra60.up (flat_lasts _) (Below.refl _ _).drew)) (by (first | with_reducible exact rb60 | with_reducible exact rb60.up (flat_lasts _) (Below.refl _ _).drew)) hs60 (And.left (by assumption))).mono ?_); rintro e w8 ⟨rfl, x80⟩))
            all_goals
              have K := XSt.out _ x80
              clear x50 x60 x70 x80 ra50 rb50 ra60 rb60 hs50 hs60
              go_wp2_with fail
              go_roundg (n - (k + 1))
              case rel => exact ⟨k + 1, _, _, hlt, rfl, by go_num, by rw [HSm.out], HI2, K⟩
              case measure => omega
        · have e : n = k := by omega
          subst e
          obtain ⟨hNx, hsm⟩ := HI.out.next hdr HMS.out hTr HG2.out HG4.out HII.out
          have HNx := Lib.hid hNx
          rw [hsm]
          have hss : ((sm + T) != (sm + T)) = false := by simp
          clear hNx hsm
          go_wp2_with fail
          go_roundg (nL - (j + 1))
          case rel => exact ⟨j + 1, u2, g3, a, D * shD y.2 n, sm + T, A14, c14, S14, by omega, rfl, by go_num, rfl, rfl, HNx, K.less (by simp only [List.mem_cons, List.not_mem_nil, or_false, forall_eq_or_imp, forall_eq, true_or, or_true, and_self])⟩
          case measure => omega
    · have e : nL = j := by omega
      subst e
      go_wp2_with fail
      go_ret
      exact ⟨rfl, K.1⟩
end Go.Proofs.Ytinfcngkbdiddaa
