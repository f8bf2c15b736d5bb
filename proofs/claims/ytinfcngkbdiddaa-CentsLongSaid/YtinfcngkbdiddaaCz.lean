
/- Walk over small of the law of layer 27. Conditions stand in each theorem. -/
import Derived.Test.YtinfcngkbdiddaaCy
import Derived.Test.YtinfcngkbdiddaaCp
import Derived.Test.YtinfcngkbdiddaaCh
import Derived.Test.YtinfcngkbdiddaaCu
namespace Go.Proofs.Ytinfcngkbdiddaa
open Go.RowKit
set_option linter.unusedVariables false
set_option linter.unusedSimpArgs false

theorem wz3 (w : World) : Calls Try.prog 21 #[.int .i64 3] w fun e w' => ∃ A cap, e = .returned (.slice A 3 cap) ∧ RdF w' w'.heap.size A 3 cap fZ ∧ Below w.heap.size w w' := wzeros_any 3 w (by decide)
theorem rints_eq (A A2 : Option Addr) (n cap n2 cap2 : Nat) (a : List Int) (w : World) (ha : RdI w w.heap.size A n cap a) (hb : RdI w w.heap.size A2 n2 cap2 a) :
    Calls Try.prog 11 #[.slice A n cap, .slice A2 n2 cap2] w fun e w' => e = .returned (.bool true) ∧ Below w.heap.size w w' := by
  have h := rints_any A A2 n cap n2 cap2 a a w ha hb
  rw [decide_eq_true rfl] at h
  exact h
theorem rsame_eq (A A2 : Option Addr) (n cap n2 cap2 : Nat) (a : List Fv) (w : World) (ha : RdF w w.heap.size A n cap a) (hb : RdF w w.heap.size A2 n2 cap2 a) :
    Calls Try.prog 12 #[.slice A n cap, .slice A2 n2 cap2] w fun e w' => e = .returned (.bool true) ∧ Below w.heap.size w w' := by
  have h := rsame_any A A2 n cap n2 cap2 a a w ha hb
  rw [decide_eq_true rfl] at h
  exact h
theorem mright_is {c : Bool} (A : Option Addr) (n cap : Nat) (l : List Fv) (w : World) (hl : RdF w w.heap.size A n cap l) (h : rightM l = c) : Calls Try.prog 13 #[.slice A n cap] w fun e w' => e = .returned (.bool c) ∧ Below w.heap.size w w' := h ▸ mright_any A n cap l w hl
set_option maxRecDepth 100000 in
set_option maxHeartbeats 4000000 in
theorem wsmall_any (w : World) : Calls Try.prog 7 #[] w fun e w' => e = .returned (.bool true) ∧ Below w.heap.size w w' := by
  have K := St.start w
  go_enter Try.func7, Try.ntmps7
  go_wp2_with fail
  refine (wof_any 10 3 _ (by decide) (by decide) (by decide)).mono ?_
  rintro e W' ⟨s1, A1, n1, c1, l1, t1, B1, m1, d1, k1, rfl, ⟨hra, hrb⟩, hs1, ⟨hfa, hfb⟩, hb⟩
  replace K := K.retF hb hra hrb hfa hfb
  clear hra hrb hfa hfb hb
  go_wp2_with fail
  refine (wof_any 10 3 _ (by decide) (by decide) (by decide)).mono ?_
  rintro e W' ⟨s2, A2, n2, c2, l2, t2, B2, m2, d2, k2, rfl, ⟨hra, hrb⟩, hs2, ⟨hfa, hfb⟩, hb⟩
  replace K := K.retF hb hra hrb hfa hfb
  clear hra hrb hfa hfb hb
  go_wp2_with fail
  refine (wof_any 10 3 _ (by decide) (by decide) (by decide)).mono ?_
  rintro e W' ⟨s3, A3, n3, c3, l3, t3, B3, m3, d3, k3, rfl, ⟨hra, hrb⟩, hs3, ⟨hfa, hfb⟩, hb⟩
  replace K := K.retF hb hra hrb hfa hfb
  clear hra hrb hfa hfb hb
  go_wp2_with fail
  have hlit := litF [(⟨s1, A1, n1, c1, l1, t1, B1, m1, d1, k1⟩ : Rw), (⟨s2, A2, n2, c2, l2, t2, B2, m2, d2, k2⟩ : Rw), (⟨s3, A3, n3, c3, l3, t3, B3, m3, d3, k3⟩ : Rw)] (by
    intro x hx
    simp only [List.mem_cons, List.not_mem_nil, or_false] at hx
    rcases hx with rfl | rfl | rfl <;> exact ⟨K.at (by repeat (first | with_reducible exact List.mem_cons_self | with_reducible apply List.mem_cons_of_mem)), K.at (by repeat (first | with_reducible exact List.mem_cons_self | with_reducible apply List.mem_cons_of_mem))⟩) 35 #[.int .i64 s1, .slice A1 n1 c1, .int .i64 t1, .slice B1 m1 d1, .int .i64 s2, .slice A2 n2 c2, .int .i64 t2, .slice B2 m2 d2, .int .i64 s3, .slice A3 n3 c3, .int .i64 t3, .slice B3 m3 d3] rfl 3 _ rfl rfl (by decide)
  have elit : ([(⟨s1, A1, n1, c1, l1, t1, B1, m1, d1, k1⟩ : Rw), (⟨s2, A2, n2, c2, l2, t2, B2, m2, d2, k2⟩ : Rw), (⟨s3, A3, n3, c3, l3, t3, B3, m3, d3, k3⟩ : Rw)] : List Rw).map Rw.fv = fL := by
    show [(⟨s1, l1, t1, k1⟩ : Fv), ⟨s2, l2, t2, k2⟩, ⟨s3, l3, t3, k3⟩] = _
    rw [hs1.fv, hs2.fv, hs3.fv]
    rfl
  rw [elit] at hlit
  replace K := (K.keep ((Below.refl _ _).alloc (Nat.le_refl _) _)).addF hlit
  clear hlit elit hs1 hs2 hs3
  refine (wz3 _).mono ?_
  rintro e W' ⟨A10, c10, rfl, ha, hb⟩
  replace K := (K.keep hb).addF ha
  clear ha hb
  go_wp2_with fail
  refine ((csplit_any 10 _ _ _ _ _ _ fL fZ _ ?qa ?qb (by decide) (by decide)).mono fun e w' h => h.known sE1 sP1 sO1).mono ?_
  case qa => exact K.getF (by repeat (first | with_reducible exact List.mem_cons_self | with_reducible apply List.mem_cons_of_mem))
  case qb => exact K.getF (by repeat (first | with_reducible exact List.mem_cons_self | with_reducible apply List.mem_cons_of_mem))
  rintro e W' ⟨A11, n11, c11, B11, m11, d11, rfl, hg, ha, hb⟩
  replace K := ((K.keep hb).addI hg).addF ha
  clear hg ha hb
  go_wp2_with fail
  refine ((csplit_any 10 _ _ _ _ _ _ fL fM1 _ ?qa ?qb (by decide) (by decide)).mono fun e w' h => h.known sE2 sP2 sO2).mono ?_
  case qa => exact K.getF (by repeat (first | with_reducible exact List.mem_cons_self | with_reducible apply List.mem_cons_of_mem))
  case qb => exact K.getF (by repeat (first | with_reducible exact List.mem_cons_self | with_reducible apply List.mem_cons_of_mem))
  rintro e W' ⟨A12, n12, c12, B12, m12, d12, rfl, hg, ha, hb⟩
  replace K := ((K.keep hb).addI hg).addF ha
  clear hg ha hb
  go_wp2_with fail
  refine ((csplit_any 10 _ _ _ _ _ _ fL fM2 _ ?qa ?qb (by decide) (by decide)).mono fun e w' h => h.known sE3 sP3 sO3).mono ?_
  case qa => exact K.getF (by repeat (first | with_reducible exact List.mem_cons_self | with_reducible apply List.mem_cons_of_mem))
  case qb => exact K.getF (by repeat (first | with_reducible exact List.mem_cons_self | with_reducible apply List.mem_cons_of_mem))
  rintro e W' ⟨A13, n13, c13, B13, m13, d13, rfl, hg, ha, hb⟩
  replace K := ((K.keep hb).addI hg).addF ha
  clear hg ha hb
  go_wp2_with fail
  refine (wz3 _).mono ?_
  rintro e W' ⟨A14, c14, rfl, ha, hb⟩
  replace K := (K.keep hb).addF ha
  clear ha hb
  go_wp2_with fail
  refine ((csplit_any 11 _ _ _ _ _ _ fL fZ _ ?qa ?qb (by decide) (by decide)).mono fun e w' h => h.refused sE4 (by decide)).mono ?_
  case qa => exact K.getF (by repeat (first | with_reducible exact List.mem_cons_self | with_reducible apply List.mem_cons_of_mem))
  case qb => exact K.getF (by repeat (first | with_reducible exact List.mem_cons_self | with_reducible apply List.mem_cons_of_mem))
  rintro e W' ⟨A15, c15, B15, d15, rfl, hg, ha, hb⟩
  replace K := K.keep hb
  clear hg ha hb
  go_wp2_with fail
  replace K := (K.keep ((Below.refl _ _).alloc (Nat.le_refl _) _)).addI (Rd.litG iSized 3 [4, 3, 3] #[.int .i64 4, .int .i64 3, .int .i64 3] 3 _ rfl rfl rfl (by decide))
  refine (rints_eq _ _ _ _ _ _ [4, 3, 3] _ ?qa ?qb).mono ?_
  case qa => exact K.rd (by repeat (first | with_reducible exact List.mem_cons_self | with_reducible apply List.mem_cons_of_mem))
  case qb => exact K.rd (by repeat (first | with_reducible exact List.mem_cons_self | with_reducible apply List.mem_cons_of_mem))
  rintro e W' ⟨rfl, hb⟩
  replace K := K.keep hb
  clear hb
  go_wp2_with fail
  replace K := (K.keep ((Below.refl _ _).alloc (Nat.le_refl _) _)).addI (Rd.litG iSized 3 [3, 4, 3] #[.int .i64 3, .int .i64 4, .int .i64 3] 3 _ rfl rfl rfl (by decide))
  refine (rints_eq _ _ _ _ _ _ [3, 4, 3] _ ?qa ?qb).mono ?_
  case qa => exact K.rd (by repeat (first | with_reducible exact List.mem_cons_self | with_reducible apply List.mem_cons_of_mem))
  case qb => exact K.rd (by repeat (first | with_reducible exact List.mem_cons_self | with_reducible apply List.mem_cons_of_mem))
  rintro e W' ⟨rfl, hb⟩
  replace K := K.keep hb
  clear hb
  go_wp2_with fail
  replace K := (K.keep ((Below.refl _ _).alloc (Nat.le_refl _) _)).addI (Rd.litG iSized 3 [3, 3, 4] #[.int .i64 3, .int .i64 3, .int .i64 4] 3 _ rfl rfl rfl (by decide))
  refine (rints_eq _ _ _ _ _ _ [3, 3, 4] _ ?qa ?qb).mono ?_
  case qa => exact K.rd (by repeat (first | with_reducible exact List.mem_cons_self | with_reducible apply List.mem_cons_of_mem))
  case qb => exact K.rd (by repeat (first | with_reducible exact List.mem_cons_self | with_reducible apply List.mem_cons_of_mem))
  rintro e W' ⟨rfl, hb⟩
  replace K := K.keep hb
  clear hb
  go_wp2_with fail
  refine (wof_any (-2) 3 _ (by decide) (by decide) (by decide)).mono ?_
  rintro e W' ⟨s21, A21, n21, c21, l21, t21, B21, m21, d21, k21, rfl, ⟨hra, hrb⟩, hs21, ⟨hfa, hfb⟩, hb⟩
  replace K := K.retF hb hra hrb hfa hfb
  clear hra hrb hfa hfb hb
  go_wp2_with fail
  refine (wof_any 1 3 _ (by decide) (by decide) (by decide)).mono ?_
  rintro e W' ⟨s22, A22, n22, c22, l22, t22, B22, m22, d22, k22, rfl, ⟨hra, hrb⟩, hs22, ⟨hfa, hfb⟩, hb⟩
  replace K := K.retF hb hra hrb hfa hfb
  clear hra hrb hfa hfb hb
  go_wp2_with fail
  refine (wof_any 1 3 _ (by decide) (by decide) (by decide)).mono ?_
  rintro e W' ⟨s23, A23, n23, c23, l23, t23, B23, m23, d23, k23, rfl, ⟨hra, hrb⟩, hs23, ⟨hfa, hfb⟩, hb⟩
  replace K := K.retF hb hra hrb hfa hfb
  clear hra hrb hfa hfb hb
  go_wp2_with fail
  have hlit := litF [(⟨s21, A21, n21, c21, l21, t21, B21, m21, d21, k21⟩ : Rw), (⟨s22, A22, n22, c22, l22, t22, B22, m22, d22, k22⟩ : Rw), (⟨s23, A23, n23, c23, l23, t23, B23, m23, d23, k23⟩ : Rw)] (by
    intro x hx
    simp only [List.mem_cons, List.not_mem_nil, or_false] at hx
    rcases hx with rfl | rfl | rfl <;> exact ⟨K.at (by repeat (first | with_reducible exact List.mem_cons_self | with_reducible apply List.mem_cons_of_mem)), K.at (by repeat (first | with_reducible exact List.mem_cons_self | with_reducible apply List.mem_cons_of_mem))⟩) 35 #[.int .i64 s21, .slice A21 n21 c21, .int .i64 t21, .slice B21 m21 d21, .int .i64 s22, .slice A22 n22 c22, .int .i64 t22, .slice B22 m22 d22, .int .i64 s23, .slice A23 n23 c23, .int .i64 t23, .slice B23 m23 d23] rfl 3 _ rfl rfl (by decide)
  have elit : ([(⟨s21, A21, n21, c21, l21, t21, B21, m21, d21, k21⟩ : Rw), (⟨s22, A22, n22, c22, l22, t22, B22, m22, d22, k22⟩ : Rw), (⟨s23, A23, n23, c23, l23, t23, B23, m23, d23, k23⟩ : Rw)] : List Rw).map Rw.fv = fM1 := by
    show [(⟨s21, l21, t21, k21⟩ : Fv), ⟨s22, l22, t22, k22⟩, ⟨s23, l23, t23, k23⟩] = _
    rw [hs21.fv, hs22.fv, hs23.fv]
    rfl
  rw [elit] at hlit
  replace K := (K.keep ((Below.refl _ _).alloc (Nat.le_refl _) _)).addF hlit
  clear hlit elit hs21 hs22 hs23
  refine (rsame_eq _ _ _ _ _ _ fM1 _ ?qa ?qb).mono ?_
  case qa => exact K.getF (by repeat (first | with_reducible exact List.mem_cons_self | with_reducible apply List.mem_cons_of_mem))
  case qb => exact K.getF (by repeat (first | with_reducible exact List.mem_cons_self | with_reducible apply List.mem_cons_of_mem))
  rintro e W' ⟨rfl, hb⟩
  replace K := K.keep hb
  clear hb
  go_wp2_with fail
  refine (wof_any (-1) 3 _ (by decide) (by decide) (by decide)).mono ?_
  rintro e W' ⟨s31, A31, n31, c31, l31, t31, B31, m31, d31, k31, rfl, ⟨hra, hrb⟩, hs31, ⟨hfa, hfb⟩, hb⟩
  replace K := K.retF hb hra hrb hfa hfb
  clear hra hrb hfa hfb hb
  go_wp2_with fail
  refine (wof_any (-1) 3 _ (by decide) (by decide) (by decide)).mono ?_
  rintro e W' ⟨s32, A32, n32, c32, l32, t32, B32, m32, d32, k32, rfl, ⟨hra, hrb⟩, hs32, ⟨hfa, hfb⟩, hb⟩
  replace K := K.retF hb hra hrb hfa hfb
  clear hra hrb hfa hfb hb
  go_wp2_with fail
  refine (wof_any 2 3 _ (by decide) (by decide) (by decide)).mono ?_
  rintro e W' ⟨s33, A33, n33, c33, l33, t33, B33, m33, d33, k33, rfl, ⟨hra, hrb⟩, hs33, ⟨hfa, hfb⟩, hb⟩
  replace K := K.retF hb hra hrb hfa hfb
  clear hra hrb hfa hfb hb
  go_wp2_with fail
  have hlit := litF [(⟨s31, A31, n31, c31, l31, t31, B31, m31, d31, k31⟩ : Rw), (⟨s32, A32, n32, c32, l32, t32, B32, m32, d32, k32⟩ : Rw), (⟨s33, A33, n33, c33, l33, t33, B33, m33, d33, k33⟩ : Rw)] (by
    intro x hx
    simp only [List.mem_cons, List.not_mem_nil, or_false] at hx
    rcases hx with rfl | rfl | rfl <;> exact ⟨K.at (by repeat (first | with_reducible exact List.mem_cons_self | with_reducible apply List.mem_cons_of_mem)), K.at (by repeat (first | with_reducible exact List.mem_cons_self | with_reducible apply List.mem_cons_of_mem))⟩) 35 #[.int .i64 s31, .slice A31 n31 c31, .int .i64 t31, .slice B31 m31 d31, .int .i64 s32, .slice A32 n32 c32, .int .i64 t32, .slice B32 m32 d32, .int .i64 s33, .slice A33 n33 c33, .int .i64 t33, .slice B33 m33 d33] rfl 3 _ rfl rfl (by decide)
  have elit : ([(⟨s31, A31, n31, c31, l31, t31, B31, m31, d31, k31⟩ : Rw), (⟨s32, A32, n32, c32, l32, t32, B32, m32, d32, k32⟩ : Rw), (⟨s33, A33, n33, c33, l33, t33, B33, m33, d33, k33⟩ : Rw)] : List Rw).map Rw.fv = fM2 := by
    show [(⟨s31, l31, t31, k31⟩ : Fv), ⟨s32, l32, t32, k32⟩, ⟨s33, l33, t33, k33⟩] = _
    rw [hs31.fv, hs32.fv, hs33.fv]
    rfl
  rw [elit] at hlit
  replace K := (K.keep ((Below.refl _ _).alloc (Nat.le_refl _) _)).addF hlit
  clear hlit elit hs31 hs32 hs33
  refine (rsame_eq _ _ _ _ _ _ fM2 _ ?qa ?qb).mono ?_
  case qa => exact K.getF (by repeat (first | with_reducible exact List.mem_cons_self | with_reducible apply List.mem_cons_of_mem))
  case qb => exact K.getF (by repeat (first | with_reducible exact List.mem_cons_self | with_reducible apply List.mem_cons_of_mem))
  rintro e W' ⟨rfl, hb⟩
  replace K := K.keep hb
  clear hb
  go_wp2_with fail
  refine (wz3 _).mono ?_
  rintro e W' ⟨A40, c40, rfl, ha, hb⟩
  replace K := (K.keep hb).addF ha
  clear ha hb
  go_wp2_with fail
  refine (rsame_eq _ _ _ _ _ _ fZ _ ?qa ?qb).mono ?_
  case qa => exact K.getF (by repeat (first | with_reducible exact List.mem_cons_self | with_reducible apply List.mem_cons_of_mem))
  case qb => exact K.getF (by repeat (first | with_reducible exact List.mem_cons_self | with_reducible apply List.mem_cons_of_mem))
  rintro e W' ⟨rfl, hb⟩
  replace K := K.keep hb
  clear hb
  go_wp2_with fail
  refine (mright_is _ _ _ fM1 _ ?qa sR1).mono ?_
  case qa => exact K.getF (by repeat (first | with_reducible exact List.mem_cons_self | with_reducible apply List.mem_cons_of_mem))
  rintro e W' ⟨rfl, hb⟩
  replace K := K.keep hb
  clear hb
  go_wp2_with fail
  refine (mright_is _ _ _ [] _ Rd.nil sR2).mono ?_
  rintro e W' ⟨rfl, hb⟩
  replace K := K.keep hb
  clear hb
  go_wp2_with fail
  refine (wof_any 1 2 _ (by decide) (by decide) (by decide)).mono ?_
  rintro e W' ⟨s51, A51, n51, c51, l51, t51, B51, m51, d51, k51, rfl, ⟨hra, hrb⟩, hs51, ⟨hfa, hfb⟩, hb⟩
  replace K := K.retF hb hra hrb hfa hfb
  clear hra hrb hfa hfb hb
  go_wp2_with fail
  have hlit := litF [(⟨s51, A51, n51, c51, l51, t51, B51, m51, d51, k51⟩ : Rw)] (by
    intro x hx
    simp only [List.mem_cons, List.not_mem_nil, or_false] at hx
    subst hx
    exact ⟨K.at (by repeat (first | with_reducible exact List.mem_cons_self | with_reducible apply List.mem_cons_of_mem)), K.at (by repeat (first | with_reducible exact List.mem_cons_self | with_reducible apply List.mem_cons_of_mem))⟩) 35 #[.int .i64 s51, .slice A51 n51 c51, .int .i64 t51, .slice B51 m51 d51] rfl 1 _ rfl rfl (by decide)
  have elit : ([(⟨s51, A51, n51, c51, l51, t51, B51, m51, d51, k51⟩ : Rw)] : List Rw).map Rw.fv = [fvQ (Rat.divInt 1 2)] := by
    show [(⟨s51, l51, t51, k51⟩ : Fv)] = _
    rw [hs51.fv]
  rw [elit] at hlit
  replace K := (K.keep ((Below.refl _ _).alloc (Nat.le_refl _) _)).addF hlit
  clear hlit elit hs51
  refine (mright_is _ _ _ [fvQ (Rat.divInt 1 2)] _ ?qa sR3).mono ?_
  case qa => exact K.getF (by repeat (first | with_reducible exact List.mem_cons_self | with_reducible apply List.mem_cons_of_mem))
  rintro e W' ⟨rfl, hb⟩
  replace K := K.keep hb
  clear hb
  go_wp2_with fail
  go_ret
  exact ⟨rfl, K.1⟩
end Go.Proofs.Ytinfcngkbdiddaa
