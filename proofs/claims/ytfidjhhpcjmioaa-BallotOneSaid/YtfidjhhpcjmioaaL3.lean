/- Walks over the statements of layer 7: numbers, chosen. Conditions stand in each theorem. -/
import Derived.Test.YtfidjhhpcjmioaaL2
namespace Go.Proofs.Ytfidjhhpcjmioaa
open Go.RowKit
set_option linter.unusedVariables false

/-- bytes -/
def uEnc : Int → List Value := fun x => [.int .u8 x]
abbrev RdU := Rd 1 (flat uEnc)
theorem Rd.atU {w : World} {B : Nat} {A : Option Addr} {n cap : Nat} {l : List Int} (h : RdU w B A n cap l) {k : Nat} (hk : k < n) :
    ∃ b off x, A = some ⟨b, off, none⟩ ∧ b < B ∧ l[k]? = some x ∧ w.cell? ⟨b, off + k, none⟩ = some (.int .u8 x) := by
  obtain ⟨b, off, rfl, hb, hc⟩ := h.2.2.2 (by omega)
  have hl := h.1
  obtain ⟨cs, rfl, hl, hj⟩ := hc k (by omega)
  exact ⟨b, off, l[k], rfl, hb, List.getElem?_eq_getElem (by omega), by simpa [uEnc] using hj 0 _ rfl⟩

theorem numbers_any (s k n : Int) (w : World) (hs : -9223372036854775808 ≤ s ∧ s ≤ 9223372036854775807) (hk : 0 ≤ k ∧ k ≤ 255) (hn : 0 ≤ n ∧ n ≤ 255) :
  Calls Try.prog 20 #[.int .i64 s, .int .u8 k, .int .u8 n] w fun e w' => e = .returned (.tuple #[.int .i64 (s % 2147483647), .int .i64 (1 + k % (1 + n % 20)), .int .i64 (1 + n % 20)]) ∧ Below w.heap.size w w' := by
  obtain ⟨s1, s2⟩ := hs
  obtain ⟨k1, k2⟩ := hk
  obtain ⟨n1, n2⟩ := hn
  go_enter Try.func20, Try.ntmps20
  go_wp2_with fail
  have r1 := Int.emod_nonneg k (show 1 + n % 20 ≠ 0 by omega)
  have r2 := Int.emod_lt_of_pos k (show 0 < 1 + n % 20 by omega)
  have w1 : IntKind.i64.wrap k = k := IntWalk.i64_in _ (by omega)
  have w2 : IntKind.i64.wrap (1 + k % (1 + n % 20)) = 1 + k % (1 + n % 20) := IntWalk.i64_in _ (by omega)
  have w3 : k.tmod (1 + n % 20) = k % (1 + n % 20) := Int.tmod_eq_emod_of_nonneg (by omega)
  go_quiet ((go_at_call 21; exact (mod_any _ _ (by omega) (by omega)).mono fun _ _ ⟨he, hm⟩ => ⟨he, _, hm.symm⟩))
  go_wp2
  go_ret3
  exact ⟨rfl, below_drewN (Below.refl _ _) _⟩

/-- the shares that numbers choose, each once -/
def chosenF (l : List (Int × Int)) (order : List Int) : Nat → List (Int × Int)
  | 0 => []
  | i + 1 => if (fx l (fi order i % l.length).toNat, fy l (fi order i % l.length).toNat) ∈ chosenF l order i then chosenF l order i else chosenF l order i ++ [(fx l (fi order i % l.length).toNat, fy l (fi order i % l.length).toNat)]
theorem chosenF_len (l : List (Int × Int)) (order : List Int) : ∀ i, (chosenF l order i).length ≤ i
  | 0 => by simp [chosenF]
  | i + 1 => by
    have := chosenF_len l order i
    rw [chosenF]; split
    · omega
    · simp; omega

theorem mem_take_step {out : List (Int × Int)} {j : Nat} {ux uy sx sy : Int} (h : out[j]? = some (ux, uy)) : decide ((sx, sy) ∈ out.take (j + 1)) = (decide ((sx, sy) ∈ out.take j) || (ux == sx && uy == sy)) := by
  rw [List.take_add_one, h, Bool.eq_iff_iff]
  simp only [Option.toList, List.mem_append, List.mem_singleton, decide_eq_true_eq, Bool.or_eq_true, Bool.and_eq_true, beq_iff_eq, Prod.mk.injEq]
  constructor
  · rintro (h | ⟨rfl, rfl⟩)
    · exact .inl h
    · exact .inr ⟨rfl, rfl⟩
  · rintro (h | ⟨rfl, rfl⟩)
    · exact .inl h
    · exact .inr ⟨rfl, rfl⟩

theorem chosen_any (A U : Option Addr) (n m cap capu : Nat) (l : List (Int × Int)) (order : List Int) (w : World) (hl : RdP w w.heap.size A n cap l) (ho : RdU w w.heap.size U m capu order) (hu : ∀ x ∈ order, 0 ≤ x ∧ x ≤ 255) (hm : m ≤ 1000000) :
  Calls Try.prog 22 #[.slice A n cap, .slice U m capu] w fun e w' => ∃ v, e = .returned v ∧ Own 2 pEnc w' w.heap.size 39 v (if n = 0 then [] else chosenF l order m) ∧ Below w.heap.size w w' := by
  obtain ⟨hn1, hn2, hn3⟩ := hl.caps
  obtain ⟨hm1, hm2, hm3⟩ := ho.caps
  obtain ⟨i0, hi0, hz0, hz1, hz2⟩ := info_parts share_info
  have Hlen := Lib.hid hl.len
  by_cases hn : n = 0
  · subst hn
    go_enter Try.func22, Try.ntmps22
    go_wp2
    have hd : decide ((0 : Int) < ((0 : Nat) : Int)) = false := rfl
    refine wp_loop_rounds 1 ?_; rw [rounds_succ]
    go_wp2
    all_goals
      go_ret
      exact ⟨_, rfl, Own.nil, Below.refl _ _⟩
  · have hnp : (0 : Int) < (n : Int) := by omega
    rw [if_neg hn]
    go_enter Try.func22, Try.ntmps22
    go_wp2
    go_loopg [5, 6] m (fun gk v i wr => ∃ k : Nat, k ≤ m ∧ gk = m - k ∧ i = .int .i64 k ∧ Own 2 pEnc wr w.heap.size 39 v (chosenF l order k) ∧ Below w.heap.size w wr)
    case atStart => exact ⟨0, Nat.zero_le _, rfl, rfl, Own.nil, Below.refl _ _⟩
    case round =>
      obtain ⟨k, hk, rfl, rfl, hown, hb⟩ := hrel
      by_cases hlt : k < m
      · have hd1 : decide (k < m) = true := by simpa using hlt
        obtain ⟨b, off, x, rfl, hbB, hx, c0⟩ := (ho.below (flat_lasts _) hb (Nat.le_refl _) (Nat.le_refl _)).atU hlt
        obtain ⟨x1, x2⟩ := hu _ (List.mem_of_getElem? hx)
        have Hx := Lib.hid (fi_eq hx); clear hx
        obtain ⟨x, rfl⟩ := Int.eq_ofNat_of_zero_le x1
        have hxn : x % n < n := Nat.mod_lt _ (by omega)
        obtain ⟨b2, off2, sx, sy, rfl, hbB2, hs, d0, d1⟩ := (hl.below (flat_lasts _) hb (Nat.le_refl _) (Nat.le_refl _)).atP hxn
        have Hs : Hid ((fx l (fi order k % l.length).toNat, fy l (fi order k % l.length).toNat) = (sx, sy)) := by
          have e : (fi order k % l.length).toNat = x % n := by rw [Hx.out, Hlen.out]; omega
          show _ = _
          rw [e, fx_eq hs, fy_eq hs]
        have Hst := Lib.hid (show chosenF l order (k + 1) = if (sx, sy) ∈ chosenF l order k then chosenF l order k else chosenF l order k ++ [(sx, sy)] by rw [chosenF, Hs.out])
        clear hs Hx
        have hcl := chosenF_len l order k
        obtain ⟨out, hout⟩ : ∃ out, out = chosenF l order k := ⟨_, rfl⟩
        rw [← hout] at hown hcl Hst
        have Hout := Lib.hid hout; clear hout
        obtain ⟨Av, cv, rfl, rdv⟩ := hown.rd pSized (by omega)
        obtain ⟨N, hN⟩ : ∃ N, N = out.length := ⟨_, rfl⟩
        rw [← hN] at rdv hcl ⊢
        rw [← hN] at hown
        have HN := Lib.hid hN; clear hN
        obtain ⟨wo, rfl⟩ : ∃ wo : World, wo = wr := ⟨_, rfl⟩
        have hd2 : decide (0 < n) = true := by simp; omega
        have hsz := hb.size
        have hbo : b2 < wo.heap.size := by omega
        go_wp2
        clear hd1 hd2
        go_loopg [8, 9] N (fun gk f i wi => ∃ j : Nat, ∃ is : Bool, j ≤ N ∧ gk = N - j ∧ i = .int .i64 j ∧ f = .bool is ∧ (is = decide ((sx, sy) ∈ out.take j)) ∧ Below (wo.heap.size + 1) (wo.alloc (Obj.cells #[Value.int IntKind.i64 sx, Value.int IntKind.i64 sy] 39)) wi)
        case atStart => exact ⟨0, false, Nat.zero_le _, rfl, rfl, rfl, rfl, Below.refl _ _⟩
        case round =>
          obtain ⟨j, is, hj, rfl, rfl, rfl, his, hbi⟩ := hrel
          have His := Lib.hid his; clear his
          have hbw : Below w.heap.size w wr := (hb.alloc hb.size _).trans (hbi.mono (by omega))
          have hbw1 : Below (wo.alloc (Obj.cells #[Value.int IntKind.i64 sx, Value.int IntKind.i64 sy] 39)).heap.size (wo.alloc (Obj.cells #[Value.int IntKind.i64 sx, Value.int IntKind.i64 sy] 39)) wr := by simpa using hbi
          have hownw := (hown.alloc (Obj.cells #[Value.int IntKind.i64 sx, Value.int IntKind.i64 sy] 39)).below hbw1
          have ca : wr.cell? ⟨wo.heap.size, 0, none⟩ = some (.int .i64 sx) := (hbi.cell (by simp)).trans (by simp)
          have cb : wr.cell? ⟨wo.heap.size, 1, none⟩ = some (.int .i64 sy) := (hbi.cell (by simp)).trans (by simp)
          have hszw : wo.heap.size + 1 ≤ wr.heap.size := by have := hbi.size; simpa using this
          clear hbw1
          by_cases hlj : j < N
          · have hji : (j : Int) < (N : Int) := by omega
            have hj0 : (0 : Int) ≤ (j : Int) := by omega
            obtain ⟨bu, ou, ux, uy, rfl, hbu, hux, e0, e1⟩ := (rdv.below (flat_lasts _) ((Below.refl wo.heap.size wo).alloc (Nat.le_refl _) (Obj.cells #[Value.int IntKind.i64 sx, Value.int IntKind.i64 sy] 39) |>.trans (hbi.mono (by omega))) (Nat.le_refl _) (Nat.le_refl _)).atP hlj
            have Hu := Lib.hid hux; clear hux
            have Hstep := Lib.hid (show decide ((sx, sy) ∈ out.take (j + 1)) = (is || (ux == sx && uy == sy)) by
              rw [mem_take_step Hu.out, His.out])
            cases is
            · cases hx : (ux == sx)
              · have HF := Lib.hid (show false = decide ((sx, sy) ∈ out.take (j + 1)) by rw [Hstep.out, hx]; rfl)
                go_wp2_with fail
                go_quiet (fail)
                go_wp2
                go_roundg (N - (j + 1))
                case rel => exact ⟨j + 1, _, by omega, rfl, by go_num, rfl, HF.out, below_drewN hbi _⟩
                case measure => omega
              · cases hy : (uy == sy)
                · have HF := Lib.hid (show false = decide ((sx, sy) ∈ out.take (j + 1)) by rw [Hstep.out, hx, hy]; rfl)
                  go_wp2_with fail
                  go_quiet (fail)
                  go_wp2
                  go_roundg (N - (j + 1))
                  case rel => exact ⟨j + 1, _, by omega, rfl, by go_num, rfl, HF.out, below_drewN hbi _⟩
                  case measure => omega
                · have HF := Lib.hid (show true = decide ((sx, sy) ∈ out.take (j + 1)) by rw [Hstep.out, hx, hy]; rfl)
                  go_wp2_with fail
                  go_quiet (fail)
                  go_wp2
                  go_roundg (N - (j + 1))
                  case rel => exact ⟨j + 1, _, by omega, rfl, by go_num, rfl, HF.out, below_drewN hbi _⟩
                  case measure => omega
            · have HF := Lib.hid (show true = decide ((sx, sy) ∈ out.take (j + 1)) by rw [Hstep.out]; rfl)
              go_wp2_with fail
              go_quiet (fail)
              go_wp2
              go_roundg (N - (j + 1))
              case rel => exact ⟨j + 1, _, by omega, rfl, by go_num, rfl, HF.out, below_drewN hbi _⟩
              case measure => omega
          · have e : j = N := by omega
            subst e
            have His2 := Lib.hid (show is = decide ((sx, sy) ∈ out) by rw [His.out, HN.out, List.take_length])
            cases is
            · have Hnext := Lib.hid (show chosenF l order (k + 1) = out ++ [(sx, sy)] by
                rw [Hst.out, if_neg]; have := His2.out; simpa using this)
              have hl3 := Rd.new1 pSized wr (sx, sy) #[.int .i64 sx, .int .i64 sy] rfl 39
              go_wp2_with (at_builtin; refine wpList_app _ pSized rfl _ _ 22 rfl w.heap.size 39 i0 _ 16 Try.underlying22 hi0 hz0 hz1 hz2 rfl _ out rfl (hownw.alloc _) _ _ 1 1 _ rfl hl3 (by rw [← HN.out]; simp only [maxLen]; omega) (by rw [← HN.out]; omega) (by have := hbw.size; simp; omega) ?_
                           intro v3 w3 hown3 hg3 _
                           have hb3 : Below w.heap.size w w3 := Own.grow (hownw.alloc _) (Nat.le_refl _) (hbw.alloc hbw.size _) (by have := hbw.size; simp; omega) hg3)
              go_roundg (m - (k + 1))
              case rel => exact ⟨k + 1, by omega, rfl, by go_num, by rw [Hnext.out]; exact hown3, hb3⟩
              case measure => omega
            · have Hnext := Lib.hid (show chosenF l order (k + 1) = out by
                rw [Hst.out, if_pos]; have := His2.out; simpa using this.symm)
              go_wp2
              go_roundg (m - (k + 1))
              case rel => exact ⟨k + 1, by omega, rfl, by go_num, by rw [Hnext.out]; exact hownw, hbw⟩
              case measure => omega
      · have e : k = m := by omega
        subst e
        go_wp2
        go_ret
        exact ⟨_, rfl, hown, hb⟩
end Go.Proofs.Ytfidjhhpcjmioaa
