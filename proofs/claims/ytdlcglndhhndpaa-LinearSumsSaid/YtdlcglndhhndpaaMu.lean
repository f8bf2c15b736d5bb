
/- Walk over LinearOnly. Conditions stand in the theorem. -/
import Derived.Test.YtdlcglndhhndpaaMs
import Derived.Test.YtdlcglndhhndpaaMo
namespace Go.Proofs.Ytdlcglndhhndpaa
open Go.RowKit
set_option linter.unusedVariables false
set_option linter.unusedSimpArgs false
set_option maxRecDepth 100000

theorem fewR_is {M d : Int} {l : List Rv} {b : Bool} (h : few6R M d l = b) (A : Option Addr) (n cap : Nat) (w : World) (hl : RdR w w.heap.size A n cap l) : Calls Try.prog 11 #[.slice A n cap, .int .i64 M, .int .i64 d] w fun e w' => e = .returned (.bool b) ∧ Below w.heap.size w w' := by
  have := few6_any M d A n cap l w hl
  rw [h] at this
  exact this
theorem fewF_is {M d : Int} {l : List Fv} {b : Bool} (h : few6L M d l = b) (A : Option Addr) (n cap : Nat) (w : World) (hl : RdF w w.heap.size A n cap l) : Calls Try.prog 12 #[.slice A n cap, .int .i64 M, .int .i64 d] w fun e w' => e = .returned (.bool b) ∧ Below w.heap.size w w' := by
  have := fewfracs_any M d A n cap l w hl
  rw [h] at this
  exact this
set_option maxHeartbeats 4000000 in
theorem linearOnly_walk (A : Option Addr) (n cap : Nat) (l : List Rv) (Ax : Option Addr) (nx cx : Nat) (x : List Fv) (w : World) (hl : RdR w w.heap.size A n cap l) (hx : RdF w w.heap.size Ax nx cx x) :
    Calls Try.prog 3 #[.slice A n cap, .slice Ax nx cx] w fun e w' => e = .returned (.bool true) ∧ Below w.heap.size w w' := by
  have hcap := hl.caps
  have hcx := hx.caps
  have hlen := hl.len
  have K := ((St.start w).addR hl).addF hx
  clear hl hx
  cases h1 : few6R 3 1 l
  · clear hlen
    go_enter Try.func3, Try.ntmps3
    go_wp2_with fail
    refine (small6_any _).mono ?_
    rintro e W ⟨rfl, hb⟩
    replace K := K.keep hb; clear hb
    go_wp2_with fail
    refine (fewR_is h1 _ _ _ _ ?qa).mono ?_
    case qa => exact K.getR (by repeat (first | with_reducible exact List.mem_cons_self | with_reducible apply List.mem_cons_of_mem))
    rintro e W ⟨rfl, hb⟩
    replace K := K.keep hb; clear hb
    (go_wp2_with fail; go_ret; exact ⟨rfl, K.1⟩)
  cases h2 : few6L 3 1 x
  · clear hlen
    go_enter Try.func3, Try.ntmps3
    go_wp2_with fail
    refine (small6_any _).mono ?_
    rintro e W ⟨rfl, hb⟩
    replace K := K.keep hb; clear hb
    go_wp2_with fail
    refine (fewR_is h1 _ _ _ _ ?qa).mono ?_
    case qa => exact K.getR (by repeat (first | with_reducible exact List.mem_cons_self | with_reducible apply List.mem_cons_of_mem))
    rintro e W ⟨rfl, hb⟩
    replace K := K.keep hb; clear hb
    go_wp2_with fail
    refine (fewF_is h2 _ _ _ _ ?qa).mono ?_
    case qa => exact K.getQ (by repeat (first | with_reducible exact List.mem_cons_self | with_reducible apply List.mem_cons_of_mem))
    rintro e W ⟨rfl, hb⟩
    replace K := K.keep hb; clear hb
    (go_wp2_with fail; go_ret; exact ⟨rfl, K.1⟩)
  cases h3 : rightL (n : Int) l
  · clear hlen
    go_enter Try.func3, Try.ntmps3
    go_wp2_with fail
    refine (small6_any _).mono ?_
    rintro e W ⟨rfl, hb⟩
    replace K := K.keep hb; clear hb
    go_wp2_with fail
    refine (fewR_is h1 _ _ _ _ ?qa).mono ?_
    case qa => exact K.getR (by repeat (first | with_reducible exact List.mem_cons_self | with_reducible apply List.mem_cons_of_mem))
    rintro e W ⟨rfl, hb⟩
    replace K := K.keep hb; clear hb
    go_wp2_with fail
    refine (fewF_is h2 _ _ _ _ ?qa).mono ?_
    case qa => exact K.getQ (by repeat (first | with_reducible exact List.mem_cons_self | with_reducible apply List.mem_cons_of_mem))
    rintro e W ⟨rfl, hb⟩
    replace K := K.keep hb; clear hb
    go_wp2_with fail
    refine (right_is h3 _ _ _ _ ?qa).mono ?_
    case qa => exact K.getR (by repeat (first | with_reducible exact List.mem_cons_self | with_reducible apply List.mem_cons_of_mem))
    rintro e W ⟨rfl, hb⟩
    replace K := K.keep hb; clear hb
    (go_wp2_with fail; go_ret; exact ⟨rfl, K.1⟩)
  rcases only_law h3 h1 hlen with ⟨m', -, hs, hk, hc, hu, -⟩ | ⟨m', c, -, hcn, hs, hk, hne, hfit, hc⟩
  · obtain ⟨a, ha⟩ : ∃ a, a = ofF n fun i => fvQ (m' i n) := ⟨_, rfl⟩
    have hal : a.length = n := by rw [ha, ofF_len]
    rw [← ha] at hs hc hu
    clear ha
    subst hal
    have Hu := Lib.hid hu
    clear hlen hu
    cases h5 : checkL (a.length : Int) l x
    · go_enter Try.func3, Try.ntmps3
      go_wp2_with fail
      refine (small6_any _).mono ?_
      rintro e W ⟨rfl, hb⟩
      replace K := K.keep hb; clear hb
      go_wp2_with fail
      refine (fewR_is h1 _ _ _ _ ?qa).mono ?_
      case qa => exact K.getR (by repeat (first | with_reducible exact List.mem_cons_self | with_reducible apply List.mem_cons_of_mem))
      rintro e W ⟨rfl, hb⟩
      replace K := K.keep hb; clear hb
      go_wp2_with fail
      refine (fewF_is h2 _ _ _ _ ?qa).mono ?_
      case qa => exact K.getQ (by repeat (first | with_reducible exact List.mem_cons_self | with_reducible apply List.mem_cons_of_mem))
      rintro e W ⟨rfl, hb⟩
      replace K := K.keep hb; clear hb
      go_wp2_with fail
      refine (right_is h3 _ _ _ _ ?qa).mono ?_
      case qa => exact K.getR (by repeat (first | with_reducible exact List.mem_cons_self | with_reducible apply List.mem_cons_of_mem))
      rintro e W ⟨rfl, hb⟩
      replace K := K.keep hb; clear hb
      go_wp2_with fail
      refine (solve_is hs _ _ _ _ ?qa).mono ?_
      case qa => exact K.getR (by repeat (first | with_reducible exact List.mem_cons_self | with_reducible apply List.mem_cons_of_mem))
      rintro e W ⟨A1, c1, rfl, hr, hb⟩
      have hcap1 := hr.caps
      replace K := (K.keep hb).addF hr
      clear hb hr
      go_wp2_with fail
      refine (kernel_is hk _ _ _ _ ?qa).mono ?_
      case qa => exact K.getR (by repeat (first | with_reducible exact List.mem_cons_self | with_reducible apply List.mem_cons_of_mem))
      rintro e W ⟨A2, c2, rfl, hr, hb⟩
      have hcap2 := hr.caps
      replace K := (K.keep hb).addF hr
      clear hb hr
      go_wp2_with fail
      refine (check_is hc _ _ _ _ _ _ _ ?qa ?qb).mono ?_
      case qa => exact K.getR (by repeat (first | with_reducible exact List.mem_cons_self | with_reducible apply List.mem_cons_of_mem))
      case qb => exact K.getQ (by repeat (first | with_reducible exact List.mem_cons_self | with_reducible apply List.mem_cons_of_mem))
      rintro e W ⟨rfl, hb⟩
      replace K := K.keep hb; clear hb
      go_wp2_with fail
      refine (check_is h5 _ _ _ _ _ _ _ ?qa ?qb).mono ?_
      case qa => exact K.getR (by repeat (first | with_reducible exact List.mem_cons_self | with_reducible apply List.mem_cons_of_mem))
      case qb => exact K.getQ (by repeat (first | with_reducible exact List.mem_cons_self | with_reducible apply List.mem_cons_of_mem))
      rintro e W ⟨rfl, hb⟩
      replace K := K.keep hb; clear hb
      (go_wp2_with fail; go_ret; exact ⟨rfl, K.1⟩)
    · have h6 := Hu.out x h5
      have h7 : decide (x = a) = true := decide_eq_true h6
      go_enter Try.func3, Try.ntmps3
      go_wp2_with fail
      refine (small6_any _).mono ?_
      rintro e W ⟨rfl, hb⟩
      replace K := K.keep hb; clear hb
      go_wp2_with fail
      refine (fewR_is h1 _ _ _ _ ?qa).mono ?_
      case qa => exact K.getR (by repeat (first | with_reducible exact List.mem_cons_self | with_reducible apply List.mem_cons_of_mem))
      rintro e W ⟨rfl, hb⟩
      replace K := K.keep hb; clear hb
      go_wp2_with fail
      refine (fewF_is h2 _ _ _ _ ?qa).mono ?_
      case qa => exact K.getQ (by repeat (first | with_reducible exact List.mem_cons_self | with_reducible apply List.mem_cons_of_mem))
      rintro e W ⟨rfl, hb⟩
      replace K := K.keep hb; clear hb
      go_wp2_with fail
      refine (right_is h3 _ _ _ _ ?qa).mono ?_
      case qa => exact K.getR (by repeat (first | with_reducible exact List.mem_cons_self | with_reducible apply List.mem_cons_of_mem))
      rintro e W ⟨rfl, hb⟩
      replace K := K.keep hb; clear hb
      go_wp2_with fail
      refine (solve_is hs _ _ _ _ ?qa).mono ?_
      case qa => exact K.getR (by repeat (first | with_reducible exact List.mem_cons_self | with_reducible apply List.mem_cons_of_mem))
      rintro e W ⟨A1, c1, rfl, hr, hb⟩
      have hcap1 := hr.caps
      replace K := (K.keep hb).addF hr
      clear hb hr
      go_wp2_with fail
      refine (kernel_is hk _ _ _ _ ?qa).mono ?_
      case qa => exact K.getR (by repeat (first | with_reducible exact List.mem_cons_self | with_reducible apply List.mem_cons_of_mem))
      rintro e W ⟨A2, c2, rfl, hr, hb⟩
      have hcap2 := hr.caps
      replace K := (K.keep hb).addF hr
      clear hb hr
      go_wp2_with fail
      refine (check_is hc _ _ _ _ _ _ _ ?qa ?qb).mono ?_
      case qa => exact K.getR (by repeat (first | with_reducible exact List.mem_cons_self | with_reducible apply List.mem_cons_of_mem))
      case qb => exact K.getQ (by repeat (first | with_reducible exact List.mem_cons_self | with_reducible apply List.mem_cons_of_mem))
      rintro e W ⟨rfl, hb⟩
      replace K := K.keep hb; clear hb
      go_wp2_with fail
      refine (check_is h5 _ _ _ _ _ _ _ ?qa ?qb).mono ?_
      case qa => exact K.getR (by repeat (first | with_reducible exact List.mem_cons_self | with_reducible apply List.mem_cons_of_mem))
      case qb => exact K.getQ (by repeat (first | with_reducible exact List.mem_cons_self | with_reducible apply List.mem_cons_of_mem))
      rintro e W ⟨rfl, hb⟩
      replace K := K.keep hb; clear hb
      go_wp2_with fail
      refine (same_is h7 _ _ _ _ _ _ _ ?qa ?qb).mono ?_
      case qa => exact K.getQ (by repeat (first | with_reducible exact List.mem_cons_self | with_reducible apply List.mem_cons_of_mem))
      case qb => exact K.getQ (by repeat (first | with_reducible exact List.mem_cons_self | with_reducible apply List.mem_cons_of_mem))
      rintro e W ⟨rfl, hb⟩
      replace K := K.keep hb; clear hb
      (go_wp2_with fail; go_ret; exact ⟨rfl, K.1⟩)
  · obtain ⟨a, ha⟩ : ∃ a, a = ofF n fun i => fvQ (kerV m' c i) := ⟨_, rfl⟩
    have hal : a.length = n := by rw [ha, ofF_len]
    have hn3 := only_n h1 hlen
    rw [← ha] at hk hc
    have Ha := Lib.hid (show ∀ i y, a[i]? = some y → i < n ∧ (y.s == 0) = decide (kerV m' c i = 0) from fun i y hy => by
      rw [ha] at hy
      have hi : i < n := by
        have := (List.getElem?_eq_some_iff.1 hy).1
        rw [ofF_len] at this
        exact this
      rw [ofF_get hi] at hy
      rw [← Option.some.inj hy]
      exact ⟨hi, (fvQ_std _).zero_iff (hfit i hi)⟩)
    have Hcn := Lib.hid hcn
    have Hne := Lib.hid hne
    clear ha hlen hcn hne hfit
    subst hal
    go_enter Try.func3, Try.ntmps3
    go_wp2_with fail
    refine (small6_any _).mono ?_
    rintro e W ⟨rfl, hb⟩
    replace K := K.keep hb; clear hb
    go_wp2_with fail
    refine (fewR_is h1 _ _ _ _ ?qa).mono ?_
    case qa => exact K.getR (by repeat (first | with_reducible exact List.mem_cons_self | with_reducible apply List.mem_cons_of_mem))
    rintro e W ⟨rfl, hb⟩
    replace K := K.keep hb; clear hb
    go_wp2_with fail
    refine (fewF_is h2 _ _ _ _ ?qa).mono ?_
    case qa => exact K.getQ (by repeat (first | with_reducible exact List.mem_cons_self | with_reducible apply List.mem_cons_of_mem))
    rintro e W ⟨rfl, hb⟩
    replace K := K.keep hb; clear hb
    go_wp2_with fail
    refine (right_is h3 _ _ _ _ ?qa).mono ?_
    case qa => exact K.getR (by repeat (first | with_reducible exact List.mem_cons_self | with_reducible apply List.mem_cons_of_mem))
    rintro e W ⟨rfl, hb⟩
    replace K := K.keep hb; clear hb
    go_wp2_with fail
    refine (solve_is hs _ _ _ _ ?qa).mono ?_
    case qa => exact K.getR (by repeat (first | with_reducible exact List.mem_cons_self | with_reducible apply List.mem_cons_of_mem))
    rintro e W ⟨A1, c1, rfl, hr, hb⟩
    have hcap1 := hr.caps
    replace K := (K.keep hb).addF hr
    clear hb hr
    go_wp2_with fail
    refine (kernel_is hk _ _ _ _ ?qa).mono ?_
    case qa => exact K.getR (by repeat (first | with_reducible exact List.mem_cons_self | with_reducible apply List.mem_cons_of_mem))
    rintro e W ⟨A2, c2, rfl, hr, hb⟩
    have hcap2 := hr.caps
    replace K := (K.keep hb).addF hr
    clear hb hr
    go_wp2_with fail
    go_loopg [12, 11] a.length (fun gk s12 s11 wr => ∃ (k : Nat) (z : Bool), k ≤ a.length ∧ gk = a.length - k ∧ s12 = .int .i64 k ∧ s11 = .bool z ∧ Hid (c < k → z = false) ∧ RdR wr wr.heap.size A a.length cap l ∧ RdF wr wr.heap.size A2 a.length c2 a ∧ Below w.heap.size w wr)
    case atStart => exact ⟨0, true, Nat.zero_le _, rfl, rfl, rfl, Lib.hid (fun h => absurd h (by omega)), K.getR (by repeat (first | with_reducible exact List.mem_cons_self | with_reducible apply List.mem_cons_of_mem)), K.getQ (by repeat (first | with_reducible exact List.mem_cons_self | with_reducible apply List.mem_cons_of_mem)), K.1⟩
    case round =>
      clear K
      obtain ⟨k, z, hk, rfl, rfl, rfl, HZ, hR, hF, hb0⟩ := hrel
      have HR := Lib.hid hR
      have HF := Lib.hid hF
      by_cases hlt : k < a.length
      · obtain ⟨eb, off, A5, n5, c5, B5, m5, d5, y, hA, hbB, hy, ⟨z0, z1, z2, z3⟩, r1, r2⟩ := hF.atF hlt
        subst hA
        have hki : (k : Int) < (a.length : Int) := by omega
        have hk0 : (0 : Int) ≤ (k : Int) := by omega
        obtain ⟨-, hz⟩ := Ha.out k y hy
        have hp1 := r1.caps
        have hp2 := r2.caps
        clear hy r1 r2 hR hF
        cases z
        · clear HZ hz
          go_wp2
          go_roundg (a.length - (k + 1))
          case rel => exact ⟨k + 1, false, hlt, rfl, by go_num, rfl, Lib.hid (fun _ => rfl), HR.out, HF.out, hb0⟩
          case measure => omega
        · obtain ⟨bz, hbz⟩ : ∃ bz, bz = (y.s == 0) := ⟨_, rfl⟩
          have HZ2 := Lib.hid (show c < k + 1 → bz = false from fun h => by
            by_cases e : c = k
            · rw [hbz, hz, ← e]
              exact decide_eq_false Hne.out
            · have := HZ.out (by omega)
              cases this)
          have HC := Lib.hid (fun W => zero6_any y.s y.t A5 B5 n5 c5 m5 d5 W)
          rw [← hbz] at HC
          clear HZ hz hbz
          go_wp2_with (go_at_call 18; refine (HC.out _).mono ?_; rintro e W5 ⟨rfl, hb5⟩)
          go_roundg (a.length - (k + 1))
          case rel => exact ⟨k + 1, bz, hlt, rfl, by go_num, rfl, HZ2, HR.out.up rE_lasts hb5, HF.out.up fE_lasts hb5, hb0.trans (hb5.mono hb0.size)⟩
          case measure => omega
      · have hz : z = false := HZ.out (by have := Hcn.out; omega)
        subst hz
        have e : k = a.length := by omega
        have hd : decide (k < a.length) = false := by simp; omega
        have K := ((St.start wr).addR hR).addF hF
        clear HZ hR hF HR HF e
        go_wp2_with fail
        refine (homog_any A a.length cap l _ (K.getR (by repeat (first | with_reducible exact List.mem_cons_self | with_reducible apply List.mem_cons_of_mem))) (by omega)).mono ?_
        rintro e W5 ⟨A6, c6, rfl, hr6, hb⟩
        rw [List.length_map] at hr6 ⊢
        have hcap6 := hr6.caps
        replace K := (K.keep hb).addR hr6
        clear hb hr6
        go_wp2_with fail
        refine (check_is hc _ _ _ _ _ _ _ ?qa ?qb).mono ?_
        case qa => exact K.getR (by repeat (first | with_reducible exact List.mem_cons_self | with_reducible apply List.mem_cons_of_mem))
        case qb => exact K.getQ (by repeat (first | with_reducible exact List.mem_cons_self | with_reducible apply List.mem_cons_of_mem))
        rintro e W ⟨rfl, hb⟩
        replace K := K.keep hb; clear hb
        go_wp2_with fail
        go_ret
        exact ⟨rfl, hb0.trans (K.1.mono hb0.size)⟩
end Go.Proofs.Ytdlcglndhhndpaa
