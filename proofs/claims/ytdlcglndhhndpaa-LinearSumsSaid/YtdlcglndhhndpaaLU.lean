/- Walk over Rank of package linear. Conditions stand in the theorem. -/
import Derived.Test.YtdlcglndhhndpaaLS
namespace Go.Proofs.Ytdlcglndhhndpaa
open Go.RowKit
set_option linter.unusedVariables false
set_option linter.unusedSimpArgs false

/-- what Rank returns -/
def rankM1 (n : Nat) : Option (Mx × List Nat) → Int × Int
  | none => (0, 6)
  | some (_, fr) => ((n : Int) - (fr.length : Int), 0)
def rankL (N : Int) (l : List Rv) : Int × Int := if rightL N l = true then rankM1 l.length (elimF l.length false l.length (mxR l) []) else (0, 1)
theorem cntB_free {n : Nat} {m m' : Mx} {fr : List Nat} (h : elimF n false n m [] = some (m', fr)) : fr.length ≤ n := (rank_triv h).1
set_option maxRecDepth 100000 in
set_option maxHeartbeats 2000000 in
theorem lrank_any (N : Int) (A : Option Addr) (n cap : Nat) (l : List Rv) (w : World) (hl : RdR w w.heap.size A n cap l) :
    Calls Try.prog 26 #[.slice A n cap, .int .i64 N] w fun e w' => e = .returned (.tuple #[.int .i64 (rankL N l).1, .int .i64 (rankL N l).2]) ∧ Below w.heap.size w w' := by
  have hlen := hl.len
  have hcap := hl.caps
  have HR := Lib.hid (lright_any N A n cap l w hl)
  cases hr : rightL N l
  · rw [hr] at HR
    have hRe : rankL N l = (0, 1) := by unfold rankL; rw [hr]; rfl
    rw [hRe]
    clear hl hlen hr hRe
    go_enter Try.func26, Try.ntmps26
    go_wp2_with fail
    refine HR.out.mono ?_
    rintro e W ⟨rfl, hb⟩
    go_wp2
    exact bodyPost_ret (v := .tuple #[.int .i64 0, .int .i64 1]) (by simp [results, Try.results26, go_sem]) rfl ⟨rfl, hb⟩
  · obtain ⟨hN, hn40⟩ := rightL_len hr
    rw [hlen] at hN hn40
    subst hN
    rw [hr] at HR
    have HL := Lib.hid (fun W (h : Below w.heap.size w W) => lelim_any A n cap l false W (hl.up rE_lasts h) hr)
    have HSo := Lib.hid (show rankL (n : Int) l = rankM1 n (elimF n false n (mxR l) []) from by unfold rankL; rw [if_pos hr, hlen])
    rw [HSo.out]
    clear hl hlen hr HSo
    generalize mxR l = m0 at *
    obtain ⟨R, hR⟩ : ∃ R, R = rankM1 n (elimF n false n m0 []) := ⟨_, rfl⟩
    rw [← hR]
    have HRR := Lib.hid hR
    clear hR
    go_enter Try.func26, Try.ntmps26
    go_wp2_with fail
    refine HR.out.mono ?_
    rintro e W ⟨rfl, hb⟩
    go_wp2_with fail
    refine (HL.out W hb).mono ?_
    rintro e W' ⟨mb, A', cc, Af, cf, b, fr, m', rfl, hb2, ⟨c0, c2⟩, hfr, hB1, hB2⟩
    have hb3 := hb.trans (hb2.mono hb.size)
    have hcf := hfr.caps
    obtain ⟨fl, hfl⟩ : ∃ fl, fl = fr.length := ⟨_, rfl⟩
    rw [← hfl] at hcf ⊢
    have Hb3 := Lib.hid hb3
    cases b
    · obtain ⟨he, -, -⟩ := hB2 rfl
      have hle := cntB_free he
      rw [← hfl] at hle
      have hw : IntKind.i64.wrap ((n : Int) - (fl : Int)) = (n : Int) - (fl : Int) := IntWalk.i64_in _ (by omega)
      have HX := Lib.hid (show Ending.returned (.tuple #[.int .i64 ((n : Int) - (fl : Int)), .int .i64 0]) = Ending.returned (.tuple #[.int .i64 R.1, .int .i64 R.2]) ∧ Below w.heap.size w W' from by
        rw [HRR.out, he, hfl]
        exact ⟨rfl, Hb3.out⟩)
      clear hfr hB1 hB2 hfl he hb hb2 hb3 HRR HR HL
      go_wp2
      exact bodyPost_ret (v := .tuple #[.int .i64 ((n : Int) - (fl : Int)), .int .i64 0]) (by simp [results, Try.results26, go_sem]) rfl HX.out
    · have HX := Lib.hid (show Ending.returned (.tuple #[.int .i64 0, .int .i64 6]) = Ending.returned (.tuple #[.int .i64 R.1, .int .i64 R.2]) ∧ Below w.heap.size w W' from by
        rw [HRR.out, hB1 rfl]
        exact ⟨rfl, Hb3.out⟩)
      clear hfr hB1 hB2 hfl hb hb2 hb3 HRR HR HL
      go_wp2
      exact bodyPost_ret (v := .tuple #[.int .i64 0, .int .i64 6]) (by simp [results, Try.results26, go_sem]) rfl HX.out
end Go.Proofs.Ytdlcglndhhndpaa
