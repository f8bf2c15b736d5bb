
/- Walk over the statement CentsTells. Conditions stand in each theorem. -/
import Derived.Test.YtinfcngkbdiddaaCz
import Derived.Test.YtinfcngkbdiddaaCv
namespace Go.Proofs.Ytinfcngkbdiddaa
open Go.RowKit
set_option linter.unusedVariables false
set_option linter.unusedSimpArgs false

/-- a split of the same -/
theorem SplitC.like {w w' : World} {total : Int} {L M : List Fv} {e : Ending} (h : SplitC w total L M e w') {g : List Int} {a : List Fv} (h0 : splitE total L M ≠ 0 → g = [] ∧ a = []) (h1 : splitE total L M = 0 → (∀ x ∈ a, x.ok = true) ∧ SplitP total (ratL L) (ratL M) g (ratL a)) :
    ∃ A n cap A' n' cap', e = .returned (.tuple #[.slice A n cap, .slice A' n' cap', .int .i64 (splitE total L M)]) ∧ RdI w' w'.heap.size A n cap g ∧ RdF w' w'.heap.size A' n' cap' a ∧ Below w.heap.size w w' := by
  by_cases hE : splitE total L M = 0
  · obtain ⟨h2, h3⟩ := h1 hE
    have := h.known hE h3 h2
    rw [hE]
    exact this
  · obtain ⟨rfl, rfl⟩ := h0 hE
    obtain ⟨A, n, cap, got, A', n', cap', aft, h2, ⟨h3, h4⟩, h5, h6, h7⟩ := h
    obtain ⟨rfl, rfl⟩ := h5 hE
    exact ⟨A, n, cap, A', n', cap', h2, h3, h4, h7⟩
theorem fewL_len {l : List Fv} (h : fewL l = true) : l.length ≤ 12 := (of_decide_eq_true h).1
set_option maxRecDepth 100000 in
set_option maxHeartbeats 2000000 in
theorem centsTells_walk (total : Int) (A : Option Addr) (n cap : Nat) (l : List Fv) (A2 : Option Addr) (n2 cap2 : Nat) (m : List Fv) (w : World) (ht : -9223372036854775808 ≤ total ∧ total ≤ 9223372036854775807) (hl : RdF w w.heap.size A n cap l) (hm : RdF w w.heap.size A2 n2 cap2 m) :
    Calls Try.prog 3 #[.int .i64 total, .slice A n cap, .slice A2 n2 cap2] w fun e w' => e = .returned (.bool true) ∧ Below w.heap.size w w' := by
  have K := St.start w
  have HF1 := Lib.hid (fun W (h : Below w.heap.size w W) => rfew_any A n cap l W (hl.up fE_lasts h))
  have HF2 := Lib.hid (fun W (h : Below w.heap.size w W) => rfew_any A2 n2 cap2 m W (hm.up fE_lasts h))
  have HS1 := Lib.hid (fun W (h : Below w.heap.size w W) (hn : n ≤ 19) => csplit_any total A A2 n cap n2 cap2 l m W (hl.up fE_lasts h) (hm.up fE_lasts h) ht hn)
  have HS2 := Lib.hid (fun W (h : Below w.heap.size w W) => rsplit_any total A A2 n cap n2 cap2 l m W (hl.up fE_lasts h) (hm.up fE_lasts h) ht)
  have HR1 := Lib.hid (fun W (h : Below w.heap.size w W) => mright_any A2 n2 cap2 m W (hm.up fE_lasts h))
  have HR2 := Lib.hid (fun W (h : Below w.heap.size w W) => rright_any A2 n2 cap2 m W (hm.up fE_lasts h))
  have hlen := hl.len
  clear hl hm
  go_enter Try.func3, Try.ntmps3
  go_wp2_with fail
  refine (wsmall_any _).mono ?_
  rintro e W' ⟨rfl, hb⟩
  replace K := K.keep hb
  clear hb
  go_wp2_with fail
  refine (HF1.out _ K.1).mono ?_
  rintro e W' ⟨rfl, hb⟩
  replace K := K.keep hb
  clear hb
  cases hf1 : fewL l
  · go_wp2_with fail
    go_ret
    exact ⟨rfl, K.1⟩
  have hn : n ≤ 12 := by rw [← hlen]; exact fewL_len hf1
  clear hf1 hlen
  go_wp2_with fail
  refine (HF2.out _ K.1).mono ?_
  rintro e W' ⟨rfl, hb⟩
  replace K := K.keep hb
  clear hb
  cases hf2 : fewL m
  · go_wp2_with fail
    go_ret
    exact ⟨rfl, K.1⟩
  clear hf2
  go_wp2_with fail
  refine (HS1.out _ K.1 (by omega)).mono ?_
  rintro e W' ⟨A3, n3, c3, g, A4, n4, c4, a, rfl, ⟨hg, ha⟩, h0, h1, hb⟩
  have H0 := Lib.hid h0
  have H1 := Lib.hid h1
  replace K := ((K.keep hb).addI hg).addF ha
  clear hb hg ha h0 h1
  go_wp2_with fail
  refine ((HS2.out _ K.1).mono fun e w' h => h.like H0.out H1.out).mono ?_
  rintro e W' ⟨A5, n5, c5, A6, n6, c6, rfl, hg, ha, hb⟩
  replace K := ((K.keep hb).addI hg).addF ha
  clear hb hg ha H0 H1
  generalize splitE total l m = E at *
  have hE : (E == E) = true := by simp
  generalize rightM m = R at *
  have hR : (R == R) = true := by simp
  go_wp2_with fail
  refine (rints_eq _ _ _ _ _ _ g _ ?qa ?qb).mono ?_
  case qa => exact K.rd (by repeat (first | with_reducible exact List.mem_cons_self | with_reducible apply List.mem_cons_of_mem))
  case qb => exact K.rd (by repeat (first | with_reducible exact List.mem_cons_self | with_reducible apply List.mem_cons_of_mem))
  rintro e W' ⟨rfl, hb⟩
  replace K := K.keep hb
  clear hb
  go_wp2_with fail
  refine (rsame_eq _ _ _ _ _ _ a _ ?qa ?qb).mono ?_
  case qa => exact K.getF (by repeat (first | with_reducible exact List.mem_cons_self | with_reducible apply List.mem_cons_of_mem))
  case qb => exact K.getF (by repeat (first | with_reducible exact List.mem_cons_self | with_reducible apply List.mem_cons_of_mem))
  rintro e W' ⟨rfl, hb⟩
  replace K := K.keep hb
  clear hb
  go_wp2_with fail
  refine (HR1.out _ K.1).mono ?_
  rintro e W' ⟨rfl, hb⟩
  replace K := K.keep hb
  clear hb
  go_wp2_with fail
  refine (HR2.out _ K.1).mono ?_
  rintro e W' ⟨rfl, hb⟩
  replace K := K.keep hb
  clear hb
  go_wp2_with fail
  go_ret
  exact ⟨rfl, K.1⟩
end Go.Proofs.Ytinfcngkbdiddaa
