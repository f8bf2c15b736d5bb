/- Laws and walks; conditions stand in each theorem. -/
import Derived.Test.YtdlcglndhhndpaaGreatP20
import Derived.Test.YtdlcglndhhndpaaGreatP16
set_option linter.unusedSimpArgs false
set_option linter.unusedVariables false
set_option maxHeartbeats 2000000
set_option maxRecDepth 100000
namespace Go.Proofs.YtdlcglndhhndpaaGreat
open Go.RowKit
theorem ZQ69 {p : Prop} (h : p := by
 first
  | (go_wp2_with (first | (refine ZAL ?_; clear K r; intro W b K r) | (refine ZST ?_; clear K r; intro W K r))
     go_roundg (n - (k + 1))
     case rel => exact ⟨k + 1, hlt, rfl, by go_num, HA2, K.less (fun _ h => by cases h)⟩
     case measure => omega)
  | fail) : p := h
theorem ZQ94 {p : Prop} (h : p := by
 first
  | (rw [List.all_eq_true]
     intro x hx
     obtain ⟨j, hj, rfl⟩ := List.mem_iff_getElem.1 hx
     exact HA.out j _ (by rw [Hlen.out] at hj; exact hj) (List.getElem?_eq_getElem hj))
  | fail) : p := h
theorem all9_any (A : Option Addr) (n cap : Nat) (l : List Fv) (w : World) (hl : RdF w w.heap.size A n cap l) :
 Calls Tryz.prog 72 #[.slice A n cap] w fun e w' => e = .returned (.bool (l.all Fv.ok)) ∧ Below w.heap.size w w' := by
 have hcaps := hl.caps
 have Hlen := Lib.hid hl.len
 have HL := Lib.hid hl
 have K := St.start w
 have r := K.raw
 clear hl
 go_enter Tryz.func72, Tryz.ntmps72
 go_wp2_with (first | (refine ZAL ?_; clear K r; intro W b K r) | (refine ZST ?_; clear K r; intro W K r))
 go_loopg [3] n (fun gk s3 wr => ∃ k : Nat, k ≤ n ∧ gk = n - k ∧ s3 = .int .i64 k ∧ Hid (∀ (j : Nat) x, j < k → l[j]? = some x → x.ok = true) ∧ St w [] [] wr)
 case atStart => exact ⟨0, Nat.zero_le _, rfl, rfl, Lib.hid (fun j x h => absurd h (by omega)), K⟩
 case round =>
  clear K r
  obtain ⟨k, hk, rfl, rfl, HA, K⟩ := hrel
  have r := K.rawS
  by_cases hlt : k < n
  · obtain ⟨eb1, off1, A1, n1, c1, B1, m1, d1, x, hA1, hbB1, hx1, ⟨z0, z1, z2, z3⟩, r1, q1⟩ := HL.out.atF hlt
    subst hA1
    have Ex1 := Lib.hid (fun W (h : Below w.heap.size w W) => (⟨(h.cell (p := ⟨eb1, off1 + k * 4, none⟩) hbB1).trans z0, (h.cell (p := ⟨eb1, off1 + k * 4 + 1, none⟩) hbB1).trans z1, (h.cell (p := ⟨eb1, off1 + k * 4 + 2, none⟩) hbB1).trans z2, (h.cell (p := ⟨eb1, off1 + k * 4 + 3, none⟩) hbB1).trans z3⟩ : W.cell? ⟨eb1, off1 + k * 4, none⟩ = some (.int .i64 (x).s) ∧ W.cell? ⟨eb1, off1 + k * 4 + 1, none⟩ = some (.slice A1 n1 c1) ∧ W.cell? ⟨eb1, off1 + k * 4 + 2, none⟩ = some (.int .i64 (x).t) ∧ W.cell? ⟨eb1, off1 + k * 4 + 3, none⟩ = some (.slice B1 m1 d1)))
    have hki : (k : Int) < (n : Int) := by omega
    have hk0 : (0 : Int) ≤ (k : Int) := by omega
    have hcap1 := r1.caps
    have hcbp1 := q1.caps
    replace K := (K.oldRd r1).oldRd q1
    have Hx1 := Lib.hid hx1
    clear hx1 z0 z1 z2 z3 r1 q1
    have e1 := Ex1.out _ K.1
    have HR := Lib.hid (fun W a b => gRight_any x.s x.t A1 B1 n1 c1 m1 d1 x.l x.m W a b)
    have hok : rightF x.s x.l x.t x.m = x.ok := rfl
    rw [hok] at HR
    clear hok
    cases hin : x.ok
    · rw [hin] at HR
      have Hno := Lib.hid (show l.all Fv.ok = false by
       rw [List.all_eq_false]; exact ⟨x, List.mem_of_getElem? Hx1.out, by simp [hin]⟩)
      clear hin
      go_wp2_with (first | (refine ZAL ?_; clear K r; intro W b K r) | (refine ZST ?_; clear K r; intro W K r))
      refine (HR.out _ ZRD ZRD).mono ?_
      rintro e W' ⟨rfl, hb⟩
      replace K := K.keep hb
      clear r
      have r := K.rawS
      clear hb
      go_wp2_with (first | (refine ZAL ?_; clear K r; intro W b K r) | (refine ZST ?_; clear K r; intro W K r))
      go_ret
      exact ⟨by rw [Hno.out]; first | done | rfl, K.1⟩
    · rw [hin] at HR
      have HA2 := Lib.hid (show ∀ (j : Nat) x, j < k + 1 → l[j]? = some x → x.ok = true from fun j y hj hy => by
       by_cases e : j = k
       · subst e; rw [Hx1.out] at hy; cases hy; exact hin
       · exact HA.out j y (by omega) hy)
      clear hin HA
      go_wp2_with (first | (refine ZAL ?_; clear K r; intro W b K r) | (refine ZST ?_; clear K r; intro W K r))
      refine (HR.out _ ZRD ZRD).mono ?_
      rintro e W' ⟨rfl, hb⟩
      replace K := K.keep hb
      clear r
      have r := K.rawS
      clear hb
      exact ZQ69
  · have e : k = n := by omega
    subst e
    have Hyes := Lib.hid (show l.all Fv.ok = true by
     exact ZQ94)
    clear HA
    go_wp2_with (first | (refine ZAL ?_; clear K r; intro W b K r) | (refine ZST ?_; clear K r; intro W K r))
    go_ret
    exact ⟨by rw [Hyes.out]; first | done | rfl, K.1⟩
theorem fnF_all {l : List Fv} (h : l.all fnF = true) : l.all Fv.ok = true := by
 rw [List.all_eq_true] at h ⊢
 intro x hx
 have := h x hx
 unfold fnF at this
 rw [Bool.and_eq_true] at this
 exact this.1
theorem least9_any (A : Option Addr) (n cap N : Nat) (l : List Fv) (w : World) (hl : RdF w w.heap.size A n cap l) :
 Calls Tryz.prog 77 #[.slice A n cap, .int .i64 (N : Int)] w fun e w' => e = .returned (.bool (decide (l.length = N) && l.all fnF)) ∧ Below w.heap.size w w' := by
 have hcaps := hl.caps
 have Hlen := Lib.hid hl.len
 have HL := Lib.hid hl
 have K := St.start w
 have r := K.raw
 by_cases hN : n = N
 · have hNi : (n : Int) = (N : Int) := by omega
   have Hd := Lib.hid (show decide (l.length = N) = true from decide_eq_true (by rw [Hlen.out]; exact hN))
   have HA := Lib.hid (fun W a => all9_any A n cap l W a)
   clear hl hN
   cases hall : l.all Fv.ok
   · have Hno := Lib.hid (show l.all fnF = false by
      cases h : l.all fnF
      · rfl
      · rw [fnF_all h] at hall; cases hall)
     rw [hall] at HA
     clear hall
     go_enter Tryz.func77, Tryz.ntmps77
     go_wp2_with (first | (first | (refine ZAL ?_; clear K r; intro W b K r) | (refine ZST ?_; clear K r; intro W K r)) | (go_at_call 72; refine (HA.out _ (HL.out.up fE_lasts K.1)).mono ?_; rintro e W' ⟨rfl, hb⟩; replace K := K.keep hb; clear hb r; have r := K.rawS))
     go_ret
     exact ⟨by rw [Hno.out, Bool.and_false]; rfl, K.1⟩
   · rw [hall] at HA
     have Hall := Lib.hid hall
     clear hall
     go_enter Tryz.func77, Tryz.ntmps77
     go_wp2_with (first | (first | (refine ZAL ?_; clear K r; intro W b K r) | (refine ZST ?_; clear K r; intro W K r)) | (go_at_call 72; refine (HA.out _ (HL.out.up fE_lasts K.1)).mono ?_; rintro e W' ⟨rfl, hb⟩; replace K := K.keep hb; clear hb r; have r := K.rawS))
     clear HA
     go_loopg [5] n (fun gk s3 wr => ∃ k : Nat, k ≤ n ∧ gk = n - k ∧ s3 = .int .i64 k ∧ Hid (∀ (j : Nat) x, j < k → l[j]? = some x → fnF x = true) ∧ St w [] [] wr)
     case atStart => exact ⟨0, Nat.zero_le _, rfl, rfl, Lib.hid (fun j x h => absurd h (by omega)), K.less (fun _ h => by cases h)⟩
     case round =>
      clear K r
      obtain ⟨k, hk, rfl, rfl, HA, K⟩ := hrel
      have r := K.rawS
      by_cases hlt : k < n
      · obtain ⟨eb1, off1, A1, n1, c1, B1, m1, d1, x, hA1, hbB1, hx1, ⟨z0, z1, z2, z3⟩, r1, q1⟩ := HL.out.atF hlt
        subst hA1
        have Ex1 := Lib.hid (fun W (h : Below w.heap.size w W) => (⟨(h.cell (p := ⟨eb1, off1 + k * 4, none⟩) hbB1).trans z0, (h.cell (p := ⟨eb1, off1 + k * 4 + 1, none⟩) hbB1).trans z1, (h.cell (p := ⟨eb1, off1 + k * 4 + 2, none⟩) hbB1).trans z2, (h.cell (p := ⟨eb1, off1 + k * 4 + 3, none⟩) hbB1).trans z3⟩ : W.cell? ⟨eb1, off1 + k * 4, none⟩ = some (.int .i64 (x).s) ∧ W.cell? ⟨eb1, off1 + k * 4 + 1, none⟩ = some (.slice A1 n1 c1) ∧ W.cell? ⟨eb1, off1 + k * 4 + 2, none⟩ = some (.int .i64 (x).t) ∧ W.cell? ⟨eb1, off1 + k * 4 + 3, none⟩ = some (.slice B1 m1 d1)))
        have hki : (k : Int) < (n : Int) := by omega
        have hk0 : (0 : Int) ≤ (k : Int) := by omega
        have hcap1 := r1.caps
        have hcbp1 := q1.caps
        replace K := (K.oldRd r1).oldRd q1
        have Hx1 := Lib.hid hx1
        clear hx1 z0 z1 z2 z3 r1 q1
        have e1 := Ex1.out _ K.1
        have Hxo := Lib.hid (show x.ok = true from List.all_eq_true.1 Hall.out x (List.mem_of_getElem? Hx1.out))
        by_cases hs : x.s < 0
        · have Hno := Lib.hid (show l.all fnF = false by
           rw [List.all_eq_false]; exact ⟨x, List.mem_of_getElem? Hx1.out, by unfold fnF; rw [decide_eq_true hs]; simp⟩)
          go_wp2_with (first | (refine ZAL ?_; clear K r; intro W b K r) | (refine ZST ?_; clear K r; intro W K r))
          go_ret
          exact ⟨by rw [Hno.out, Bool.and_false]; rfl, K.1⟩
        · have HA2 := Lib.hid (show ∀ (j : Nat) x, j < k + 1 → l[j]? = some x → fnF x = true from fun j y hj hy => by
           by_cases e : j = k
           · subst e; rw [Hx1.out] at hy; cases hy; unfold fnF; rw [Hxo.out, decide_eq_false hs]; rfl
           · exact HA.out j y (by omega) hy)
          clear HA
          exact ZQ69
      · have e : k = n := by omega
        subst e
        have Hyes := Lib.hid (show l.all fnF = true by
         exact ZQ94)
        clear HA
        go_wp2_with (first | (refine ZAL ?_; clear K r; intro W b K r) | (refine ZST ?_; clear K r; intro W K r))
        go_ret
        exact ⟨by rw [Hyes.out, Hd.out]; rfl, K.1⟩
 · have hNi : ¬ (n : Int) = (N : Int) := by omega
   have Hd := Lib.hid (show decide (l.length = N) = false from decide_eq_false (by rw [Hlen.out]; exact hN))
   clear hl
   go_enter Tryz.func77, Tryz.ntmps77
   go_wp2_with (first | (refine ZAL ?_; clear K r; intro W b K r) | (refine ZST ?_; clear K r; intro W K r))
   go_ret
   exact ⟨by rw [Hd.out]; rfl, K.1⟩
end Go.Proofs.YtdlcglndhhndpaaGreat
