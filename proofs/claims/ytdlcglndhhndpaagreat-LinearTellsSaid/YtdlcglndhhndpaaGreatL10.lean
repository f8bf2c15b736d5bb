/- Laws and walks; conditions stand in each theorem. -/
import Derived.Outline
import Derived.Test.YtdlcglndhhndpaaGreatL07
import Derived.Test.YtdlcglndhhndpaaGreatL08
import Derived.Test.YtdlcglndhhndpaaGreatL09
set_option linter.unusedSimpArgs false
set_option linter.unusedVariables false
set_option maxHeartbeats 1000000
set_option maxRecDepth 100000
namespace Go.Proofs.YtdlcglndhhndpaaGreat
open Go.RowKit
theorem ZL33 {p : Prop} (h : p := by
 first
  | (go_roundg (n - (k + 1))
     case rel => exact ⟨k + 1, by omega, rfl, by go_num, (fun j y hj hy => by
      by_cases e : j = k
      · subst e; rw [Hx.out] at hy; cases hy; exact Hin.out
      · exact Hall.out j y (by omega) hy), HB.out.trans (hb1.mono HB.out.size)⟩
     case measure => omega)
  | fail) : p := h
theorem ZL52 {p : Prop} (h : p := by
 first
  | (have e : k = n := by omega
     subst e
     have Hyes := Lib.hid (show l.all Fv.ok = true by
      rw [List.all_eq_true]
      intro x hx
      obtain ⟨j, hj, rfl⟩ := List.mem_iff_getElem.1 hx
      exact Hall.out j _ (by rw [Hlen.out] at hj; exact hj) (List.getElem?_eq_getElem hj))
     clear hb hl
     go_wp2
     go_ret
     exact ⟨-1, rfl, by omega, by omega, by rw [Hyes.out]; rfl, HB.out⟩)
  | fail) : p := h
theorem ZL79 {p : Prop} (h : p := by
 first
  | (go_ret
     exact ⟨(k : Int), rfl, by omega, by omega, by rw [Hno.out]; simp, HB.out.trans (hb1.mono HB.out.size)⟩)
  | fail) : p := h
theorem ZL102 {p : Prop} (h : p := by first | (rw [List.all_eq_false]; exact ⟨x, List.mem_of_getElem? Hx.out, by simp [hin]⟩) | fail) : p := h
theorem lzero_any (s t : Int) (A A' : Option Addr) (n cap n' cap' : Nat) (w : World) :
 Calls Tryz.prog 126 #[.agg #[.int .i64 s, .slice A n cap, .int .i64 t, .slice A' n' cap']] w fun e w' => e = .returned (.bool (s == 0)) ∧ Below w.heap.size w w' := by
 have K := St.start w
 have r := K.raw
 obtain ⟨R, hR⟩ : ∃ R, (s == 0) = R := ⟨_, rfl⟩
 rw [hR]
 go_enter Tryz.func126, Tryz.ntmps126
 go_wp2_with (first | (refine ZAL ?_; clear K r; intro W b K r) | (refine ZST ?_; clear K r; intro W K r))
 go_ret
 exact ⟨rfl, K.1⟩
theorem zero_rat {s : Int} {l : List Int} {t : Int} {m : List Int} (h : rightF s l t m = true) : (s == 0) = decide (ratF s l t m = 0) := by
 obtain ⟨⟨S, -⟩, -⟩ := rightF_std h
 have h0 : s = 0 ↔ (ratF s l t m).num = 0 := by
  rcases S.signs with ⟨-, a, b⟩ | ⟨-, a, b⟩ | ⟨-, a, b⟩ <;> omega
 by_cases hs : s = 0
 · have h1 : ratF s l t m = 0 := Rat.num_eq_zero.1 (h0.1 hs)
   rw [h1, hs]; rfl
 · have h1 : ratF s l t m ≠ 0 := fun e => hs (h0.2 (by rw [e]; rfl))
   rw [decide_eq_false h1]; simp [hs]
theorem lwrong_any (s t : Int) (A A' : Option Addr) (n cap n' cap' : Nat) (l m : List Int) (w : World) (hl : RdI w w.heap.size A n cap l) (hm : RdI w w.heap.size A' n' cap' m) :
 Calls Tryz.prog 44 #[.agg #[.int .i64 s, .slice A n cap, .int .i64 t, .slice A' n' cap']] w fun e w' => e = .returned (.bool (!rightF s l t m)) ∧ Below w.heap.size w w' := by
 have K := ((St.start w).oldRd hl).oldRd hm
 have r := K.raw
 have HR := Lib.hid (fun W h g => fRight_any s t A A' n cap n' cap' l m W h g)
 clear hl hm
 generalize rightF s l t m = R at *
 go_enter Tryz.func44, Tryz.ntmps44
 go_wp2_with (first | (refine ZAL ?_; clear K r; intro W b K r) | (refine ZST ?_; clear K r; intro W K r))
 refine (HR.out _ ZRD ZRD).mono ?_
 rintro e W' ⟨rfl, hb⟩
 replace K := K.keep hb
 clear r
 have r := K.rawS
 clear hb
 go_wp2
 go_ret
 exact ⟨rfl, K.1⟩
structure Rv where
 a : List Fv
 b : Fv
def rE : Enc Rv := fun w B x cs => ∃ A n c cs', cs = .slice A n c :: cs' ∧ RdF w B A n c x.a ∧ fE w B x.b cs'
theorem rE_lasts : Lasts rE := fun w w' B B' x cs ⟨A, n, c, cs', h, h1, h2⟩ hB hk => ⟨A, n, c, cs', h, h1.keep fE_lasts hB hk, fE_lasts _ _ _ _ _ _ h2 hB hk⟩
abbrev RdR := Rd 5 rE
theorem Rd.atR {w : World} {B : Nat} {A : Option Addr} {n cap : Nat} {l : List Rv} (h : RdR w B A n cap l) {k : Nat} (hk : k < n) :
 ∃ b off A0 n0 c0 A1 n1 c1 A2 n2 c2 x, A = some ⟨b, off, none⟩ ∧ b < B ∧ l[k]? = some x ∧ (w.cell? ⟨b, off + k * 5, none⟩ = some (.slice A0 n0 c0) ∧ w.cell? ⟨b, off + k * 5 + 1, none⟩ = some (.int .i64 x.b.s) ∧ w.cell? ⟨b, off + k * 5 + 2, none⟩ = some (.slice A1 n1 c1) ∧ w.cell? ⟨b, off + k * 5 + 3, none⟩ = some (.int .i64 x.b.t) ∧ w.cell? ⟨b, off + k * 5 + 4, none⟩ = some (.slice A2 n2 c2)) ∧ RdF w B A0 n0 c0 x.a ∧ RdI w B A1 n1 c1 x.b.l ∧ RdI w B A2 n2 c2 x.b.m := by
 obtain ⟨b, off, rfl, hb, hc⟩ := h.2.2.2 (by omega)
 have hl := h.1
 obtain ⟨cs, ⟨A0, n0, c0, cs', rfl, h0, A1, n1, c1, A2, n2, c2, rfl, h1, h2⟩, _, hj⟩ := hc k (by omega)
 exact ⟨b, off, A0, n0, c0, A1, n1, c1, A2, n2, c2, l[k], rfl, hb, List.getElem?_eq_getElem (by omega), ⟨by simpa using hj 0 _ rfl, by simpa using hj 1 _ rfl, by simpa using hj 2 _ rfl, by simpa using hj 3 _ rfl, by simpa using hj 4 _ rfl⟩, h0, h1, h2⟩
def IdxF (w : World) (b : Bool) (e : Ending) (w' : World) : Prop := ∃ i : Int, e = .returned (.int .i64 i) ∧ -1 ≤ i ∧ i ≤ 140737488351232 ∧ decide (0 ≤ i) = !b ∧ Below w.heap.size w w'
theorem idxF_any (A : Option Addr) (n cap : Nat) (l : List Fv) (w : World) (hl : RdF w w.heap.size A n cap l) :
 Calls Tryz.prog 101 #[.slice A n cap, .func (.func 44) #[] #[]] w (IdxF w (l.all Fv.ok)) := by
 have hcaps := hl.caps
 have hlen := hl.len
 have eg := enters_of Tryz.func44 (by kernel_rfl) rfl
 have Hlen := Lib.hid hlen; clear hlen
 have HL := Lib.hid (fun W (h : Below w.heap.size w W) => hl.up fE_lasts h)
 go_enter Tryz.func101, Tryz.ntmps101
 go_wp2
 go_loopg [8] n (fun gk i wr => ∃ k : Nat, k ≤ n ∧ gk = n - k ∧ i = .int .i64 k ∧ (∀ j x, j < k → l[j]? = some x → x.ok = true) ∧ Below w.heap.size w wr)
 case atStart => exact ⟨0, Nat.zero_le _, rfl, rfl, (fun j x h => absurd h (by omega)), Below.refl _ _⟩
 case round =>
  obtain ⟨k, hk, rfl, rfl, hall, hb⟩ := hrel
  have Hall := Lib.hid hall; clear hall
  have HB := Lib.hid hb
  by_cases hlt : k < n
  · obtain ⟨b, off, A1, n1, c1, A2, n2, c2, x, rfl, hbB, hx, ⟨d0, d1, d2, d3⟩, r1, r2⟩ := (HL.out wr hb).atF hlt
    have hki : (k : Int) < (n : Int) := by omega
    have hk0 : (0 : Int) ≤ (k : Int) := by omega
    have Hx := Lib.hid hx; clear hx
    have HW := Lib.hid (lwrong_any x.s x.t A1 A2 n1 c1 n2 c2 x.l x.m wr r1 r2)
    have hcap1 := r1.caps
    have hcap2 := r2.caps
    have hok : rightF x.s x.l x.t x.m = x.ok := rfl
    rw [hok] at HW
    clear hok r1 r2 hb hl
    cases hin : x.ok
    · rw [hin] at HW
      have Hno := Lib.hid (show l.all Fv.ok = false by
       exact ZL102)
      clear hin
      go_wp2_with (go_at_call 44; refine HW.out.mono ?_; rintro e w1 ⟨rfl, hb1⟩)
      exact ZL79
    · rw [hin] at HW
      have Hin := Lib.hid hin
      clear hin
      go_wp2_with (go_at_call 44; refine HW.out.mono ?_; rintro e w1 ⟨rfl, hb1⟩)
      exact ZL33
  · exact ZL52
theorem conF_any (A : Option Addr) (n cap : Nat) (l : List Fv) (w : World) (hl : RdF w w.heap.size A n cap l) :
 Calls Tryz.prog 48 #[.slice A n cap, .func (.func 44) #[] #[]] w fun e w' => e = .returned (.bool (!l.all Fv.ok)) ∧ Below w.heap.size w w' := by
 have Hidx := Lib.hid (idxF_any A n cap l w hl)
 clear hl
 generalize l.all Fv.ok = b at *
 go_enter Tryz.func48, Tryz.ntmps48
 go_wp2_with (go_at_call 101; refine Hidx.out.mono ?_; rintro e w1 ⟨i, rfl, hi1, hi2, hi3, hb⟩)
 go_ret
 exact ⟨rfl, hb⟩
def rowF (N : Int) (x : Rv) : Bool := (decide ((x.a.length : Int) = N) && x.b.ok) && x.a.all Fv.ok
theorem lrow_any (s t N : Int) (A0 A1 A2 : Option Addr) (n0 c0 n1 c1 n2 c2 B1 B2 : Nat) (a : List Fv) (l m : List Int) (w : World) (r0 : RdF w w.heap.size A0 n0 c0 a) (r1 : RdI w w.heap.size A1 n1 c1 l) (r2 : RdI w w.heap.size A2 n2 c2 m)
 (g1 : w.cell? ⟨B1, 0, none⟩ = some (.int .i64 N)) (g2 : w.cell? ⟨B2, 0, none⟩ = some (.func (.func 44) #[] #[])) :
 Calls Tryz.prog 47 #[.agg #[.slice A0 n0 c0, .int .i64 s, .slice A1 n1 c1, .int .i64 t, .slice A2 n2 c2], .pointer (some ⟨B1, 0, none⟩), .pointer (some ⟨B2, 0, none⟩)] w fun e w' => e = .returned (.bool (!rowF N ⟨a, ⟨s, l, t, m⟩⟩)) ∧ Below w.heap.size w w' := by
 have hlen := r0.len
 have hb0 := (Below.refl w.heap.size w).alloc (Nat.le_refl _) (.cells #[.slice A0 n0 c0, .int .i64 s, .slice A1 n1 c1, .int .i64 t, .slice A2 n2 c2] 56)
 have d0 : (w.alloc (.cells #[.slice A0 n0 c0, .int .i64 s, .slice A1 n1 c1, .int .i64 t, .slice A2 n2 c2] 56)).cell? ⟨w.heap.size, 0, none⟩ = some (.slice A0 n0 c0) := new_cell rfl rfl
 have d1 : (w.alloc (.cells #[.slice A0 n0 c0, .int .i64 s, .slice A1 n1 c1, .int .i64 t, .slice A2 n2 c2] 56)).cell? ⟨w.heap.size, 1, none⟩ = some (.int .i64 s) := new_cell rfl rfl
 have d2 : (w.alloc (.cells #[.slice A0 n0 c0, .int .i64 s, .slice A1 n1 c1, .int .i64 t, .slice A2 n2 c2] 56)).cell? ⟨w.heap.size, 2, none⟩ = some (.slice A1 n1 c1) := new_cell rfl rfl
 have d3 : (w.alloc (.cells #[.slice A0 n0 c0, .int .i64 s, .slice A1 n1 c1, .int .i64 t, .slice A2 n2 c2] 56)).cell? ⟨w.heap.size, 3, none⟩ = some (.int .i64 t) := new_cell rfl rfl
 have d4 : (w.alloc (.cells #[.slice A0 n0 c0, .int .i64 s, .slice A1 n1 c1, .int .i64 t, .slice A2 n2 c2] 56)).cell? ⟨w.heap.size, 4, none⟩ = some (.slice A2 n2 c2) := new_cell rfl rfl
 have h1 := keep_cell hb0 g1
 have h2 := keep_cell hb0 g2
 have HW := Lib.hid (fun W (h : Below w.heap.size w W) => lwrong_any s t A1 A2 n1 c1 n2 c2 l m W (r1.up (flat_lasts _) h) (r2.up (flat_lasts _) h))
 have HC := Lib.hid (fun W (h : Below w.heap.size w W) => conF_any A0 n0 c0 a W (r0.up fE_lasts h))
 have hcap0 := r0.caps
 have hcap1 := r1.caps
 have hcap2 := r2.caps
 have eg := enters_of Tryz.func44 (by kernel_rfl) rfl
 have hR : rowF N ⟨a, ⟨s, l, t, m⟩⟩ = ((decide ((n0 : Int) = N) && rightF s l t m) && a.all Fv.ok) := by
  unfold rowF Fv.ok
  rw [← hlen]
 rw [hR]
 clear r0 r1 r2 hlen hR g1 g2
 generalize rightF s l t m = R at *
 generalize a.all Fv.ok = S at *
 by_cases hn : (n0 : Int) = N
 · have hd : ((n0 : Int) != N) = false := by simp [hn]
   rw [decide_eq_true hn, Bool.true_and]
   clear hn
   cases R
   · rw [Bool.false_and]
     go_enter Tryz.func47, Tryz.ntmps47
     go_wp2_with (go_at_call 44; refine (HW.out _ hb0).mono ?_; rintro e w1 ⟨rfl, hb1⟩)
     go_ret
     exact ⟨rfl, hb0.trans (hb1.mono hb0.size)⟩
   · rw [Bool.true_and]
     go_enter Tryz.func47, Tryz.ntmps47
     go_wp2_with (go_at_call 44; refine (HW.out _ hb0).mono ?_; rintro e w1 ⟨rfl, hb1⟩; have e0 := keep_cell hb1 d0; have e1 := keep_cell hb1 h2; have hb2 := hb0.trans (hb1.mono hb0.size); clear hb0 hb1 d0 d1 d2 d3 d4 h1 h2)
     go_wp2_with (go_at_call 48; refine (HC.out _ hb2).mono ?_; rintro e w2 ⟨rfl, hb3⟩)
     go_ret
     exact ⟨rfl, hb2.trans (hb3.mono hb2.size)⟩
 · have hd : ((n0 : Int) != N) = true := by simp [hn]
   rw [decide_eq_false hn, Bool.false_and, Bool.false_and]
   clear hn
   go_enter Tryz.func47, Tryz.ntmps47
   go_wp2
   go_ret
   exact ⟨rfl, hb0⟩
theorem idxRow_any (N : Int) (B1 B2 : Nat) (A : Option Addr) (n cap : Nat) (l : List Rv) (w : World) (hl : RdR w w.heap.size A n cap l) (g1 : w.cell? ⟨B1, 0, none⟩ = some (.int .i64 N)) (g2 : w.cell? ⟨B2, 0, none⟩ = some (.func (.func 44) #[] #[])) :
 Calls Tryz.prog 100 #[.slice A n cap, .func (.func 47) #[] #[.pointer (some ⟨B1, 0, none⟩), .pointer (some ⟨B2, 0, none⟩)]] w (IdxF w (l.all (rowF N))) := by
 have hcaps := hl.caps
 have hlen := hl.len
 have eg := enters_of Tryz.func47 (by kernel_rfl) rfl
 have Hlen := Lib.hid hlen; clear hlen
 have G1 := Lib.hid (fun W (h : Below w.heap.size w W) => keep_cell h g1)
 have G2 := Lib.hid (fun W (h : Below w.heap.size w W) => keep_cell h g2)
 clear g1 g2
 have HL := Lib.hid (fun W (h : Below w.heap.size w W) => hl.up rE_lasts h)
 go_enter Tryz.func100, Tryz.ntmps100
 go_wp2
 go_loopg [8] n (fun gk i wr => ∃ k : Nat, k ≤ n ∧ gk = n - k ∧ i = .int .i64 k ∧ (∀ j x, j < k → l[j]? = some x → rowF N x = true) ∧ Below w.heap.size w wr)
 case atStart => exact ⟨0, Nat.zero_le _, rfl, rfl, (fun j x h => absurd h (by omega)), Below.refl _ _⟩
 case round =>
  obtain ⟨k, hk, rfl, rfl, hall, hb⟩ := hrel
  have Hall := Lib.hid hall; clear hall
  have HB := Lib.hid hb
  by_cases hlt : k < n
  · obtain ⟨b, off, A0, n0, c0, A1, n1, c1, A2, n2, c2, x, rfl, hbB, hx, ⟨d0, d1, d2, d3, d4⟩, r0, r1, r2⟩ := (HL.out wr hb).atR hlt
    have hki : (k : Int) < (n : Int) := by omega
    have hk0 : (0 : Int) ≤ (k : Int) := by omega
    have Hx := Lib.hid hx; clear hx
    have HW := Lib.hid (lrow_any x.b.s x.b.t N A0 A1 A2 n0 c0 n1 c1 n2 c2 B1 B2 x.a x.b.l x.b.m wr r0 r1 r2 (G1.out wr hb) (G2.out wr hb))
    have hcap0 := r0.caps
    have hcap1 := r1.caps
    have hcap2 := r2.caps
    have hok : rowF N ⟨x.a, ⟨x.b.s, x.b.l, x.b.t, x.b.m⟩⟩ = rowF N x := rfl
    rw [hok] at HW
    clear hok r0 r1 r2 hb hl
    cases hin : rowF N x
    · rw [hin] at HW
      have Hno := Lib.hid (show l.all (rowF N) = false by
       exact ZL102)
      clear hin
      go_wp2_with (go_at_call 47; refine HW.out.mono ?_; rintro e w1 ⟨rfl, hb1⟩)
      exact ZL79
    · rw [hin] at HW
      have Hin := Lib.hid hin
      clear hin
      go_wp2_with (go_at_call 47; refine HW.out.mono ?_; rintro e w1 ⟨rfl, hb1⟩)
      exact ZL33
  · have e : k = n := by omega
    subst e
    have Hyes := Lib.hid (show l.all (rowF N) = true by
     rw [List.all_eq_true]
     intro x hx
     obtain ⟨j, hj, rfl⟩ := List.mem_iff_getElem.1 hx
     exact Hall.out j _ (by rw [Hlen.out] at hj; exact hj) (List.getElem?_eq_getElem hj))
    clear hb hl
    go_wp2
    go_ret
    exact ⟨-1, rfl, by omega, by omega, by rw [Hyes.out]; rfl, HB.out⟩
theorem conRow_any (N : Int) (B1 B2 : Nat) (A : Option Addr) (n cap : Nat) (l : List Rv) (w : World) (hl : RdR w w.heap.size A n cap l) (g1 : w.cell? ⟨B1, 0, none⟩ = some (.int .i64 N)) (g2 : w.cell? ⟨B2, 0, none⟩ = some (.func (.func 44) #[] #[])) :
 Calls Tryz.prog 46 #[.slice A n cap, .func (.func 47) #[] #[.pointer (some ⟨B1, 0, none⟩), .pointer (some ⟨B2, 0, none⟩)]] w fun e w' => e = .returned (.bool (!l.all (rowF N))) ∧ Below w.heap.size w w' := by
 have Hidx := Lib.hid (idxRow_any N B1 B2 A n cap l w hl g1 g2)
 clear hl g1 g2
 generalize l.all (rowF N) = b at *
 go_enter Tryz.func46, Tryz.ntmps46
 go_wp2_with (go_at_call 100; refine Hidx.out.mono ?_; rintro e w1 ⟨i, rfl, hi1, hi2, hi3, hb⟩)
 go_ret
 exact ⟨rfl, hb⟩
def rightL (N : Int) (l : List Rv) : Bool := decide (0 ≤ N ∧ N ≤ 40 ∧ (l.length : Int) = N) && l.all (rowF N)
theorem fun_size : (Tryz.prog.info? 72).map (·.size) = some 1 := by kernel_rfl
theorem lright_any (N : Int) (A : Option Addr) (n cap : Nat) (l : List Rv) (w : World) (hl : RdR w w.heap.size A n cap l) :
 Calls Tryz.prog 15 #[.slice A n cap, .int .i64 N] w fun e w' => e = .returned (.bool (rightL N l)) ∧ Below w.heap.size w w' := by
 have hlen := hl.len
 have hcap := hl.caps
 have hb1 := (Below.refl w.heap.size w).alloc (Nat.le_refl _) (.cells #[.int .i64 N] 3)
 have hR : rightL N l = (decide (0 ≤ N ∧ N ≤ 40 ∧ (n : Int) = N) && l.all (rowF N)) := by unfold rightL; rw [hlen]
 rw [hR]
 clear hR hlen
 by_cases h1 : N < 0
 · have hd : decide (N < 0) = true := decide_eq_true h1
   rw [decide_eq_false (by omega), Bool.false_and]
   clear h1
   go_enter Tryz.func15, Tryz.ntmps15
   go_wp2
   go_ret
   exact ⟨rfl, hb1⟩
 have hd : decide (N < 0) = false := decide_eq_false h1
 by_cases h2 : 40 < N
 · have hd2 : decide (40 < N) = true := decide_eq_true h2
   rw [decide_eq_false (by omega), Bool.false_and]
   clear h1 h2
   go_enter Tryz.func15, Tryz.ntmps15
   go_wp2
   go_ret
   exact ⟨rfl, hb1⟩
 have hd2 : decide (40 < N) = false := decide_eq_false h2
 by_cases h3 : (n : Int) = N
 case neg =>
  have hd3 : ((n : Int) != N) = true := by simp [h3]
  rw [decide_eq_false (by omega), Bool.false_and]
  clear h1 h2 h3
  go_enter Tryz.func15, Tryz.ntmps15
  go_wp2
  go_ret
  exact ⟨rfl, hb1⟩
 have hd3 : ((n : Int) != N) = false := by simp [h3]
 rw [decide_eq_true (by omega), Bool.true_and]
 clear h1 h2 h3
 have HC := Lib.hid (fun b0 b1 W (K : St w [(b1, #[.func (.func 44) #[] #[]], 72), (b0, #[.int .i64 N], 3)] [] W) => conRow_any N b0 b1 A n cap l W (hl.up rE_lasts K.1) ((K.blk (b := b0) ZMB).cell rfl) ((K.blk (b := b1) ZMB).cell rfl))
 have z1 : (w.alloc (.cells #[.int .i64 N] 3)).heap.size = w.heap.size + 1 := by simp
 have K := ((St.start w).new #[.int .i64 N] 3).new #[.nilFunc] 72
 rw [z1] at K
 have r := K.rawS
 clear hl z1
 go_enter Tryz.func15, Tryz.ntmps15
 go_wp2_with (refine K.store1 (b := w.heap.size + 1) (off := 0) rfl rfl _ _ _ rfl (.func (.func 44) #[] #[]) rfl rfl rfl (Upd.head _) rfl fun_size (by simp) rfl ?_; clear K r; intro W K)
 refine (HC.out _ _ _ K).mono ?_
 rintro e W' ⟨rfl, hb⟩
 replace K := K.keep hb
 clear hb
 go_wp2
 go_ret
 exact ⟨by simp, K.1⟩
theorem ZL25 {p : Prop} (h : p := by
 first
  | (go_enter Tryz.func127, Tryz.ntmps127
     go_wp2_with (first | ((first | (apply K.alloc; rfl; rfl; exact frac_zero) | (apply K.box; rfl; rfl; rfl)); clear K r c2; intro W b K; have r := K.rawS; (try (have c2 := (K.blk (by repeat (first | exact HM.out | with_reducible apply List.mem_cons_of_mem))).cell (j := 2) (u := .bool _) rfl))) | (apply K.storeA; rfl; rfl; rfl; rfl; rfl; (exact ZUP); exact frac_size; rfl; rfl; rfl; clear K r; intro W K; have r := K.rawS) | (apply K.storeB; rfl; rfl; rfl; rfl; rfl; (repeat (with_reducible apply Upd.tail)); exact HU.out; rfl; exact bool_size; (show 2 < 3; omega); clear K r c2; intro W K; have r := K.rawS))
     exact bodyPost_ret (v := .agg #[.int .i64 s, .slice A1 n1 c1, .int .i64 t, .slice B1 m1 d1]) (by simp [results, Tryz.results127, go_sem, r]) rfl ⟨rfl, K.part (List.sublist_append_right [_, _] L')⟩)
  | fail) : p := h
theorem bool_size : (Tryz.prog.info? 4).map (·.size) = some 1 := by kernel_rfl
theorem slf_size : (Tryz.prog.info? 23).map (·.size) = some 1 := by kernel_rfl
theorem lnote_any (w0 W : World) (L L' : List Blk) (D : List Hl) (mb : Nat) (A : Option Addr) (nn cc : Nat) (n : Int) (b b' : Bool) (er : Int) (s t : Int) (A1 B1 : Option Addr) (n1 c1 m1 d1 : Nat) (K : St w0 L D W) (hb : b' = (b || er != 0)) (hU : Upd mb #[.slice A nn cc, .int .i64 n, .bool b] 67 #[.slice A nn cc, .int .i64 n, .bool b'] L L') :
 Calls Tryz.prog 127 #[.pointer (some ⟨mb, 0, none⟩), .agg #[.int .i64 s, .slice A1 n1 c1, .int .i64 t, .slice B1 m1 d1], .int .i64 er] W fun e W' => e = .returned (.agg #[.int .i64 s, .slice A1 n1 c1, .int .i64 t, .slice B1 m1 d1]) ∧ St w0 L' D W' := by
 have HM := Lib.hid hU.mem
 have HU := Lib.hid hU
 have c2 := (K.blk HM.out).cell (j := 2) (u := .bool b) rfl
 have r := K.raw
 clear hU
 subst hb
 cases b
 · rw [Bool.false_or] at HU
   exact ZL25
 · rw [Bool.true_or] at HU
   exact ZL25
end Go.Proofs.YtdlcglndhhndpaaGreat
