/- Laws and walks; conditions stand in each theorem. -/
import Derived.Test.YtdlcglndhhndpaaGreatP12
import Derived.Test.YtdlcglndhhndpaaGreatP17
import Derived.Test.YtdlcglndhhndpaaGreatP19
set_option linter.unusedSimpArgs false
set_option linter.unusedVariables false
set_option maxHeartbeats 2000000
set_option maxRecDepth 100000
namespace Go.Proofs.YtdlcglndhhndpaaGreat
open Go.RowKit
def ixI : Option Nat → Int
 | none => -1
 | some i => (i : Int)
theorem lstP_no {f : Nat → Nat} {ch : Nat → Bool} {k : Nat} (h : ch k = false) : lstP f ch (k + 1) = lstP f ch k := by
 rw [lstP]
 cases lstP f ch k <;> simp [h]
theorem lstP_new {f : Nat → Nat} {ch : Nat → Bool} {k : Nat} (h : ch k = true) (hp : lstP f ch k = none) : lstP f ch (k + 1) = some k := by
 rw [lstP, hp]
 simp [h]
theorem lstP_less {f : Nat → Nat} {ch : Nat → Bool} {k i : Nat} (h : ch k = true) (hp : lstP f ch k = some i) : lstP f ch (k + 1) = if f k < f i then some k else some i := by
 rw [lstP, hp]
 simp [h]
theorem enter_s1 : ∀ (args : Array Value) (V : World), (callFunc 114 args).run Tryz.prog V = .ok (.enter 114 args) V := fun args V => by go_simp
theorem enter_s2 : ∀ (args : Array Value) (V : World), (callFunc 115 args).run Tryz.prog V = .ok (.enter 115 args) V := fun args V => by go_simp
theorem enter_s3 : ∀ (args : Array Value) (V : World), (callFunc 116 args).run Tryz.prog V = .ok (.enter 116 args) V := fun args V => by go_simp
theorem enter_s4 : ∀ (args : Array Value) (V : World), (callFunc 117 args).run Tryz.prog V = .ok (.enter 117 args) V := fun args V => by go_simp
theorem gi_ofF {f : Nat → Int} {n i : Nat} (h : i < n) : gi (ofF n f) i = f i := by
 unfold gi
 rw [List.getD_eq_getElem?_getD, ofF_get h]
 rfl
theorem least_any (F : FuncId) (caps : Array Value) (A : Option Addr) (n cap : Nat) (f : Nat → Nat) (ch : Nat → Bool) (w0 W : World) (L : List Blk) (D : List Hl) (K : St w0 L D W) (hn : n ≤ 1000000)
 (hF : ∀ (args : Array Value) (V : World), (callFunc F args).run Tryz.prog V = .ok (.enter F args) V)
 (hR : ∀ V, St w0 L D V → RdI V V.heap.size A n cap (ofF n fun i => ((f i : Nat) : Int)))
 (HC : ∀ V, St w0 L D V → ∀ i, i < n → Calls Tryz.prog F (#[.int .i64 (i : Int)] ++ caps) V fun e V' => e = .returned (.bool (ch i)) ∧ St w0 L D V') :
 Calls Tryz.prog 113 #[.slice A n cap, .func (.func F) #[] caps] W fun e W' => e = .returned (.int .i64 (ixI (lstP f ch n))) ∧ St w0 L D W' := by
 have HCm := Lib.hid HC
 have HF := Lib.hid hF
 have HR := Lib.hid hR
 have hcap := (hR W K).caps
 clear HC hR hF
 go_enter Tryz.func113, Tryz.ntmps113
 go_wp2_with fail
 go_loopg [5, 10] n (fun gk s5 s10 wr => ∃ (k : Nat) (o : Option Nat), k ≤ n ∧ gk = n - k ∧ s5 = .int .i64 (ixI o) ∧ s10 = .int .i64 k ∧ Hid (lstP f ch k = o) ∧ St w0 L D wr)
 case atStart => exact ⟨0, none, Nat.zero_le _, rfl, rfl, rfl, Lib.hid rfl, K⟩
 case round =>
  clear K
  obtain ⟨k, o, hk, rfl, rfl, rfl, HO, K⟩ := hrel
  by_cases hlt : k < n
  · have hki : (k : Int) < (n : Int) := by omega
    have hk0 : (0 : Int) ≤ (k : Int) := by omega
    obtain ⟨vb, vo, hA, hvb, hc⟩ := RdI.cellAt (HR.out _ K) hlt
    subst hA
    rw [gi_ofF hlt] at hc
    cases hch : ch k
    · have HO2 := Lib.hid ((lstP_no hch).trans HO.out)
      have HC1 := Lib.hid (fun V (h : St w0 L D V) => by
       have := HCm.out V h k hlt
       rw [hch] at this
       exact this)
      clear HCm hch
      go_wp2_with (rw [HF.out, Oper.upon_enter]; refine (HC1.out _ K).mono ?_; rintro e W1 ⟨rfl, K1⟩)
      go_roundg (n - (k + 1))
      case rel => exact ⟨k + 1, o, hlt, rfl, rfl, by go_num, HO2, K1⟩
      case measure => omega
    · have HC1 := Lib.hid (fun V (h : St w0 L D V) => by
       have := HCm.out V h k hlt
       rw [hch] at this
       exact this)
      clear HCm
      cases o with
      | none =>
       have HO2 := Lib.hid (lstP_new hch HO.out)
       rw [show ixI none = -1 from rfl]
       clear hch HO
       go_wp2_with (rw [HF.out, Oper.upon_enter]; refine (HC1.out _ K).mono ?_; rintro e W1 ⟨rfl, K1⟩)
       go_roundg (n - (k + 1))
       case rel => exact ⟨k + 1, some k, hlt, rfl, rfl, by go_num, HO2, K1⟩
       case measure => omega
      | some i =>
       have hin : i < n := by have := (lstP_some HO.out).1; omega
       have HCi := Lib.hid (fun V (h : St w0 L D V) => by
        obtain ⟨vb', vo', hA', hvb', hc'⟩ := RdI.cellAt (HR.out _ h) hin
        cases hA'
        rw [gi_ofF hin] at hc'
        exact hc')
       have hi0 : ¬ (i : Int) < 0 := by omega
       have hi1 : (0 : Int) ≤ (i : Int) := by omega
       have hi2 : (i : Int) < (n : Int) := by omega
       have hi3 : decide ((i : Int) < 0) = false := decide_eq_false hi0
       rw [show ixI (some i) = (i : Int) from rfl]
       by_cases hc2 : f k < f i
       · have HO2 := Lib.hid ((lstP_less hch HO.out).trans (if_pos hc2))
         have hc3 : (f k : Int) < (f i : Int) := by omega
         clear hch HO hc2
         go_wp2_with (rw [HF.out, Oper.upon_enter]; refine (HC1.out _ K).mono ?_; rintro e W1 ⟨rfl, K1⟩; have hc1 := HCi.out _ K1)
         go_roundg (n - (k + 1))
         case rel => exact ⟨k + 1, some k, hlt, rfl, rfl, by go_num, HO2, K1⟩
         case measure => omega
       · have HO2 := Lib.hid ((lstP_less hch HO.out).trans (if_neg hc2))
         have hc3 : ¬ (f k : Int) < (f i : Int) := by omega
         have hc4 : decide ((f k : Int) < (f i : Int)) = false := decide_eq_false hc3
         clear hch HO hc2
         go_wp2_with (rw [HF.out, Oper.upon_enter]; refine (HC1.out _ K).mono ?_; rintro e W1 ⟨rfl, K1⟩; have hc1 := HCi.out _ K1)
         go_roundg (n - (k + 1))
         case rel => exact ⟨k + 1, some i, hlt, rfl, rfl, by go_num, HO2, K1⟩
         case measure => omega
  · have e : n = k := by omega
    subst e
    have HE := Lib.hid (show Ending.returned (.int .i64 (ixI o)) = .returned (.int .i64 (ixI (lstP f ch n))) ∧ St w0 L D wr from ⟨by rw [HO.out], K⟩)
    clear HO K hlt HCm HR
    go_wp2_with fail
    go_ret
    exact HE.out
theorem ZQ32 {p : Prop} (h : p := by
 first
  | (go_enter Tryz.func121, Tryz.ntmps121
     go_wp2_with (first | (first | (refine ZAL ?_; clear K r; intro W b K r) | (refine ZST ?_; clear K r; intro W K r)) | (go_at_call 71; refine (HR.out _ ZRD ZRD).mono ?_; rintro e W' ⟨rfl, hb⟩; replace K := K.keep hb; clear hb r; have r := K.rawS))
     go_ret
     exact ⟨rfl, K.1⟩)
  | fail) : p := h
theorem ZQ63 {p : Prop} (h : p := by
 first
  | (go_roundg (n - (k + 1))
     case rel => exact ⟨k + 1, by omega, rfl, by go_num, (fun j y hj hy => by
      by_cases e : j = k
      · subst e; rw [Hx.out] at hy; cases hy; exact Hin.out
      · exact Hall.out j y (by omega) hy), HB.out.trans (hb1.mono HB.out.size)⟩
     case measure => omega)
  | fail) : p := h
theorem ZQ93 {p : Prop} (h : p := by
 first
  | (rw [List.all_eq_true]
     intro x hx
     obtain ⟨j, hj, rfl⟩ := List.mem_iff_getElem.1 hx
     exact Hall.out j _ (by rw [Hlen.out] at hj; exact hj) (List.getElem?_eq_getElem hj))
  | fail) : p := h
theorem pwrong_any (s t : Int) (A A' : Option Addr) (n cap n' cap' : Nat) (l m : List Int) (w : World) (hl : RdI w w.heap.size A n cap l) (hm : RdI w w.heap.size A' n' cap' m) :
 Calls Tryz.prog 71 #[.agg #[.int .i64 s, .slice A n cap, .int .i64 t, .slice A' n' cap']] w fun e w' => e = .returned (.bool (!rightF s l t m)) ∧ Below w.heap.size w w' := by
 have K := ((St.start w).oldRd hl).oldRd hm
 have r := K.raw
 have HR := Lib.hid (fun W h g => fRight_any s t A A' n cap n' cap' l m W h g)
 clear hl hm
 generalize rightF s l t m = R at *
 go_enter Tryz.func71, Tryz.ntmps71
 go_wp2_with (first | (refine ZAL ?_; clear K r; intro W b K r) | (refine ZST ?_; clear K r; intro W K r))
 refine (HR.out _ ZRD ZRD).mono ?_
 rintro e W' ⟨rfl, hb⟩
 replace K := K.keep hb
 clear r
 have r := K.rawS
 clear hb
 go_wp2
 go_ret
 exact ⟨rfl, K.1⟩
def fnF (x : Fv) : Bool := x.ok && !decide (x.s < 0)
theorem fine1_any (s t : Int) (A A' : Option Addr) (n cap n' cap' : Nat) (l m : List Int) (w : World) (hl : RdI w w.heap.size A n cap l) (hm : RdI w w.heap.size A' n' cap' m) :
 Calls Tryz.prog 121 #[.agg #[.int .i64 s, .slice A n cap, .int .i64 t, .slice A' n' cap']] w fun e w' => e = .returned (.bool (!fnF ⟨s, l, t, m⟩)) ∧ Below w.heap.size w w' := by
 have K := ((St.start w).oldRd hl).oldRd hm
 have r := K.raw
 have HR := Lib.hid (fun W h g => pwrong_any s t A A' n cap n' cap' l m W h g)
 have e0 : fnF ⟨s, l, t, m⟩ = (rightF s l t m && !decide (s < 0)) := rfl
 rw [e0]
 clear hl hm e0
 generalize rightF s l t m = R at *
 cases R
 · exact ZQ32
 · rw [Bool.true_and]
   by_cases hs : s < 0
   · have hd : decide (s < 0) = true := decide_eq_true hs
     rw [hd]
     exact ZQ32
   · have hd : decide (s < 0) = false := decide_eq_false hs
     rw [hd]
     exact ZQ32
theorem idxW_any (A : Option Addr) (n cap : Nat) (l : List Fv) (w : World) (hl : RdF w w.heap.size A n cap l) :
 Calls Tryz.prog 101 #[.slice A n cap, .func (.func 71) #[] #[]] w (IdxF w (l.all Fv.ok)) := by
 have hcaps := hl.caps
 have hlen := hl.len
 have eg := enters_of Tryz.func71 (by kernel_rfl) rfl
 have Hlen := Lib.hid hlen; clear hlen
 have HL := Lib.hid (fun W (h : Below w.heap.size w W) => hl.up fE_lasts h)
 go_enter Tryz.func101, Tryz.ntmps101
 go_wp2
 go_loopg [8] n (fun gk i wr => ∃ k : Nat, k ≤ n ∧ gk = n - k ∧ i = .int .i64 k ∧ (∀ j x, j < k → l[j]? = some x → x.ok = true) ∧ Below w.heap.size w wr)
 case atStart => exact ⟨0, Nat.zero_le _, rfl, rfl, (fun j x h => absurd h (by omega)), Below.refl _ _⟩
 case round =>
  obtain ⟨k, hk, rfl, rfl, hall, hb⟩ := hrel
  have Hall := Lib.hid hall; clear hall
  have HB := Lib.hid hb
  by_cases hlt : k < n
  · obtain ⟨b, off, A1, n1, c1, A2, n2, c2, x, rfl, hbB, hx, ⟨d0, d1, d2, d3⟩, r1, r2⟩ := (HL.out wr hb).atF hlt
    have hki : (k : Int) < (n : Int) := by omega
    have hk0 : (0 : Int) ≤ (k : Int) := by omega
    have Hx := Lib.hid hx; clear hx
    have HW := Lib.hid (pwrong_any x.s x.t A1 A2 n1 c1 n2 c2 x.l x.m wr r1 r2)
    have hcap1 := r1.caps
    have hcap2 := r2.caps
    have hok : rightF x.s x.l x.t x.m = x.ok := rfl
    rw [hok] at HW
    clear hok r1 r2 hb hl
    cases hin : x.ok
    · rw [hin] at HW
      have Hno := Lib.hid (show l.all Fv.ok = false by
       rw [List.all_eq_false]; exact ⟨x, List.mem_of_getElem? Hx.out, by simp [hin]⟩)
      clear hin
      go_wp2_with (go_at_call 71; refine HW.out.mono ?_; rintro e w1 ⟨rfl, hb1⟩)
      go_ret
      exact ⟨(k : Int), rfl, by omega, by omega, by rw [Hno.out]; simp, HB.out.trans (hb1.mono HB.out.size)⟩
    · rw [hin] at HW
      have Hin := Lib.hid hin
      clear hin
      go_wp2_with (go_at_call 71; refine HW.out.mono ?_; rintro e w1 ⟨rfl, hb1⟩)
      exact ZQ63
  · have e : k = n := by omega
    subst e
    have Hyes := Lib.hid (show l.all Fv.ok = true by
     exact ZQ93)
    clear hb hl
    go_wp2
    go_ret
    exact ⟨-1, rfl, by omega, by omega, by rw [Hyes.out]; rfl, HB.out⟩
theorem conW_any (A : Option Addr) (n cap : Nat) (l : List Fv) (w : World) (hl : RdF w w.heap.size A n cap l) :
 Calls Tryz.prog 48 #[.slice A n cap, .func (.func 71) #[] #[]] w fun e w' => e = .returned (.bool (!l.all Fv.ok)) ∧ Below w.heap.size w w' := by
 have Hidx := Lib.hid (idxW_any A n cap l w hl)
 clear hl
 generalize l.all Fv.ok = b at *
 go_enter Tryz.func48, Tryz.ntmps48
 go_wp2_with (go_at_call 101; refine Hidx.out.mono ?_; rintro e w1 ⟨i, rfl, hi1, hi2, hi3, hb⟩)
 go_ret
 exact ⟨rfl, hb⟩
theorem idxN_any (A : Option Addr) (n cap : Nat) (l : List Fv) (w : World) (hl : RdF w w.heap.size A n cap l) :
 Calls Tryz.prog 101 #[.slice A n cap, .func (.func 121) #[] #[]] w (IdxF w (l.all fnF)) := by
 have hcaps := hl.caps
 have hlen := hl.len
 have eg := enters_of Tryz.func121 (by kernel_rfl) rfl
 have Hlen := Lib.hid hlen; clear hlen
 have HL := Lib.hid (fun W (h : Below w.heap.size w W) => hl.up fE_lasts h)
 go_enter Tryz.func101, Tryz.ntmps101
 go_wp2
 go_loopg [8] n (fun gk i wr => ∃ k : Nat, k ≤ n ∧ gk = n - k ∧ i = .int .i64 k ∧ (∀ j x, j < k → l[j]? = some x → fnF x = true) ∧ Below w.heap.size w wr)
 case atStart => exact ⟨0, Nat.zero_le _, rfl, rfl, (fun j x h => absurd h (by omega)), Below.refl _ _⟩
 case round =>
  obtain ⟨k, hk, rfl, rfl, hall, hb⟩ := hrel
  have Hall := Lib.hid hall; clear hall
  have HB := Lib.hid hb
  by_cases hlt : k < n
  · obtain ⟨b, off, A1, n1, c1, A2, n2, c2, x, rfl, hbB, hx, ⟨d0, d1, d2, d3⟩, r1, r2⟩ := (HL.out wr hb).atF hlt
    have hki : (k : Int) < (n : Int) := by omega
    have hk0 : (0 : Int) ≤ (k : Int) := by omega
    have Hx := Lib.hid hx; clear hx
    have HW := Lib.hid (fine1_any x.s x.t A1 A2 n1 c1 n2 c2 x.l x.m wr r1 r2)
    have hcap1 := r1.caps
    have hcap2 := r2.caps
    have hok : fnF ⟨x.s, x.l, x.t, x.m⟩ = fnF x := rfl
    rw [hok] at HW
    clear hok r1 r2 hb hl
    cases hin : fnF x
    · rw [hin] at HW
      have Hno := Lib.hid (show l.all fnF = false by
       rw [List.all_eq_false]; exact ⟨x, List.mem_of_getElem? Hx.out, by simp [hin]⟩)
      clear hin
      go_wp2_with (go_at_call 121; refine HW.out.mono ?_; rintro e w1 ⟨rfl, hb1⟩)
      go_ret
      exact ⟨(k : Int), rfl, by omega, by omega, by rw [Hno.out]; simp, HB.out.trans (hb1.mono HB.out.size)⟩
    · rw [hin] at HW
      have Hin := Lib.hid hin
      clear hin
      go_wp2_with (go_at_call 121; refine HW.out.mono ?_; rintro e w1 ⟨rfl, hb1⟩)
      exact ZQ63
  · have e : k = n := by omega
    subst e
    have Hyes := Lib.hid (show l.all fnF = true by
     exact ZQ93)
    clear hb hl
    go_wp2
    go_ret
    exact ⟨-1, rfl, by omega, by omega, by rw [Hyes.out]; rfl, HB.out⟩
theorem conN_any (A : Option Addr) (n cap : Nat) (l : List Fv) (w : World) (hl : RdF w w.heap.size A n cap l) :
 Calls Tryz.prog 48 #[.slice A n cap, .func (.func 121) #[] #[]] w fun e w' => e = .returned (.bool (!l.all fnF)) ∧ Below w.heap.size w w' := by
 have Hidx := Lib.hid (idxN_any A n cap l w hl)
 clear hl
 generalize l.all fnF = b at *
 go_enter Tryz.func48, Tryz.ntmps48
 go_wp2_with (go_at_call 101; refine Hidx.out.mono ?_; rintro e w1 ⟨i, rfl, hi1, hi2, hi3, hb⟩)
 go_ret
 exact ⟨rfl, hb⟩
theorem fine_any (A : Option Addr) (n cap k : Nat) (l : List Fv) (w : World) (hl : RdF w w.heap.size A n cap l) :
 Calls Tryz.prog 73 #[.slice A n cap, .int .i64 k] w fun e w' => e = .returned (.bool (decide (n = k) && l.all fnF)) ∧ Below w.heap.size w w' := by
 have HC := Lib.hid (fun W (h : Below w.heap.size w W) => conN_any A n cap l W (hl.up fE_lasts h))
 have hcaps := hl.caps
 clear hl
 generalize l.all fnF = R at *
 have K := St.start w
 by_cases hk : n = k
 · subst hk
   rw [decide_eq_true rfl, Bool.true_and]
   go_enter Tryz.func73, Tryz.ntmps73
   go_wp2_with (go_at_call 48; refine (HC.out _ K.1).mono ?_; rintro e W' ⟨rfl, hb⟩)
   go_ret
   exact ⟨rfl, hb⟩
 · rw [decide_eq_false hk, Bool.false_and]
   have hk2 : ¬ (n : Int) = (k : Int) := by omega
   have hk3 : decide ((n : Int) = (k : Int)) = false := decide_eq_false hk2
   have hk4 : ((n : Int) == (k : Int)) = false := by simp; omega
   go_enter Tryz.func73, Tryz.ntmps73
   go_wp2_with fail
   go_ret
   exact ⟨rfl, K.1⟩
theorem pright_any (A A' : Option Addr) (n cap m cap' : Nat) (l : List Fv) (ls : List Rv) (w : World) (hl : RdF w w.heap.size A n cap l) (hr : RdR w w.heap.size A' m cap' ls) (hn : n ≤ 20) (hm : m ≤ 40) :
 Calls Tryz.prog 26 #[.agg #[.slice A n cap, .slice A' m cap']] w fun e w' => e = .returned (.bool (l.all Fv.ok && ls.all (rowF n))) ∧ Below w.heap.size w w' := by
 have HC := Lib.hid (fun W (h : Below w.heap.size w W) => conW_any A n cap l W (hl.up fE_lasts h))
 have HL := Lib.hid hr
 have hcap := hl.caps
 have hcap' := hr.caps
 have hlen := Lib.hid hr.len
 clear hl hr
 generalize l.all Fv.ok = R at *
 have h20 : decide ((n : Int) > 20) = false := decide_eq_false (by omega)
 have h40 : decide ((m : Int) > 40) = false := decide_eq_false (by omega)
 have g20 : ¬ (n : Int) > 20 := by omega
 have g40 : ¬ (m : Int) > 40 := by omega
 have K := St.start w
 have r := K.raw
 cases R
 · rw [Bool.false_and]
   go_enter Tryz.func26, Tryz.ntmps26
   go_wp2_with (first | (first | (apply K.box; rfl; rfl; rfl; clear K r; intro W b0 K; have r := K.rawS) | (apply K.alloc; rfl; rfl; exact row_zero; clear K r; intro W b1 K; have r := K.rawS) | (apply K.storeA; rfl; rfl; rfl; rfl; rfl; (exact ZUP); exact row_size; rfl; rfl; rfl; clear K r; intro W K; have r := K.rawS)) | (go_at_call 48; refine (HC.out _ K.1).mono ?_; rintro e W' ⟨rfl, hb⟩; replace K := K.keep hb; clear hb r; have r := K.rawS))
   go_ret
   exact ⟨rfl, K.1⟩
 · rw [Bool.true_and]
   go_enter Tryz.func26, Tryz.ntmps26
   go_wp2_with (first | (first | (apply K.box; rfl; rfl; rfl; clear K r; intro W b0 K; have r := K.rawS) | (apply K.alloc; rfl; rfl; exact row_zero; clear K r; intro W b1 K; have r := K.rawS) | (apply K.storeA; rfl; rfl; rfl; rfl; rfl; (exact ZUP); exact row_size; rfl; rfl; rfl; clear K r; intro W K; have r := K.rawS)) | (go_at_call 48; refine (HC.out _ K.1).mono ?_; rintro e W' ⟨rfl, hb⟩; replace K := K.keep hb; clear hb r; have r := K.rawS))
   go_loopg [23] m (fun gk s23 wr => ∃ k : Nat, k ≤ m ∧ gk = m - k ∧ s23 = .int .i64 k ∧ Hid (∀ j x, j < k → ls[j]? = some x → rowF n x = true) ∧ St w [(b0, #[.slice A n cap, .slice A' m cap'], 38)] [] wr)
   case atStart => exact ⟨0, Nat.zero_le _, rfl, rfl, Lib.hid (fun j x h => absurd h (by omega)), K⟩
   case round =>
    clear K r
    obtain ⟨k, hk, rfl, rfl, HA, K⟩ := hrel
    by_cases hlt : k < m
    · obtain ⟨eb, eo, A0, n0, c0, A1, n1, c1, A2, n2, c2, x, hA, hbB, hx, ⟨z0, z1, z2, z3, z4⟩, r0, r1, r2⟩ := HL.out.atR hlt
      subst hA
      have hki : (k : Int) < (m : Int) := by omega
      have hk0 : (0 : Int) ≤ (k : Int) := by omega
      have Hx := Lib.hid hx
      have hRF : rowF n x = ((decide ((n0 : Int) = n) && x.b.ok) && x.a.all Fv.ok) := by
       unfold rowF
       rw [r0.len]
      have Hno := Lib.hid (fun (h : rowF n x = false) => (show ls.all (rowF n) = false from by
       rw [List.all_eq_false]; exact ⟨x, List.mem_of_getElem? Hx.out, by simp [h]⟩))
      have HW := Lib.hid (fun W (h : Below w.heap.size w W) => (pwrong_any x.b.s x.b.t A1 A2 n1 c1 n2 c2 x.b.l x.b.m W (r1.up (flat_lasts _) h) (r2.up (flat_lasts _) h) : Calls Tryz.prog 71 _ W fun e w' => e = .returned (.bool (!x.b.ok)) ∧ Below W.heap.size W w'))
      have hok : rightF x.b.s x.b.l x.b.t x.b.m = x.b.ok := rfl
      rw [hok] at HW
      clear hok
      have HR := Lib.hid (fun W (h : Below w.heap.size w W) => conW_any A0 n0 c0 x.a W (r0.up fE_lasts h))
      have y0 := (K.1.cell (p := ⟨eb, eo + k * 5, none⟩) hbB).trans z0
      have y1 := (K.1.cell (p := ⟨eb, eo + k * 5 + 1, none⟩) hbB).trans z1
      have y2 := (K.1.cell (p := ⟨eb, eo + k * 5 + 2, none⟩) hbB).trans z2
      have y3 := (K.1.cell (p := ⟨eb, eo + k * 5 + 3, none⟩) hbB).trans z3
      have y4 := (K.1.cell (p := ⟨eb, eo + k * 5 + 4, none⟩) hbB).trans z4
      have hc0 := r0.caps
      have hc1 := r1.caps
      have hc2 := r2.caps
      clear hx z0 z1 z2 z3 z4 r0 r1 r2
      have r := K.rawS
      by_cases hn0 : (n0 : Int) = (n : Int)
      · have hd : ((n0 : Int) != (n : Int)) = false := by simp [hn0]
        rw [decide_eq_true hn0, Bool.true_and] at hRF
        clear hn0
        cases hS : x.a.all Fv.ok
        · rw [hS, Bool.and_false] at hRF
          have HF := Lib.hid (Hno.out hRF)
          rw [hS] at HR
          clear hRF hS Hno
          go_wp2_with (first | (first | (apply K.box; rfl; rfl; rfl; clear K r; intro W b0 K; have r := K.rawS) | (apply K.alloc; rfl; rfl; exact row_zero; clear K r; intro W b1 K; have r := K.rawS) | (apply K.storeA; rfl; rfl; rfl; rfl; rfl; (exact ZUP); exact row_size; rfl; rfl; rfl; clear K r; intro W K; have r := K.rawS)) | (go_at_call 48; refine (HR.out _ K.1).mono ?_; rintro e W' ⟨rfl, hb⟩; replace K := K.keep hb; clear hb r; have r := K.rawS))
          go_ret
          exact ⟨by rw [HF.out]; rfl, K.1⟩
        · rw [hS, Bool.and_true] at hRF
          rw [hS] at HR
          clear hS
          cases hV : x.b.ok
          · rw [hV] at hRF HW
            have HF := Lib.hid (Hno.out hRF)
            clear hRF hV Hno
            go_wp2_with (first | (first | (apply K.box; rfl; rfl; rfl; clear K r; intro W b0 K; have r := K.rawS) | (apply K.alloc; rfl; rfl; exact row_zero; clear K r; intro W b1 K; have r := K.rawS) | (apply K.storeA; rfl; rfl; rfl; rfl; rfl; (exact ZUP); exact row_size; rfl; rfl; rfl; clear K r; intro W K; have r := K.rawS)) | (go_at_call 48; refine (HR.out _ K.1).mono ?_; rintro e W' ⟨rfl, hb⟩; replace K := K.keep hb; clear hb r; have r := K.rawS) | (go_at_call 71; refine (HW.out _ K.1).mono ?_; rintro e W' ⟨rfl, hb⟩; replace K := K.keep hb; clear hb r; have r := K.rawS))
            go_ret
            exact ⟨by rw [HF.out]; rfl, K.1⟩
          · rw [hV] at hRF HW
            have HY := Lib.hid (show ∀ j y, j < k + 1 → ls[j]? = some y → rowF n y = true from fun j y hj hy => by
             by_cases e : j = k
             · subst e; rw [Hx.out] at hy; cases hy; exact hRF
             · exact HA.out j y (by omega) hy)
            clear hRF hV Hno HA
            go_wp2_with (first | (first | (apply K.box; rfl; rfl; rfl; clear K r; intro W b0 K; have r := K.rawS) | (apply K.alloc; rfl; rfl; exact row_zero; clear K r; intro W b1 K; have r := K.rawS) | (apply K.storeA; rfl; rfl; rfl; rfl; rfl; (exact ZUP); exact row_size; rfl; rfl; rfl; clear K r; intro W K; have r := K.rawS)) | (go_at_call 48; refine (HR.out _ K.1).mono ?_; rintro e W' ⟨rfl, hb⟩; replace K := K.keep hb; clear hb r; have r := K.rawS) | (go_at_call 71; refine (HW.out _ K.1).mono ?_; rintro e W' ⟨rfl, hb⟩; replace K := K.keep hb; clear hb r; have r := K.rawS))
            go_roundg (m - (k + 1))
            case rel => exact ⟨k + 1, hlt, rfl, by go_num, HY, K.part (List.sublist_append_right [_] _)⟩
            case measure => omega
      · have hd : ((n0 : Int) != (n : Int)) = true := by simp [hn0]
        rw [decide_eq_false hn0, Bool.false_and, Bool.false_and] at hRF
        have HF := Lib.hid (Hno.out hRF)
        clear hn0 hRF Hno
        go_wp2_with (first | (apply K.box; rfl; rfl; rfl; clear K r; intro W b0 K; have r := K.rawS) | (apply K.alloc; rfl; rfl; exact row_zero; clear K r; intro W b1 K; have r := K.rawS) | (apply K.storeA; rfl; rfl; rfl; rfl; rfl; (exact ZUP); exact row_size; rfl; rfl; rfl; clear K r; intro W K; have r := K.rawS))
        go_ret
        exact ⟨by rw [HF.out]; rfl, K.1⟩
    · have e : k = m := by omega
      subst e
      have Hyes := Lib.hid (show ls.all (rowF n) = true by
       rw [List.all_eq_true]
       intro x hx
       obtain ⟨j, hj, rfl⟩ := List.mem_iff_getElem.1 hx
       exact HA.out j _ (by rw [hlen.out] at hj; exact hj) (List.getElem?_eq_getElem hj))
      have hb := K.1
      clear K HA hlt
      go_wp2_with fail
      go_ret
      exact ⟨by rw [Hyes.out]; rfl, hb⟩
end Go.Proofs.YtdlcglndhhndpaaGreat
