/- Laws and walks; conditions stand in each theorem. -/
import Derived.Test.YtdlcglndhhndpaaGreatL40
import Derived.Test.YtdlcglndhhndpaaGreatL41
import Derived.Test.YtdlcglndhhndpaaGreatL42
import Derived.Test.YtdlcglndhhndpaaGreatL30
import Derived.Test.YtdlcglndhhndpaaGreatL08
import Derived.Test.YtdlcglndhhndpaaGreatL10
set_option linter.unusedSimpArgs false
set_option linter.unusedVariables false
set_option maxHeartbeats 8000000
set_option maxRecDepth 100000
namespace Go.Proofs.YtdlcglndhhndpaaGreat
open Go.RowKit
theorem linearTells_walk (A : Option Addr) (n cap : Nat) (l : List Rv) (N : Int) (Ax : Option Addr) (nx cx : Nat) (x : List Fv) (w : World) (hl : RdR w w.heap.size A n cap l) (hN : -9223372036854775808 ≤ N ∧ N ≤ 9223372036854775807) (hx : RdF w w.heap.size Ax nx cx x) :
 Calls Tryz.prog 3 #[.slice A n cap, .int .i64 N, .slice Ax nx cx] w fun e w' => e = .returned (.bool true) ∧ Below w.heap.size w w' := by
 have hcap := hl.caps
 have hcapx := hx.caps
 have K := ((St.start w).addR hl).addF hx
 have HF := Lib.hid (fun W h => few6_any 5 2 A n cap l W h)
 have HG := Lib.hid (fun W h => fewfracs_any 5 2 Ax nx cx x W h)
 have HS1 := Lib.hid (fun W h => lsolve_any N A n cap l W h)
 have HS2 := Lib.hid (fun W h => solve6_any N A n cap l W h)
 have HK1 := Lib.hid (fun W h => lkernel_any N A n cap l W h)
 have HK2 := Lib.hid (fun W h => kernel6_any N A n cap l W h)
 have HR1 := Lib.hid (fun W h => lrank_any N A n cap l W h)
 have HR2 := Lib.hid (fun W h => rank6_any N A n cap l W h)
 have HT1 := Lib.hid (fun W h => lright_any N A n cap l W h)
 have HT2 := Lib.hid (fun W h => right6_any N A n cap l W h)
 have HC1 := Lib.hid (fun W h h' => lcheck_any N A n cap l Ax nx cx x W h h')
 have HC2 := Lib.hid (fun W h h' => check6_any N A n cap l Ax nx cx x W h h')
 clear hl hx
 generalize (solL N l).1 = L1 at HS1 HS2
 generalize (solL N l).2 = E1 at HS1 HS2
 generalize (kerL N l).1 = L2 at HK1 HK2
 generalize (kerL N l).2 = E2 at HK1 HK2
 generalize (rankL N l).1 = E3 at HR1 HR2
 generalize (rankL N l).2 = E4 at HR1 HR2
 generalize rightL N l = E5 at HT1 HT2
 generalize checkL N l x = E6 at HC1 HC2
 go_enter Tryz.func3, Tryz.ntmps3
 go_wp2_with fail
 refine (small6_any _).mono ?_
 rintro e W ⟨rfl, hb⟩
 replace K := K.keep hb; clear hb
 cases hf : few6R 5 2 l
 · rw [hf] at HF
   go_wp2_with fail
   refine (HF.out _ (K.getR ZMB)).mono ?_
   rintro e W ⟨rfl, hb⟩
   replace K := K.keep hb; clear hb
   go_wp2_with fail
   go_ret
   exact ⟨rfl, K.1⟩
 rw [hf] at HF
 cases hg : few6L 5 2 x
 · rw [hg] at HG
   go_wp2_with fail
   refine (HF.out _ (K.getR ZMB)).mono ?_
   rintro e W ⟨rfl, hb⟩
   replace K := K.keep hb; clear hb
   go_wp2_with fail
   refine (HG.out _ (K.getQ ZMB)).mono ?_
   rintro e W ⟨rfl, hb⟩
   replace K := K.keep hb; clear hb
   go_wp2_with fail
   go_ret
   exact ⟨rfl, K.1⟩
 rw [hg] at HG
 clear hf hg
 go_wp2_with fail
 refine (HF.out _ (K.getR ZMB)).mono ?_
 rintro e W ⟨rfl, hb⟩
 replace K := K.keep hb; clear hb
 go_wp2_with fail
 refine (HG.out _ (K.getQ ZMB)).mono ?_
 rintro e W ⟨rfl, hb⟩
 replace K := K.keep hb; clear hb
 clear HF HG
 go_wp2_with fail
 refine (HS1.out _ (K.getR ZMB)).mono ?_
 rintro e W ⟨A1, c1, rfl, hr, hb⟩
 have hcap1 := hr.caps
 replace K := (K.keep hb).addF hr
 clear hb hr
 go_wp2_with fail
 refine (HS2.out _ (K.getR ZMB)).mono ?_
 rintro e W ⟨A2, c2, rfl, hr, hb⟩
 have hcap2 := hr.caps
 replace K := (K.keep hb).addF hr
 clear hb hr
 go_wp2_with fail
 refine (HK1.out _ (K.getR ZMB)).mono ?_
 rintro e W ⟨A3, c3, rfl, hr, hb⟩
 have hcap3 := hr.caps
 replace K := (K.keep hb).addF hr
 clear hb hr
 go_wp2_with fail
 refine (HK2.out _ (K.getR ZMB)).mono ?_
 rintro e W ⟨A4, c4, rfl, hr, hb⟩
 have hcap4 := hr.caps
 replace K := (K.keep hb).addF hr
 clear hb hr
 go_wp2_with fail
 refine (HR1.out _ (K.getR ZMB)).mono ?_
 rintro e W ⟨rfl, hb⟩
 replace K := K.keep hb; clear hb
 go_wp2_with fail
 refine (HR2.out _ (K.getR ZMB)).mono ?_
 rintro e W ⟨rfl, hb⟩
 replace K := K.keep hb; clear hb
 have HA1 := Lib.hid (fun W h h' => same6_any A1 A2 L1.length c1 L1.length c2 L1 L1 W h h')
 have HA2 := Lib.hid (fun W h h' => same6_any A3 A4 L2.length c3 L2.length c4 L2 L2 W h h')
 rw [decide_eq_true rfl] at HA1 HA2
 go_wp2_with fail
 refine (HT1.out _ (K.getR ZMB)).mono ?_
 rintro e W ⟨rfl, hb⟩
 replace K := K.keep hb; clear hb
 go_wp2_with fail
 refine (HT2.out _ (K.getR ZMB)).mono ?_
 rintro e W ⟨rfl, hb⟩
 replace K := K.keep hb; clear hb
 go_wp2_with fail
 refine (HA1.out _ (K.getQ ZMB) (K.getQ ZMB)).mono ?_
 rintro e W ⟨rfl, hb⟩
 replace K := K.keep hb; clear hb
 go_wp2_with fail
 refine (HA2.out _ (K.getQ ZMB) (K.getQ ZMB)).mono ?_
 rintro e W ⟨rfl, hb⟩
 replace K := K.keep hb; clear hb
 go_wp2_with fail
 refine (HC1.out _ (K.getR ZMB) (K.getQ ZMB)).mono ?_
 rintro e W ⟨rfl, hb⟩
 replace K := K.keep hb; clear hb
 go_wp2_with fail
 refine (HC2.out _ (K.getR ZMB) (K.getQ ZMB)).mono ?_
 rintro e W ⟨rfl, hb⟩
 replace K := K.keep hb; clear hb
 go_wp2_with fail
 go_ret
 exact ⟨rfl, K.1⟩
open Go.ChangeShapes Go.WideShapes Go.ChangeAt Go.RowKit Go.Deep
theorem ZL96 {p : Prop} (h : p := by
 first
  | (intro fuel cs y h1 h2
     obtain ⟨a, x, b, _⟩ := h fuel cs y h1 h2
     exact ⟨a, x, b, trivial⟩)
  | fail) : p := h
theorem Rd.mapC {α β : Type} {sz : Nat} {R : Enc α} {S : Enc β} {w : World} {B : Nat} {A : Option Addr} {n cap : Nat} {l : List α} (f : α → β) (h : Rd sz R w B A n cap l) (hc : ∀ x cs, cs.length = sz → R w B x cs → S w B (f x) cs) : Rd sz S w B A n cap (l.map f) := by
 refine ⟨by rw [List.length_map]; exact h.1, h.2.1, h.2.2.1, fun hn => ?_⟩
 obtain ⟨b, off, rfl, hb, hk⟩ := h.2.2.2 hn
 refine ⟨b, off, rfl, hb, fun k hk' => ?_⟩
 have hl : k < l.length := by simpa using hk'
 obtain ⟨cs, hr, hl2, hj⟩ := hk k hl
 refine ⟨cs, ?_, hl2, hj⟩
 rw [List.getElem_map]
 exact hc _ _ hl2 hr
section
variable {H : Type} {enc : TypeId × Value → H} {w : World}
theorem op_bigc : Opens enc Tryz.prog w 48 2 (prE 1 (flat fun x => [.int .i64 x]) (slE 1 (flat fun x => [.int .i64 x]))) (fun _ : Int × List Int => True) := by
 have h := opens_struct (enc := enc) (w := w) Tryz.underlying48 (sz := 2) (by kernel_rfl)
  (opens_fields (s := 1) (s' := 1) (opens_int Tryz.underlying3) rfl (by kernel_rfl) (opens_field (opens_slice (opens_int Tryz.underlying3) Tryz.underlying46 (by kernel_rfl) (by omega) (by decide +kernel)) rfl (by kernel_rfl)))
 exact ZL96
theorem op_fracc : Opens enc Tryz.prog w 50 4 (prE 2 (prE 1 (flat fun x => [.int .i64 x]) (slE 1 (flat fun x => [.int .i64 x]))) (prE 1 (flat fun x => [.int .i64 x]) (slE 1 (flat fun x => [.int .i64 x])))) (fun _ : (Int × List Int) × (Int × List Int) => True) := by
 have h := opens_struct (enc := enc) (w := w) Tryz.underlying50 (sz := 4) (by kernel_rfl)
  (opens_fields (s := 2) (s' := 2) op_bigc rfl (by kernel_rfl) (opens_field op_bigc rfl (by kernel_rfl)))
 exact ZL96
theorem op_fracsc : Opens enc Tryz.prog w 23 1 (slE 4 (prE 2 (prE 1 (flat fun x => [.int .i64 x]) (slE 1 (flat fun x => [.int .i64 x]))) (prE 1 (flat fun x => [.int .i64 x]) (slE 1 (flat fun x => [.int .i64 x]))))) (fun l => ∀ x ∈ l, True) :=
 opens_slice op_fracc Tryz.underlying23 (by kernel_rfl) (by omega) (by decide +kernel)
theorem bgc_cells {W : World} {B : Nat} {x : Int × List Int} {cs : List Value} (h : prE 1 (flat fun x => [.int .i64 x]) (slE 1 (flat fun x => [.int .i64 x])) W B x cs) : ∃ A n cap, cs = [.int .i64 x.1, .slice A n cap] ∧ RdI W B A n cap x.2 := by
 obtain ⟨h1, A, n, cap, h2, h3⟩ := h
 refine ⟨A, n, cap, ?_, h3⟩
 have h1 : cs.take 1 = [.int .i64 x.1] := h1
 rw [← List.take_append_drop 1 cs, h1, h2]
 rfl
theorem fv_cells {W : World} {B : Nat} (x : (Int × List Int) × (Int × List Int)) (cs : List Value) (hl : cs.length = 4) (h : prE 2 (prE 1 (flat fun x => [.int .i64 x]) (slE 1 (flat fun x => [.int .i64 x]))) (prE 1 (flat fun x => [.int .i64 x]) (slE 1 (flat fun x => [.int .i64 x]))) W B x cs) : fE W B ⟨x.1.1, x.1.2, x.2.1, x.2.2⟩ cs := by
 obtain ⟨h1, h2⟩ := h
 obtain ⟨A, n, cap, e1, r1⟩ := bgc_cells h1
 obtain ⟨A', n', cap', e2, r2⟩ := bgc_cells h2
 refine ⟨A, n, cap, A', n', cap', ?_, r1, r2⟩
 rw [← List.take_append_drop 2 cs, e1, e2]
 rfl
variable {r : Reach} {b0 : Nat} {v : Value} {d : DataW H} {p : List MemPlace}
theorem arg_fracs (hv : Value.okWide Tryz.prog w r b0 23 v) (hd : DataW.Trod enc Tryz.prog w 0 (fun _ => true) true 23 v d p) (hw : ∀ n ∈ d.weights Tryz.prog 23, n ≤ reachBytes) :
 ∃ A n cap l, v = .slice A n cap ∧ RdF w w.heap.size A n cap l := by
 obtain ⟨A, n, cap, l, rfl, hr, h⟩ := opens_arg_slice op_fracsc Tryz.underlying23 hv hd hw
 exact ⟨A, n, cap, _, rfl, hr.mapC _ fv_cells⟩
end
open Go.ChangeShapes Go.WideShapes Go.ChangeAt Go.RowKit Go.Deep
section
variable {H : Type} {enc : TypeId × Value → H} {w : World}
abbrev bgcE : Enc (Int × List Int) := prE 1 (flat fun x => [.int .i64 x]) (slE 1 (flat fun x => [.int .i64 x]))
abbrev fcE : Enc ((Int × List Int) × (Int × List Int)) := prE 2 bgcE bgcE
theorem op_rowc : Opens enc Tryz.prog w 56 5 (prE 1 (slE 4 fcE) fcE) (fun _ : List ((Int × List Int) × (Int × List Int)) × ((Int × List Int) × (Int × List Int)) => True) := by
 have h := opens_struct (enc := enc) (w := w) Tryz.underlying56 (sz := 5) (by kernel_rfl)
  (opens_fields (s := 1) (s' := 4) op_fracsc rfl (by kernel_rfl) (opens_field op_fracc rfl (by kernel_rfl)))
 exact ZL96
theorem op_rowsc : Opens enc Tryz.prog w 22 1 (slE 5 (prE 1 (slE 4 fcE) fcE)) (fun l => ∀ x ∈ l, True) :=
 opens_slice op_rowc Tryz.underlying22 (by kernel_rfl) (by omega) (by decide +kernel)
def fvT (x : (Int × List Int) × (Int × List Int)) : Fv := ⟨x.1.1, x.1.2, x.2.1, x.2.2⟩
theorem rv_cells {W : World} {B : Nat} (x : List ((Int × List Int) × (Int × List Int)) × ((Int × List Int) × (Int × List Int))) (cs : List Value) (hl : cs.length = 5) (h : prE 1 (slE 4 fcE) fcE W B x cs) : rE W B ⟨x.1.map fvT, fvT x.2⟩ cs := by
 obtain ⟨h1, h2⟩ := h
 obtain ⟨A, n, cap, e1, r1⟩ := h1
 have h3 := fv_cells x.2 (cs.drop 1) (by rw [List.length_drop, hl]) h2
 refine ⟨A, n, cap, cs.drop 1, ?_, r1.mapC _ fv_cells, h3⟩
 rw [← List.take_append_drop 1 cs, e1]
 rfl
variable {r : Reach} {b0 : Nat} {v : Value} {d : DataW H} {p : List MemPlace}
theorem arg_rows (hv : Value.okWide Tryz.prog w r b0 22 v) (hd : DataW.Trod enc Tryz.prog w 0 (fun _ => true) true 22 v d p) (hw : ∀ n ∈ d.weights Tryz.prog 22, n ≤ reachBytes) :
 ∃ A n cap l, v = .slice A n cap ∧ RdR w w.heap.size A n cap l := by
 obtain ⟨A, n, cap, l, rfl, hr, h⟩ := opens_arg_slice op_rowsc Tryz.underlying22 hv hd hw
 exact ⟨A, n, cap, _, rfl, hr.mapC _ rv_cells⟩
end
end Go.Proofs.YtdlcglndhhndpaaGreat
