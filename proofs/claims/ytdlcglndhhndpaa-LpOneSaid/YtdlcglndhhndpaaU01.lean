/- Laws and walks laid together; the conditions stand in each theorem. -/
import Derived.WalkKit
import Derived.Laws.OwnMore
import Derived.Deep.Draws
import Derived.Deep.AppendLies
import Derived.Lib.Hide
import Derived.ProofKit
import Derived.OpenShut
import Derived.ShutString
import Derived.ChangeOld
import Derived.Below
import Derived.SizedLaws
import Derived.Deep.SlicePairs
import Derived.Deep.Slices
import Derived.ChangeSame
import Derived.Maps.AppendAt
import Derived.RegionTactic
import Derived.OwnWalk
import Derived.Laws.CopyRow
import Derived.Laws.CopyOwn
import Derived.Deep.RegionHeld3
import Derived.Test.YtdlcglndhhndpaaProg
import Derived.LoopTactic
import Derived.Deep.QuietTactic
import Derived.BigQuiet
import Derived.Deep.LoopGhost
import Derived.IntWalk
import Derived.Handy
import Derived.Shelf.Abstract
import Derived.Lib.MinMax
import Derived.ArgAppend
import Derived.Laws.BitsLemmas
import Derived.Laws.BitsAllLaws
import Derived.Lib.LazyBuf
import Derived.Deep.CutRange
import Derived.Deep.CutBlock
import Derived.Test.YtdlcglndhhndpaaT01
import Derived.Test.YtdlcglndhhndpaaT02
import Derived.Test.YtdlcglndhhndpaaT05
import Derived.Test.YtdlcglndhhndpaaT04
set_option linter.unusedSimpArgs false
set_option linter.unusedVariables false
namespace Go.Proofs.Ytdlcglndhhndpaa
open Go.RowKit
end Go.Proofs.Ytdlcglndhhndpaa
namespace Go.Proofs.Ytdlcglndhhndpaa
end Go.Proofs.Ytdlcglndhhndpaa
namespace Go.Proofs.Ytdlcglndhhndpaa
section
open Go.RowKit
section
variable {α : Type} {sz : Nat} {R : Enc α} {w w' : World} {B B' C : Nat} {A : Option Addr} {n cap : Nat} {l : List α}
end
end
section
open Go.ChangeShapes Go.WideShapes Go.ChangeAt Go.RowKit Go.Deep
section
variable {H : Type} {enc : TypeId × Value → H} {P : Program} {w : World}
end
end
section
open Go.ChangeShapes Go.WideShapes Go.ChangeAt Go.RowKit Go.Deep
section
variable {H : Type} (enc : TypeId × Value → H) (P : Program) (w : World)
variable {enc P w}
theorem opens_arg_slice {α : Type} {t : TypeId} {sz : Nat} {R : Enc α} {Wp : List α → Prop} {e : TypeId} {r : Reach} {b0 : Nat} {v : Value} {d : DataW H} {p : List MemPlace} (h : Opens enc P w t 1 (slE sz R) Wp) (ht : P.underlying t = some (.slice e)) (hv : Value.okWide P w r b0 t v)
    (hd : DataW.Trod enc P w 0 (fun _ => true) true t v d p) (hw : ∀ n ∈ d.weights P t, n ≤ reachBytes) : ∃ A n cap l, v = .slice A n cap ∧ Rd sz R w w.heap.size A n cap l ∧ Wp l := by
  obtain ⟨A, n, cap, rfl⟩ := okWide_slice ht hv
  obtain ⟨fuel, hf⟩ := hd
  obtain ⟨_, l, ⟨A', n', cap', he, hr⟩, hwp⟩ := h _ _ _ hf hw
  simp [Value.cells] at he
  obtain ⟨rfl, rfl, rfl⟩ := he
  exact ⟨A, n, cap, l, rfl, hr, hwp⟩
end
end
section
open Go.RowKit
section
variable {α : Type} {sz : Nat} {enc : α → List Value}
section
variable {w w' : World} {base : Nat} {e : TypeId} {v : Value} {l : List α}
end
section
variable {P : Program} (w : World)
end
end
section
variable {α : Type} {n : Nat} {f g : Nat → α}
end
section
variable {w : World} {base : Nat} {e : TypeId} {g n cap : Nat}
end
end
section
open Go.RowKit
section
variable {α : Type} {sz : Nat} {enc : α → List Value}
variable {P : Program} {w : World}
end
end
section
open Go.RowKit
section
variable {P : Program} {α : Type} {sz : Nat} {enc : α → List Value} (w : World)
end
end
section
open Go.RowKit
section
variable {S T : Nat → Prop} {w w' w'' : World}
variable {α : Type} {sz : Nat} {enc : α → List Value} {base : Nat} {e : TypeId} {v : Value} {l : List α}
end
end
section
open Go.RowKit
end
section
open Go.RowKit
section
variable {P : Program} {α : Type} {sz : Nat} {enc : α → List Value}
end
end
section
open Go.RowKit
section
variable {P : Program} {α : Type} {sz : Nat} {enc : α → List Value}
end
end
end Go.Proofs.Ytdlcglndhhndpaa
namespace Go.Proofs.Ytdlcglndhhndpaa
open Go.RowKit
end Go.Proofs.Ytdlcglndhhndpaa
namespace Go.Proofs.Ytdlcglndhhndpaa
open Go.RowKit
end Go.Proofs.Ytdlcglndhhndpaa
namespace Go.Proofs.Ytdlcglndhhndpaa
open Go.RowKit
end Go.Proofs.Ytdlcglndhhndpaa
namespace Go.Proofs.Ytdlcglndhhndpaa
open Go.RowKit
section
variable {X Y : Int} {n N M : Nat} {f f' q q' : Nat → Int}
end
end Go.Proofs.Ytdlcglndhhndpaa
namespace Go.Proofs.Ytdlcglndhhndpaa
open Go.RowKit
end Go.Proofs.Ytdlcglndhhndpaa
namespace Go.Proofs.Ytdlcglndhhndpaa
open Go.RowKit
end Go.Proofs.Ytdlcglndhhndpaa
namespace Go.Proofs.Ytdlcglndhhndpaa
open Go.RowKit
end Go.Proofs.Ytdlcglndhhndpaa
namespace Go.Proofs.Ytdlcglndhhndpaa
open Go.RowKit
end Go.Proofs.Ytdlcglndhhndpaa
namespace Go.Proofs.Ytdlcglndhhndpaa
open Go.RowKit
end Go.Proofs.Ytdlcglndhhndpaa
namespace Go.Proofs.Ytdlcglndhhndpaa
open Go.RowKit
end Go.Proofs.Ytdlcglndhhndpaa
namespace Go.Proofs.Ytdlcglndhhndpaa
open Go.RowKit
set_option maxRecDepth 100000 in
set_option maxHeartbeats 2000000 in
theorem bcompare_any (s t : Int) (A A2 : Option Addr) (n cap n2 cap2 : Nat) (a b : List Int) (w : World) (ha : RdI w w.heap.size A n cap a) (hb : RdI w w.heap.size A2 n2 cap2 b) :
    Calls Try.prog 92 #[.agg #[.int .i64 s, .slice A n cap], .agg #[.int .i64 t, .slice A2 n2 cap2]] w fun e w' => e = .returned (.int .i64 (cmpB s a t b)) ∧ Below w.heap.size w w' := by
  have hb1 := (Below.refl w.heap.size w).alloc (Nat.le_refl _) (.cells #[.int .i64 s, .slice A n cap] 38)
  have hb2 := hb1.alloc hb1.size (.cells #[.int .i64 t, .slice A2 n2 cap2] 38)
  have HR1 := Lib.hid (fun w' h => bright_any s A n cap a w' h)
  have HR2 := Lib.hid (fun w' h => bright_any t A2 n2 cap2 b w' h)
  have c0 : ((w.alloc (.cells #[.int .i64 s, .slice A n cap] 38)).alloc (.cells #[.int .i64 t, .slice A2 n2 cap2] 38)).cell? ⟨w.heap.size, 0, none⟩ = some (.int .i64 s) := by simp
  have c1 : ((w.alloc (.cells #[.int .i64 s, .slice A n cap] 38)).alloc (.cells #[.int .i64 t, .slice A2 n2 cap2] 38)).cell? ⟨w.heap.size, 1, none⟩ = some (.slice A n cap) := by simp
  have c2 : ((w.alloc (.cells #[.int .i64 s, .slice A n cap] 38)).alloc (.cells #[.int .i64 t, .slice A2 n2 cap2] 38)).cell? ⟨w.heap.size + 1, 0, none⟩ = some (.int .i64 t) := by simp
  have c3 : ((w.alloc (.cells #[.int .i64 s, .slice A n cap] 38)).alloc (.cells #[.int .i64 t, .slice A2 n2 cap2] 38)).cell? ⟨w.heap.size + 1, 1, none⟩ = some (.slice A2 n2 cap2) := by simp
  have hz : w.heap.size + 1 < ((w.alloc (.cells #[.int .i64 s, .slice A n cap] 38)).alloc (.cells #[.int .i64 t, .slice A2 n2 cap2] 38)).heap.size := by simp
  obtain ⟨w0, hw0⟩ : ∃ w0, w0 = (w.alloc (.cells #[.int .i64 s, .slice A n cap] 38)).alloc (.cells #[.int .i64 t, .slice A2 n2 cap2] 38) := ⟨_, rfl⟩
  rw [← hw0] at hb2 c0 c1 c2 c3 hz
  obtain ⟨g, hg⟩ : ∃ g, g = w.heap.size := ⟨_, rfl⟩
  rw [← hg] at c0 c1 c2 c3 hz
  have HW := Lib.hid hw0; have HG := Lib.hid hg
  have hg0 : g < w0.heap.size := by omega
  have hno : rightB s a = false ∨ (rightB s a = true ∧ rightB t b = false) → cmpB s a t b = 0 := fun h => by
    unfold cmpB
    rcases h with h | ⟨h1, h2⟩
    · rw [h, if_neg (by simp)]
    · rw [h1, h2, if_neg (by simp)]
  clear hw0 hg hb1
  cases h1 : rightB s a
  · rw [hno (Or.inl h1)]
    rw [h1] at HR1
    clear hno h1
    go_enter Try.func92, Try.ntmps92
    go_wp2_with fail
    rw [← HW.out, ← HG.out]
    refine (HR1.out _ (ha.up (flat_lasts _) hb2)).mono ?_
    rintro e w1 ⟨rfl, hb3⟩
    go_wp2
    go_ret
    exact ⟨rfl, hb2.trans (hb3.mono hb2.size)⟩
  cases h2 : rightB t b
  · rw [hno (Or.inr ⟨h1, h2⟩)]
    rw [h1] at HR1
    rw [h2] at HR2
    clear hno h1 h2
    go_enter Try.func92, Try.ntmps92
    go_wp2_with fail
    rw [← HW.out, ← HG.out]
    refine (HR1.out _ (ha.up (flat_lasts _) hb2)).mono ?_
    rintro e w1 ⟨rfl, hb3⟩
    have hb03 := hb2.trans (hb3.mono hb2.size)
    have d2 := (hb3.cell (p := ⟨g + 1, 0, none⟩) hz).trans c2
    have d3 := (hb3.cell (p := ⟨g + 1, 1, none⟩) hz).trans c3
    go_wp2_with fail
    refine (HR2.out _ (hb.up (flat_lasts _) hb03)).mono ?_
    rintro e w2 ⟨rfl, hb4⟩
    go_wp2
    go_ret
    exact ⟨rfl, hb03.trans (hb4.mono hb03.size)⟩
  obtain ⟨a1, a2, -⟩ := rightB_cn h1
  obtain ⟨b1, b2, -⟩ := rightB_cn h2
  have hC : cmpB s a t b = cmpI (bval s a) (bval t b) := if_pos ⟨h1, h2⟩
  have hst : (s ≠ t ∧ (s != t) = true ∧ cmpB s a t b = cmpI s t) ∨ (s = t ∧ cmpB s a t b = s * cmpI (val a) (val b)) := by
    by_cases e : s = t
    · subst e; exact Or.inr ⟨rfl, by rw [hC, cmpB_digits h1 h2]⟩
    · exact Or.inl ⟨e, by simp [e], by rw [hC, cmpB_signs h1 h2 e]⟩
  have hsb : -1 ≤ s ∧ s ≤ 1 := by
    rcases (rightB_cn h1).2.2 with ⟨-, h⟩ | ⟨-, h | h⟩ <;> omega
  rw [h1] at HR1
  rw [h2] at HR2
  clear hno h1 h2 hC
  rcases hst with ⟨-, hd, he⟩ | ⟨rfl, he⟩
  · rw [he]
    clear he
    go_enter Try.func92, Try.ntmps92
    go_wp2_with fail
    rw [← HW.out, ← HG.out]
    refine (HR1.out _ (ha.up (flat_lasts _) hb2)).mono ?_
    rintro e w1 ⟨rfl, hb3⟩
    have hb03 := hb2.trans (hb3.mono hb2.size)
    have d2 := (hb3.cell (p := ⟨g + 1, 0, none⟩) hz).trans c2
    have d3 := (hb3.cell (p := ⟨g + 1, 1, none⟩) hz).trans c3
    go_wp2_with fail
    refine (HR2.out _ (hb.up (flat_lasts _) hb03)).mono ?_
    rintro e w2 ⟨rfl, hb4⟩
    have hb04 := hb03.trans (hb4.mono hb03.size)
    have hb34 := hb3.trans (hb4.mono hb3.size)
    have f0 := (hb34.cell (p := ⟨g, 0, none⟩) hg0).trans c0
    have f2 := (hb34.cell (p := ⟨g + 1, 0, none⟩) hz).trans c2
    go_wp2_with fail
    refine (ncmp_any s t _).mono ?_
    rintro e _ ⟨rfl, rfl⟩
    go_wp2
    go_ret
    exact ⟨rfl, hb04⟩
  · rw [he]
    have hd : (s != s) = false := by simp
    have HC := Lib.hid (fun w' h1 h2 => bcmpq_any A A2 n cap n2 cap2 a b w' h1 h2 a1 b1)
    have hcb : -1 ≤ cmpI (val a) (val b) ∧ cmpI (val a) (val b) ≤ 1 := by
      unfold cmpI
      split
      · omega
      · split <;> omega
    obtain ⟨C, hCC⟩ : ∃ C, C = cmpI (val a) (val b) := ⟨_, rfl⟩
    rw [← hCC] at HC hcb ⊢
    have hwm : IntKind.i64.wrap (s * C) = s * C := by
      have h1 : s = -1 ∨ s = 0 ∨ s = 1 := by omega
      rcases h1 with rfl | rfl | rfl <;> exact IntWalk.i64_in _ (by omega)
    clear he hCC
    go_enter Try.func92, Try.ntmps92
    go_wp2_with fail
    rw [← HW.out, ← HG.out]
    refine (HR1.out _ (ha.up (flat_lasts _) hb2)).mono ?_
    rintro e w1 ⟨rfl, hb3⟩
    have hb03 := hb2.trans (hb3.mono hb2.size)
    have d2 := (hb3.cell (p := ⟨g + 1, 0, none⟩) hz).trans c2
    have d3 := (hb3.cell (p := ⟨g + 1, 1, none⟩) hz).trans c3
    go_wp2_with fail
    refine (HR2.out _ (hb.up (flat_lasts _) hb03)).mono ?_
    rintro e w2 ⟨rfl, hb4⟩
    have hb04 := hb03.trans (hb4.mono hb03.size)
    have hb34 := hb3.trans (hb4.mono hb3.size)
    have f0 := (hb34.cell (p := ⟨g, 0, none⟩) hg0).trans c0
    have f1 := (hb34.cell (p := ⟨g, 1, none⟩) hg0).trans c1
    have f2 := (hb34.cell (p := ⟨g + 1, 0, none⟩) hz).trans c2
    have f3 := (hb34.cell (p := ⟨g + 1, 1, none⟩) hz).trans c3
    have HCq := Lib.hid (fun q => (HC.out (w2.drewN q) ((ha.up (flat_lasts _) hb04).drewN (flat_lasts _) q) ((hb.up (flat_lasts _) hb04).drewN (flat_lasts _) q)).mono fun e w'' ⟨h1, r, h2⟩ => (⟨h1, q + r, by rw [h2, World.drewN_drewN]⟩ : e = Ending.returned (.int .i64 C) ∧ ∃ m, w'' = w2.drewN m))
    clear hb3 hb4 hb03 hb34 c0 c1 c2 c3 d2 d3
    go_wp2_with fail
    go_quiet ((go_at_call 126; exact HCq.out _))
    go_wp2
    go_ret
    exact ⟨rfl, below_drewN hb04 _⟩
end Go.Proofs.Ytdlcglndhhndpaa
namespace Go.Proofs.Ytdlcglndhhndpaa
open Go.RowKit
end Go.Proofs.Ytdlcglndhhndpaa
namespace Go.Proofs.Ytdlcglndhhndpaa
open Go.RowKit
end Go.Proofs.Ytdlcglndhhndpaa
namespace Go.Proofs.Ytdlcglndhhndpaa
open Go.RowKit
end Go.Proofs.Ytdlcglndhhndpaa
namespace Go.Proofs.Ytdlcglndhhndpaa
open Go.RowKit
end Go.Proofs.Ytdlcglndhhndpaa
namespace Go.Proofs.Ytdlcglndhhndpaa
open Go.RowKit
section
variable (x y : Int) (s : Int) (A : Option Addr) (n cap : Nat) (l : List Int) (t : Int) (A' : Option Addr) (n' cap' : Nat) (m : List Int) (W : World)
variable (hl : RdI W W.heap.size A n cap l) (hm : RdI W W.heap.size A' n' cap' m) (h1 : Std s l x) (h2 : Std t m y) (f1 : fits x = true) (f2 : fits y = true)
include hl hm h1 h2 f1 f2
theorem vCompare : Calls Try.prog 92 #[.agg #[.int .i64 s, .slice A n cap], .agg #[.int .i64 t, .slice A' n' cap']] W fun e w' => e = .returned (.int .i64 (cmpI x y)) ∧ Below W.heap.size W w' := by
  have h := bcompare_any s t A A' n cap n' cap' l m W hl hm
  have e : cmpB s l t m = cmpI x y := by
    unfold cmpB
    rw [if_pos ⟨h1.right f1, h2.right f2⟩, h1.val, h2.val]
  rw [e] at h
  exact h
end
end Go.Proofs.Ytdlcglndhhndpaa
namespace Go.Proofs.Ytdlcglndhhndpaa
open Go.RowKit
end Go.Proofs.Ytdlcglndhhndpaa
