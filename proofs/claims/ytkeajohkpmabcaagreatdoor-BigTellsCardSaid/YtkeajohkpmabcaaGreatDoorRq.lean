/- Words for regions that read and call, by a class of worlds. Conditions stand in each theorem. -/
import Derived.Test.YtkeajohkpmabcaaGreatDoorO
import Derived.Deep.QuietTactic
import Derived.BigQuiet
namespace Go.Proofs.YtkeajohkpmabcaaGreatDoor
open Go.RowKit
set_option linter.unusedVariables false
set_option linter.unusedSimpArgs false

theorem St.pack2 {w W : World} {L : List Blk} {D : List Hl} (K : St w L D W) (F : World → Prop) (hF : ∀ W, St w L D W → F W) : ∃ KS : World → Prop, KS W ∧ (∀ W W', KS W → Below W.heap.size W W' → KS W') ∧ (∀ W, KS W → F W) ∧ ∀ W, KS W → St w L D W :=
  ⟨St w L D, K, fun W W' h hb => h.keep hb, hF, fun _ h => h⟩
theorem wp_region_cls {P : Program} {C : World → Prop} {id : Nat} {Q : Exit → Act → World → Prop} {a : Act} {w : World} {l : List Oper} (hm : P.follows .mixedOrders = true) (hB : Region.lexB .any l.toArray = true) (hC : C w.drew)
    (h : wpQuiet P l.toArray C (fun a' => ∀ w', C w' → Q .normal a' w') l a) : (Code.region id l.toArray true).wp P Q a w :=
  wp_region_quiet (C := C) hm hB hC (by simpa using h)
/-- a class of worlds, by a letter each -/
theorem cls_st (KS : World → Prop) (w : World) (h : KS w) (hd : ∀ W, KS W → KS W.drew) : ∃ (ι : Type) (f : ι → World), Nonempty ι ∧ (∃ n, w.drew = f n) ∧ (∀ n, KS (f n)) ∧ ∀ w', KS w' → ∃ n, w' = f n :=
  ⟨{w' : World // KS w'}, Subtype.val, ⟨⟨w, h⟩⟩, ⟨⟨w.drew, hd w h⟩, rfl⟩, fun n => n.2, fun w' h => ⟨⟨w', h⟩, rfl⟩⟩
end Go.Proofs.YtkeajohkpmabcaaGreatDoor
