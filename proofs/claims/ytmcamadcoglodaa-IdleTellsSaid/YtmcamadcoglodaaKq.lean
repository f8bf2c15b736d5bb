/- A region that draws its order, whose operations read what is old and whose callees only make memory, walked once: the class of worlds 'nothing old has turned'. No condition. -/
import Derived.Test.YtmcamadcoglodaaK3
import Derived.Deep.QuietTactic
import Derived.BigQuiet
namespace Go.Proofs.Ytmcamadcoglodaa
open Go.RowKit
theorem wp_region_cls {P : Program} {C : World → Prop} {id : Nat} {Q : Exit → Act → World → Prop} {a : Act} {w : World} {l : List Oper} (hm : P.follows .mixedOrders = true) (hB : Region.lexB .any l.toArray = true) (hC : C w.drew)
    (h : wpQuiet P l.toArray C (fun a' => ∀ w', C w' → Q .normal a' w') l a) : (Code.region id l.toArray true).wp P Q a w :=
  wp_region_quiet (C := C) hm hB hC (by simpa using h)
/-- the worlds in which nothing old has turned, by a letter each -/
theorem cls_of (w0 : World) (B : Nat) (w : World) (hb : Below B w0 w) : ∃ (ι : Type) (f : ι → World), Nonempty ι ∧ (∃ n, w.drew = f n) ∧ (∀ n, Below B w0 (f n)) ∧ ∀ w', Below B w0 w' → ∃ n, w' = f n :=
  ⟨{w' : World // Below B w0 w'}, Subtype.val, ⟨⟨w, hb⟩⟩, ⟨⟨w.drew, hb.drew⟩, rfl⟩, fun n => n.2, fun w' h => ⟨⟨w', h⟩, rfl⟩⟩
end Go.Proofs.Ytmcamadcoglodaa
