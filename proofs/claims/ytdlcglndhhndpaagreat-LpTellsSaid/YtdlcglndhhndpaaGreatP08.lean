/- Laws and walks; conditions stand in each theorem. -/
import Derived.Test.YtdlcglndhhndpaaGreatP05
set_option linter.unusedSimpArgs false
set_option linter.unusedVariables false
namespace Go.Proofs.YtdlcglndhhndpaaGreat
open Go.RowKit
def SumP (w0:World) (mb:Nat) (R:List Value) (T:TypeId) (b:Bool) (L:List Blk) (D:List Hl) (S:Bool) (e:Ending) (W':World):Prop :=
 ∃(o b':Bool) (L':List Blk),e=.returned (.bool o)∧Hid (Upd mb (Value.bool b::R).toArray T (Value.bool b'::R).toArray L L')∧Hid ((o&& !b')=(!b&&S))∧St w0 L' D W'
theorem Upd.same {b:Nat} {cs:Array Value} {t:TypeId} {L:List Blk} (h:(b,cs,t)∈L):∃L',Upd b cs t cs L L'∧L'=L:=by
 induction L with
 | nil=>cases h
 | cons x L ih =>
  rcases List.mem_cons.1 h with e|h
  ·subst e;exact ⟨_,.head L,rfl⟩
  ·obtain ⟨L',h1,h2⟩:=ih h;exact ⟨_,.tail x h1,by rw [h2]⟩
theorem Upd.trans {b:Nat} {c1 c2 c3:Array Value} {t:TypeId} {L L':List Blk} (h:Upd b c1 t c2 L L'):∀ {L'':List Blk},(L'.map (·.1)).Nodup→Upd b c2 t c3 L' L''→Upd b c1 t c3 L L'':=by
 induction h with
 | head L =>
  intro L'' hn h2;cases h2 with
  | head _=>exact .head L
  | tail _ h3 =>
   have:=List.mem_map_of_mem (f:=fun p:Blk=>p.1) h3.mem;rw [List.map_cons,List.nodup_cons] at hn;exact absurd this hn.1
 | tail x h ih =>
  intro L'' hn h2;rw [List.map_cons,List.nodup_cons] at hn;cases h2 with
  | head _ =>
   have h4:Upd b c1 t c2 _ _:=h;have:=List.mem_map_of_mem (f:=fun p:Blk=>p.1) h4.mem;rw [←h4.fsts] at this;exact absurd this hn.1
  | tail _ h3=>exact .tail x (ih hn.2 h3)
theorem St.nodup {w W:World} {L:List Blk} {D:List Hl} (K:St w L D W):(L.map (·.1)).Nodup:=by
 rw [List.nodup_iff_pairwise_ne,List.pairwise_map];exact K.2.2.1
end Go.Proofs.YtdlcglndhhndpaaGreat
