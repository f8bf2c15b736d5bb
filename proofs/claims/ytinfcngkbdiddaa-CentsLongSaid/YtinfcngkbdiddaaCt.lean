/- Walk over Split$1 of package cents: rests are compared. Conditions stand in the theorem. -/
import Derived.Test.YtinfcngkbdiddaaCk
import Derived.Deep.QuietTactic
import Derived.BigQuiet
namespace Go.Proofs.Ytinfcngkbdiddaa
open Go.RowKit
set_option linter.unusedVariables false
set_option linter.unusedSimpArgs false

theorem wp_region_cls2 {P : Program} {C : World → Prop} {id : Nat} {Q : Exit → Act → World → Prop} {a : Act} {w : World} {l : List Oper} (hm : P.follows .mixedOrders = true) (hB : Region.lexB .any l.toArray = true) (hC : C w.drew)
    (h : wpQuiet P l.toArray C (fun a' => ∀ w', C w' → Q .normal a' w') l a) : (Code.region id l.toArray true).wp P Q a w :=
  wp_region_quiet (C := C) hm hB hC (by simpa using h)
theorem cls_st2 (KS : World → Prop) (w : World) (h : KS w) (hd : ∀ W, KS W → KS W.drew) : ∃ (ι : Type) (f : ι → World), Nonempty ι ∧ (∃ n, w.drew = f n) ∧ (∀ n, KS (f n)) ∧ ∀ w', KS w' → ∃ n, w' = f n :=
  ⟨{w' : World // KS w'}, Subtype.val, ⟨⟨w, h⟩⟩, ⟨⟨w.drew, hd w h⟩, rfl⟩, fun n => n.2, fun w' h => ⟨⟨w', h⟩, rfl⟩⟩
set_option maxRecDepth 100000 in
set_option maxHeartbeats 2000000 in
theorem ccmp_any (p : Addr) (a b n cap : Nat) (A : Option Addr) (l : List Fv) (x y : Fv) (w : World) (hp : w.cell? p = some (.slice A n cap)) (hpl : p.block < w.heap.size) (hl : RdF w w.heap.size A n cap l) (ha : a < n) (hb : b < n) (hx : l[a]? = some x) (hy : l[b]? = some y) (hxo : x.ok = true) (hyo : y.ok = true) :
    Calls Try.prog 30 #[.int .i64 a, .int .i64 b, .pointer (some p)] w fun e w' => e = .returned (.int .i64 (cmpQ y.rat x.rat)) ∧ Below w.heap.size w w' := by
  have hcaps := hl.caps
  obtain ⟨g, off, A1, n1, c1, B1, m1, d1, x', rfl, hg, hx', ⟨z0, z1, z2, z3⟩, r1, q1⟩ := hl.atF ha
  obtain ⟨g2, off2, A2, n2, c2, B2, m2, d2, y', hA, hg2, hy', ⟨y0, y1, y2, y3⟩, r2, q2⟩ := hl.atF hb
  injection hA with hA
  injection hA with hA1 hA2
  subst hA1 hA2
  have e1 : x' = x := by rw [hx] at hx'; exact (Option.some.inj hx').symm
  have e2 : y' = y := by rw [hy] at hy'; exact (Option.some.inj hy').symm
  subst e1 e2
  obtain ⟨hsx, fx⟩ := fv_std hxo
  obtain ⟨hsy, fy⟩ := fv_std hyo
  obtain ⟨ι, f, hne, hfw, hfk, hfc⟩ := cls_st2 (fun W => Below w.heap.size w W) w (Below.refl _ _) (fun W h => h.drew)
  have QC := Lib.hid (fun q => (pCmp y'.rat x'.rat y'.s y'.t x'.s x'.t A2 B2 A1 B1 n2 c2 m2 d2 n1 c1 m1 d1 y'.l y'.m x'.l x'.m (f q) (r2.up (flat_lasts _) (hfk q)) (q2.up (flat_lasts _) (hfk q)) (r1.up (flat_lasts _) (hfk q)) (q1.up (flat_lasts _) (hfk q)) hsy hsx fy fx).mono fun e w'' ⟨he, hb⟩ => (⟨he, hfc _ ((hfk q).trans (hb.mono (hfk q).size))⟩ : e = Ending.returned (.int .i64 (cmpQ y'.rat x'.rat)) ∧ ∃ s, w'' = f s))
  generalize cmpQ y'.rat x'.rat = M at *
  have cp := fun q => ((hfk q).cell (p := p) hpl).trans hp
  have u0 := fun q => ((hfk q).cell (p := ⟨g, off + a * 4, none⟩) hg).trans z0
  have u1 := fun q => ((hfk q).cell (p := ⟨g, off + a * 4 + 1, none⟩) hg).trans z1
  have u2 := fun q => ((hfk q).cell (p := ⟨g, off + a * 4 + 2, none⟩) hg).trans z2
  have u3 := fun q => ((hfk q).cell (p := ⟨g, off + a * 4 + 3, none⟩) hg).trans z3
  have v0 := fun q => ((hfk q).cell (p := ⟨g, off + b * 4, none⟩) hg).trans y0
  have v1 := fun q => ((hfk q).cell (p := ⟨g, off + b * 4 + 1, none⟩) hg).trans y1
  have v2 := fun q => ((hfk q).cell (p := ⟨g, off + b * 4 + 2, none⟩) hg).trans y2
  have v3 := fun q => ((hfk q).cell (p := ⟨g, off + b * 4 + 3, none⟩) hg).trans y3
  have hai : (a : Int) < (n : Int) := by omega
  have ha0 : (0 : Int) ≤ (a : Int) := by omega
  have hbi : (b : Int) < (n : Int) := by omega
  have hb0 : (0 : Int) ≤ (b : Int) := by omega
  have Hfw := Lib.hid hfw
  have Hfk := Lib.hid hfk
  clear hsx fx hsy fy hx hy hx' hy' z0 z1 z2 z3 y0 y1 y2 y3 r1 r2 q1 q2 hl hp hfw hfk hfc hxo hyo hg2
  go_enter Try.func30, Try.ntmps30
  go_upto_region 1 with fail
  refine wp_region_cls2 (C := fun w' => ∃ n, w' = f n) (by kernel_rfl) (by kernel_rfl) Hfw.out ?_
  repeat (first
    | go_big_quiet_skip
    | (go_big_quiet_want; go_big_quiet_op; first | go_big_quiet_on | go_big_quiet_call ((go_at_call 31; with_reducible exact QC.out _))))
  refine wpQuiet_nil ?_
  rintro _ ⟨nq, rfl⟩
  have hB := Hfk.out nq
  clear QC cp u0 u1 u2 u3 v0 v1 v2 v3
  go_wp2
  go_ret
  exact ⟨rfl, hB⟩
end Go.Proofs.Ytinfcngkbdiddaa
