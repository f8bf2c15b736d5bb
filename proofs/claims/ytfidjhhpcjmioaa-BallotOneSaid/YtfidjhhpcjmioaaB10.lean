/- Walk over cards of the statements of layer 34. Conditions stand in the theorem. -/
import Derived.Test.YtfidjhhpcjmioaaB9
namespace Go.Proofs.Ytfidjhhpcjmioaa
open Go.RowKit
set_option linter.unusedVariables false

def CastFine (w : World) (m : Int) (t : Nat) (L : List (Int × Int)) (e : Ending) (w' : World) : Prop :=
  ∃ A cap, e = .returned (.tuple #[.agg #[.int .i64 m, .slice A t cap], .int .i64 0]) ∧ RdP w' w'.heap.size A t cap L ∧ (∀ b off, A = some ⟨b, off, none⟩ → w.heap.size ≤ b) ∧ Below w.heap.size w w'
theorem splitBad_no {x : Int} {k t : Nat} (hx : inF x = true) (hk : 1 ≤ k) (hkt : k ≤ t) (ht : t ≤ 20) : splitBad x k t = false := by
  simp [splitBad, hx]; omega
theorem cast_fine (m : Int) (y : Bool) (t k : Nat) (s : Int) (w : World) (hm : memF m = true) (hk : 1 ≤ k) (hkt : k ≤ t) (ht : t ≤ 20) (hs : -9223372036854775808 ≤ s ∧ s ≤ 9223372036854775807) :
  Calls Try.prog 25 #[.int .i64 m, .bool y, .int .i64 t, .int .i64 k, .int .i64 s] w (CastFine w m t (splitL (yesI y) k s t)) :=
  (cast_yes m y t k s w hm (splitBad_no (yesI_inF y) hk hkt ht) hs).mono fun e w' ⟨A, n, cap, he, hr, hA, hb⟩ => by
    have hn : n = t := by have := hr.len; simp only [splitL_len] at this; exact this.symm
    subst hn
    exact ⟨A, cap, he, hr, hA, hb⟩

theorem after_alloc {w w1 : World} {x y : Value} {T : TypeId} (hb1 : Below (w.alloc (Obj.cells #[x, y] T)).drew.heap.size (w.alloc (Obj.cells #[x, y] T)).drew w1) :
    w1.cell? ⟨w.heap.size, 0, none⟩ = some x ∧ w1.cell? ⟨w.heap.size, 1, none⟩ = some y ∧ w1.frozen? ⟨w.heap.size, 0, none⟩ = false ∧ w1.frozen? ⟨w.heap.size, 1, none⟩ = false :=
  ⟨(hb1.cell (by simp)).trans (by simp), (hb1.cell (by simp)).trans (by simp), (hb1.frozen (by simp)).trans (by simp), (hb1.frozen (by simp)).trans (by simp)⟩
theorem far2 {w : World} {p b o : Nat} {x y u : Value} (hne : p ≠ b) (h : w.cell? ⟨b, o, none⟩ = some u) : ((w.setCell ⟨p, 0, none⟩ x).setCell ⟨p, 1, none⟩ y).cell? ⟨b, o, none⟩ = some u :=
  (World.cell?_setCell_far _ ⟨p, 1, none⟩ ⟨b, o, none⟩ _ hne).trans ((World.cell?_setCell_far _ ⟨p, 0, none⟩ ⟨b, o, none⟩ _ hne).trans h)
/-- the card of a vote -/
def cardOf (t k : Nat) (v : Vt) : Crd := (v.1, splitL (yesI v.2.1) k v.2.2 t)
theorem card_info : (Try.prog.info? 47).map (fun i => (i.zero, i.size, i.bytes)) = some (some (.agg #[.int .i64 0, .slice none 0 0]), 2, 32) := by kernel_rfl

set_option maxHeartbeats 2000000 in
theorem cards_any (A : Option Addr) (n cap : Nat) (l : List Vt) (t k : Nat) (w : World) (hl : RdV w w.heap.size A n cap l) (hm : ∀ i, i < n → memF (vAt l i).1 = true) (hs : ∀ x ∈ l, -9223372036854775808 ≤ x.2.2 ∧ x.2.2 ≤ 9223372036854775807) (hk : 1 ≤ k) (hkt : k ≤ t) (ht : t ≤ 20) (hn : n ≤ 1000000) :
  Calls Try.prog 36 #[.slice A n cap, .int .i64 t, .int .i64 k] w fun e w' => ∃ v, e = .returned (.tuple #[v, .bool true]) ∧ OwnC w' w.heap.size 47 v n (fun i => cardOf t k (vAt l i)) ∧ Below w.heap.size w w' := by
  obtain ⟨i0, hi0, hz0, hz1, hz2⟩ := info_parts card_info
  have hcaps := hl.caps
  go_enter Try.func36, Try.ntmps36
  go_wp2
  go_loopg [8, 9] n (fun gk v i wr => ∃ j : Nat, j ≤ n ∧ gk = n - j ∧ i = .int .i64 j ∧ OwnC wr w.heap.size 47 v j (fun i => cardOf t k (vAt l i)) ∧ Below w.heap.size w wr)
  case atStart => exact ⟨0, Nat.zero_le _, rfl, rfl, OwnC.nil, Below.refl _ _⟩
  case round =>
    obtain ⟨j, hj, rfl, rfl, hown, hb⟩ := hrel
    by_cases hlt : j < n
    · obtain ⟨b, off, m, y, s, rfl, hbB, hv, c0, c1, c2⟩ := (hl.below (flat_lasts _) hb (Nat.le_refl _) (Nat.le_refl _)).atV hlt
      have hmem := hm j hlt
      have hss := hs _ (List.mem_of_getElem? hv)
      rw [vAt_eq hv] at hmem
      simp only at hmem hss
      have Hv := Lib.hid (vAt_eq hv)
      have Hcast := Lib.hid (fun w => cast_fine m y t k s w hmem hk hkt ht hss)
      have hji : (j : Int) < (n : Int) := by omega
      have hj0 : (0 : Int) ≤ (j : Int) := by omega
      have hsz := hb.size
      have hLen := Lib.hid (splitL_len (yesI y) k s t)
      have Hcd := Lib.hid (show cardOf t k (vAt l j) = (m, splitL (yesI y) k s t) by rw [vAt_eq hv]; rfl)
      clear hv hmem
      generalize splitL (yesI y) k s t = L at *
      obtain ⟨raw, ho, hfit, hfar⟩ := hown
      have hvlt := fun g (h : u8.ownBlock = some g) => (ho.lt g h).2
      have Hvlt := Lib.hid hvlt
      clear hvlt hl hm hs hss
      go_wp2_with fail
      have hbs : b < wr.heap.size := by omega
      have hpb : wr.heap.size ≠ b := by omega
      go_region_held3 (fun w' => w'.cell? ⟨b, off + j * 3, none⟩ = some (.int .i64 m) ∧ w'.cell? ⟨b, off + j * 3 + 1, none⟩ = some (.bool y) ∧ w'.cell? ⟨b, off + j * 3 + 2, none⟩ = some (.int .i64 s))
        (first | exact ⟨c0, c1, c2⟩ | exact ⟨(World.cell?_alloc_lt _ _ _ hbs).trans c0, (World.cell?_alloc_lt _ _ _ hbs).trans c1, (World.cell?_alloc_lt _ _ _ hbs).trans c2⟩ | exact ⟨d0, d1, d2⟩ | exact ⟨(World.cell?_alloc_lt _ _ _ hbs1).trans d0, (World.cell?_alloc_lt _ _ _ hbs1).trans d1, (World.cell?_alloc_lt _ _ _ hbs1).trans d2⟩ | exact ⟨far2 hpb d0, far2 hpb d1, far2 hpb d2⟩ | go_keep)
        (first | (go_at_call 25; refine (Hcast.out _).mono ?_; rintro e w1 ⟨A1, cap1, rfl, hr1, hA1, hb1⟩
                  have hbs1 : b < w1.heap.size := by have := hb1.size; simp at this; omega
                  have d0 : w1.cell? ⟨b, off + j * 3, none⟩ = some (.int .i64 m) := (hb1.cell (p := ⟨b, off + j * 3, none⟩) (by show b < _; simp; omega)).trans (by first | exact c0 | exact (World.cell?_alloc_lt _ _ _ hbs).trans c0)
                  have d1 : w1.cell? ⟨b, off + j * 3 + 1, none⟩ = some (.bool y) := (hb1.cell (p := ⟨b, off + j * 3 + 1, none⟩) (by show b < _; simp; omega)).trans (by first | exact c1 | exact (World.cell?_alloc_lt _ _ _ hbs).trans c1)
                  have d2 : w1.cell? ⟨b, off + j * 3 + 2, none⟩ = some (.int .i64 s) := (hb1.cell (p := ⟨b, off + j * 3 + 2, none⟩) (by show b < _; simp; omega)).trans (by first | exact c2 | exact (World.cell?_alloc_lt _ _ _ hbs).trans c2)
                  first
                    | have kk := after_alloc hb1
                      obtain ⟨k0, k1, f0, f1⟩ := kk
                      obtain ⟨z0, z1⟩ := two_set (.int .i64 m) (.slice A1 t cap1) k0 k1
                    | skip))
      · have hb12 : Below wr.heap.size wr (w1.alloc (Obj.cells #[Value.int IntKind.i64 m, Value.slice A1 t cap1] 47)) := ((Below.refl wr.heap.size wr).drew.trans hb1).alloc (by have := hb1.size; simp at this; omega) _
        have hr2 := hr1.up (flat_lasts _) ((Below.refl w1.heap.size w1).alloc (Nat.le_refl _) (Obj.cells #[Value.int IntKind.i64 m, Value.slice A1 t cap1] 47))
        have m0 : (w1.alloc (Obj.cells #[Value.int IntKind.i64 m, Value.slice A1 t cap1] 47)).cell? ⟨w1.heap.size, 0, none⟩ = some (.int .i64 m) := by simp
        have m1 : (w1.alloc (Obj.cells #[Value.int IntKind.i64 m, Value.slice A1 t cap1] 47)).cell? ⟨w1.heap.size, 1, none⟩ = some (.slice A1 t cap1) := by simp
        have hA2 : ∀ bb off, A1 = some ⟨bb, off, none⟩ → wr.heap.size ≤ bb := fun bb off e => Nat.le_trans (by simp) (hA1 bb off e)
        generalize w1.alloc (Obj.cells #[Value.int IntKind.i64 m, Value.slice A1 t cap1] 47) = w2 at *
        have hown2 := hfit.below hb12
        have ho2 := ho.below hb12
        have hbw2 : Below w.heap.size w w2 := hb.trans (hb12.mono hsz)
        have hsz2 := hbw2.size
        clear hb1 hA1 d0 d1 d2
        go_wp2_with (at_builtin
                     refine wpList_app _ sSized rfl _ _ 44 rfl w.heap.size 47 i0 _ 32 Try.underlying44 hi0 hz0 hz1 hz2 rfl u8 (ofF j raw) rfl (ho2.alloc _) _ _ 1 1 [(m, A1, t, cap1)] rfl (Rd.new1 sSized w2 (m, A1, t, cap1) #[.int .i64 m, .slice A1 t cap1] rfl 47) (by rw [ofF_len]; simp only [maxLen]; omega) (by rw [ofF_len]; omega) (by simp; omega) ?_
                     intro v3 w3 ho3 hg3 hx3
                     have hb3 : Below w.heap.size w w3 := Own.grow (ho2.alloc _) (Nat.le_refl _) (hbw2.alloc hsz2 _) (by simp; omega) hg3
                     have hall := (Below.refl w2.heap.size w2).alloc (Nat.le_refl _) (Obj.cells #[.int .i64 m, .slice A1 t cap1] 47)
                     have hoc := OwnC.app (l := fun i => cardOf t k (vAt l i)) (ho2.alloc _) (hown2.below hall) hfar (A := A1) (m := t) (cap := cap1) (by simp only [Hcd.out]; exact hr2.up (flat_lasts _) hall) (fun _ bb off e h => by have := Hvlt.out bb h; have := hA2 bb off e; omega) (by simp only [Hcd.out]; exact ho3) hg3 hx3)
        go_roundg (n - (j + 1))
        case rel => exact ⟨j + 1, by omega, rfl, by go_num, hoc, hb3⟩
        case measure => omega
      · have hb12 : Below wr.heap.size wr ((w1.setCell ⟨wr.heap.size, 0, none⟩ (.int .i64 m)).setCell ⟨wr.heap.size, 1, none⟩ (.slice A1 t cap1)) := ((((Below.refl wr.heap.size wr).alloc (Nat.le_refl _) _).drew.trans (hb1.mono (by simp))).setCell (Nat.le_refl _) _).setCell (Nat.le_refl _) _
        have hr2 := (hr1.apart (Nat.le_refl _) (by simp) (grown_set w1 wr.heap.size 0 (.int .i64 m)) (fun _ bb off e h => by have := hA1 bb off e; injection h with h; simp at this; omega)).apart (B' := ((w1.setCell ⟨wr.heap.size, 0, none⟩ (.int .i64 m)).setCell ⟨wr.heap.size, 1, none⟩ (.slice A1 t cap1)).heap.size) (Nat.le_refl _) (by simp) (grown_set _ wr.heap.size 1 (.slice A1 t cap1)) (fun _ bb off e h => by have := hA1 bb off e; injection h with h; simp at this; omega)
        have m0 := z0
        have m1 := z1
        clear k0 k1 f0 f1 z0 z1
        have hA2 : ∀ bb off, A1 = some ⟨bb, off, none⟩ → wr.heap.size ≤ bb := fun bb off e => Nat.le_trans (by simp) (hA1 bb off e)
        generalize (w1.setCell ⟨wr.heap.size, 0, none⟩ (.int .i64 m)).setCell ⟨wr.heap.size, 1, none⟩ (.slice A1 t cap1) = w2 at *
        have hown2 := hfit.below hb12
        have ho2 := ho.below hb12
        have hbw2 : Below w.heap.size w w2 := hb.trans (hb12.mono hsz)
        have hsz2 := hbw2.size
        clear hb1 hA1 d0 d1 d2
        go_wp2_with (at_builtin
                     refine wpList_app _ sSized rfl _ _ 44 rfl w.heap.size 47 i0 _ 32 Try.underlying44 hi0 hz0 hz1 hz2 rfl u8 (ofF j raw) rfl (ho2.alloc _) _ _ 1 1 [(m, A1, t, cap1)] rfl (Rd.new1 sSized w2 (m, A1, t, cap1) #[.int .i64 m, .slice A1 t cap1] rfl 47) (by rw [ofF_len]; simp only [maxLen]; omega) (by rw [ofF_len]; omega) (by simp; omega) ?_
                     intro v3 w3 ho3 hg3 hx3
                     have hb3 : Below w.heap.size w w3 := Own.grow (ho2.alloc _) (Nat.le_refl _) (hbw2.alloc hsz2 _) (by simp; omega) hg3
                     have hall := (Below.refl w2.heap.size w2).alloc (Nat.le_refl _) (Obj.cells #[.int .i64 m, .slice A1 t cap1] 47)
                     have hoc := OwnC.app (l := fun i => cardOf t k (vAt l i)) (ho2.alloc _) (hown2.below hall) hfar (A := A1) (m := t) (cap := cap1) (by simp only [Hcd.out]; exact hr2.up (flat_lasts _) hall) (fun _ bb off e h => by have := Hvlt.out bb h; have := hA2 bb off e; omega) (by simp only [Hcd.out]; exact ho3) hg3 hx3)
        go_roundg (n - (j + 1))
        case rel => exact ⟨j + 1, by omega, rfl, by go_num, hoc, hb3⟩
        case measure => omega
    · have e : j = n := by omega
      subst e
      go_wp2
      go_ret2
      exact ⟨_, rfl, hown, hb⟩
end Go.Proofs.Ytfidjhhpcjmioaa
