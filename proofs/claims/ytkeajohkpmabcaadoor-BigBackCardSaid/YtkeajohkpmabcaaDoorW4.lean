/- Walks over Clone of ints, and add and sub of package big. Conditions stand in each theorem. -/
import Derived.Test.YtkeajohkpmabcaaDoorW3
namespace Go.Proofs.YtkeajohkpmabcaaDoor
open Go.RowKit
set_option linter.unusedVariables false

/-- no block older than this one -/
def FrA (B : Nat) (A : Option Addr) : Prop := ∀ a, A = some a → B ≤ a.block
theorem FrA.none {B : Nat} : FrA B Option.none := fun a h => by cases h
theorem FrA.at {B b o : Nat} {s : Option Nat} (h : B ≤ b) : FrA B (some ⟨b, o, s⟩) := fun a e => by injection e with e; subst e; exact h
theorem FrA.mono {B C : Nat} {A : Option Addr} (h : FrA B A) (hc : C ≤ B) : FrA C A := fun a e => Nat.le_trans hc (h a e)
theorem Own.fr {w : World} {base : Nat} {e : TypeId} {A : Option Addr} {n cap : Nat} {v : Value} {l : List Int} (h : Own 1 iEnc w base e v l) (hv : v = .slice A n cap) : FrA base A := by
  subst hv
  rcases h.2 with ⟨h0, -⟩ | ⟨g, c, cur, h0, hg, -⟩
  · injection h0 with h0; subst h0; exact FrA.none
  · injection h0 with h0; subst h0; exact FrA.at hg
theorem Own.take {w : World} {base : Nat} {e : TypeId} {A : Option Addr} {n cap : Nat} {l : List Int} (h : Own 1 iEnc w base e (.slice A n cap) l) {k : Nat} (hk : k ≤ n) : Own 1 iEnc w base e (.slice A k cap) (l.take k) := by
  have hfl : ∀ l : List Int, l.flatMap iEnc = l.map (fun x => Value.int .i64 x) := fun l => by
    induction l with
    | nil => rfl
    | cons x l ih => rw [List.flatMap_cons, ih]; rfl
  obtain ⟨h1, h2⟩ := h
  rcases h2 with ⟨h2, h3⟩ | ⟨g, c, cur, h2, h3, h4, h5, h6, h7, h8⟩
  · injection h2 with a1 a2 a3
    subst a1 a2 a3
    have : l = [] := List.eq_nil_of_length_eq_zero h3
    subst this
    have hk0 : k = 0 := by omega
    subst hk0
    exact Own.nil
  · injection h2 with a1 a2 a3
    subst a1 a2 a3
    have hlen : (l.take k).length = k := by rw [List.length_take]; omega
    unfold Own
    rw [hlen]
    refine ⟨by rw [hfl, List.length_map, hlen, Nat.mul_one], .inr ⟨g, cap, cur, rfl, h3, h4, by omega, h6, h7, ?_⟩⟩
    rw [hfl, List.map_take, ← hfl, ← h8, List.take_take, Nat.min_eq_left (by omega), Nat.mul_one]
/-- what a call returns: digits in a slice of its own -/
def OwnD (w w' : World) (v : Value) (l : List Int) : Prop := Own 1 iEnc w' w.heap.size 3 v l
theorem dlen {l : List Int} (h : l.length ≤ 100000) : l.length ≤ 140737488351232 := by omega
set_option maxRecDepth 100000 in
set_option maxHeartbeats 1000000 in
theorem clone_any (A : Option Addr) (n cap : Nat) (l : List Int) (w : World) (hl : RdI w w.heap.size A n cap l) (hn2 : n ≤ 100000) :
    Calls Tryd.prog 27 #[.slice A n cap] w fun e w' => (∃ v, e = .returned v ∧ Own 1 iEnc w' w.heap.size 3 v l) ∧ Below w.heap.size w w' := by
  obtain ⟨i0, hi0, hz0, hz1, hz2⟩ := info_parts int_info
  have hlen := hl.len
  have ho0 : Own 1 iEnc (w.alloc (.cells #[] 3)) w.heap.size 3 (.slice (some ⟨w.heap.size, 0, none⟩) 0 0) ([] : List Int) := Own.lit iSized (Nat.le_refl _) [] #[] rfl rfl (by omega)
  have hb0 := (Below.refl w.heap.size w).alloc (Nat.le_refl _) (.cells #[] 3)
  cases A with
  | none =>
    have hn0 : n = 0 := by
      rcases Nat.eq_zero_or_pos n with h | h
      · exact h
      · obtain ⟨b, off, h, _⟩ := hl.2.2.2 h; cases h
    have hl0 : l = [] := List.eq_nil_of_length_eq_zero (by omega)
    subst hl0 hn0
    have hnil := fun w => run_eql_slice_nil (P := Tryd.prog) w 22 3 none 0 cap Tryd.underlying22
    clear ho0 hb0 hl hlen
    go_enter Tryd.func27, Tryd.ntmps27
    go_wp2
    go_ret
    exact ⟨⟨_, rfl, Own.nil⟩, Below.refl _ _⟩
  | some a =>
    have hnil := fun w => run_eql_slice_nil (P := Tryd.prog) w 22 3 (some a) n cap Tryd.underlying22
    clear hlen
    go_enter Tryd.func27, Tryd.ntmps27
    go_wp2_with (at_builtin
                 refine wpList_app _ iSized rfl _ _ 22 rfl w.heap.size 3 i0 _ 8 Tryd.underlying22 hi0 hz0 hz1 hz2 rfl _ [] rfl ho0 _ _ n cap l rfl (hl.up (flat_lasts _) hb0) (by simp only [maxLen, List.length_nil]; omega) (by simp only [List.length_nil]; omega) (by simp) ?_
                 intro v4 w4 ho4 hg4 hx4
                 have hb4 : Below w.heap.size w w4 := Own.grow ho0 (Nat.le_refl _) hb0 (by simp) hg4)
    go_ret
    rw [List.nil_append] at ho4
    exact ⟨⟨_, rfl, ho4⟩, hb4⟩
/-- trim at the end of a function: own digits, cut -/
theorem trim_own (base g n cap : Nat) (f : Nat → Int) (w : World) (ho : Own 1 iEnc w base 3 (.slice (some ⟨g, 0, none⟩) n cap) (ofF n f)) (hn : n ≤ 100000) (hf : Dg f n) :
    Calls Tryd.prog 36 #[.slice (some ⟨g, 0, none⟩) n cap] w fun e w' => (∃ v, e = .returned v ∧ Own 1 iEnc w' base 3 v (digs (vF f n).toNat)) ∧ w = w' := by
  obtain ⟨A2, cc2, hv, hr2⟩ := ho.rd iSized (by rw [ofF_len]; omega)
  rw [ofF_len] at hv hr2
  injection hv with h1 h2 h3
  subst h1 h3
  refine (trim_any _ n _ (ofF n f) w hr2).mono ?_
  rintro e w' ⟨⟨k, hk, rfl, htr⟩, rfl⟩
  refine ⟨⟨_, rfl, ?_⟩, rfl⟩
  have h1 := ho.take hk
  rw [← htr, trimL_digs hf.ok, val_ofF] at h1
  exact h1
set_option maxRecDepth 100000 in
set_option maxHeartbeats 2000000 in
/-- add, where the first one is not shorter -/
theorem add_long (A A2 : Option Addr) (n cap n2 cap2 : Nat) (a b : List Int) (w : World) (ha : RdI w w.heap.size A n cap a) (hb : RdI w w.heap.size A2 n2 cap2 b) (da : DgOk a) (db : DgOk b) (hn : n ≤ 10000) (hle : n2 ≤ n) :
    Calls Tryd.prog 31 #[.slice A n cap, .slice A2 n2 cap2] w fun e w' => (∃ v, e = .returned v ∧ Own 1 iEnc w' w.heap.size 3 v (digs (val a + val b).toNat)) ∧ Below w.heap.size w w' := by
  obtain ⟨i0, hi0, hz0, hz1, hz2⟩ := info_parts int_info
  have hla := ha.len
  have hlb := hb.len
  have hd : decide ((n : Int) < (n2 : Int)) = false := by simp; omega
  have Hval := Lib.hid (show val a + val b = vF (gi a) n + vF (padF n2 (gi b)) n from by rw [val_vF hla, val_vF hlb, vF_pad n hle])
  have Hda := Lib.hid (da.at hla)
  have Hdb := Lib.hid (show ∀ i, 0 ≤ padF n2 (gi b) i ∧ padF n2 (gi b) i < 1048576 from fun i => by
    unfold padF
    split
    · rename_i h; exact db.at hlb i h
    · omega)
  have hpad : ∀ i, padF n2 (gi b) i = if i < n2 then gi b i else 0 := fun _ => rfl
  have Hpad := Lib.hid hpad
  have hw1 : IntKind.i64.wrap ((n : Int) + 1) = ((n + 1 : Nat) : Int) := by rw [IntWalk.i64_in _ (by omega)]; omega
  clear hpad hla hlb da db
  generalize padF n2 (gi b) = bf at *
  go_enter Tryd.func31, Tryd.ntmps31
  go_wp2_with (at_make; refine wpList_mk _ iSized 0 rfl _ _ 22 rfl w.heap.size 3 i0 (.int .i64 0) Tryd.underlying22 hi0 hz0 hz1 rfl _ _ _ _ (n + 1) rfl rfl (by first | rfl | omega) (by first | rfl | omega) (by rw [hz2]; omega) (by unfold maxLen; omega) (Nat.le_refl _) ?_
               intro w2 ho2 hg2
               have hb2 : Below w.heap.size w w2 := (Below.refl _ _).grown hg2 (Nat.le_refl _) (by intro k hk; cases hk))
  clear hg2
  go_loopg [6, 22] n (fun gk c i wr => ∃ (k : Nat) (cv : Int) (o : Nat → Int), k ≤ n ∧ gk = n - k ∧ i = .int .i64 k ∧ c = .int .i64 cv ∧ AddI (gi a) bf o k cv ∧ Own 1 iEnc wr w.heap.size 3 (.slice (some ⟨w.heap.size, 0, none⟩) (n + 1) (n + 1)) (ofF (n + 1) o) ∧ Below w.heap.size w wr)
  case atStart => exact ⟨0, 0, fun _ => 0, Nat.zero_le _, rfl, rfl, rfl, AddI.zero, by rw [← ofF_rep]; exact ho2, hb2⟩
  case round =>
    clear ho2 hb2
    obtain ⟨k, cv, o, hk, rfl, rfl, rfl, hI, ho, hbel⟩ := hrel
    have HI := Lib.hid hI
    obtain ⟨hc0, hc1⟩ := hI.2.2
    clear hI
    by_cases hlt : k < n
    · obtain ⟨b1, o1, x, rfl, hb1, hx, c0⟩ := ha.atI hlt
      have Hx := Lib.hid (gi_eq hx)
      have hxd := Hda.out k hlt
      rw [Hx.out] at hxd
      have c0' := (hbel.cell (p := ⟨b1, o1 + k, none⟩) hb1).trans c0
      obtain ⟨z0, z1⟩ := ho.cellI (i := k) (by omega)
      have hki : (k : Int) < (n : Int) := by omega
      have hk0 : (0 : Int) ≤ (k : Int) := by omega
      have hkn : (k : Int) < (n : Int) + 1 := by omega
      have hwc : IntKind.i64.wrap (cv + x) = cv + x := IntWalk.i64_in _ (by omega)
      clear hx c0
      by_cases hk2 : k < n2
      · obtain ⟨b2, o2, y, rfl, hb2, hy, d0⟩ := hb.atI hk2
        have Hy := Lib.hid (show bf k = y from by rw [Hpad.out, if_pos hk2]; exact gi_eq hy)
        have hyd := Hdb.out k
        rw [Hy.out] at hyd
        have d0' := (hbel.cell (p := ⟨b2, o2 + k, none⟩) hb2).trans d0
        have hwc2 : IntKind.i64.wrap (cv + x + y) = cv + x + y := IntWalk.i64_in _ (by omega)
        have hmask := and_mask (cv + x + y)
        have hN := (HI.out.congr (o' := fun j => if j = k then (cv + x + y) % 1048576 else o j) (fun j hj => if_neg (by omega))).step (by rw [Hx.out]; exact hxd) (by rw [Hy.out]; exact hyd) (by rw [if_pos rfl, Hx.out, Hy.out])
        rw [Hx.out, Hy.out] at hN
        have HN := Lib.hid hN
        have ho3 := ho.setI (i := k) (by omega) ((cv + x + y) % 1048576)
        have hb3 := hbel.setCell (p := ⟨w.heap.size, k, none⟩) (Nat.le_refl _) (.int .i64 ((cv + x + y) % 1048576))
        clear hN hy d0 ho hbel
        go_wp2
        go_roundg (n - (k + 1))
        case rel => exact ⟨k + 1, _, _, by omega, rfl, by go_num, rfl, HN.out, ho3, hb3⟩
        case measure => omega
      · have hdk : decide (k < n2) = false := by simp; omega
        have Hy := Lib.hid (show bf k = 0 from by rw [Hpad.out, if_neg hk2])
        have hmask := and_mask (cv + x)
        have hN := (HI.out.congr (o' := fun j => if j = k then (cv + x) % 1048576 else o j) (fun j hj => if_neg (by omega))).step (by rw [Hx.out]; exact hxd) (by rw [Hy.out]; omega) (by rw [if_pos rfl, Hx.out, Hy.out, Int.add_zero])
        rw [Hx.out, Hy.out, Int.add_zero] at hN
        have HN := Lib.hid hN
        have ho3 := ho.setI (i := k) (by omega) ((cv + x) % 1048576)
        have hb3 := hbel.setCell (p := ⟨w.heap.size, k, none⟩) (Nat.le_refl _) (.int .i64 ((cv + x) % 1048576))
        clear hN ho hbel hk2
        go_wp2
        go_roundg (n - (k + 1))
        case rel => exact ⟨k + 1, _, _, by omega, rfl, by go_num, rfl, HN.out, ho3, hb3⟩
        case measure => omega
    · have ee : k = n := by omega
      subst ee
      obtain ⟨z0, z1⟩ := ho.cellI (i := k) (by omega)
      have ho3 := ho.setI (i := k) (by omega) cv
      have hb3 := hbel.setCell (p := ⟨w.heap.size, k, none⟩) (Nat.le_refl _) (.int .i64 cv)
      obtain ⟨f1, f2⟩ := (HI.out.congr (o' := fun j => if j = k then cv else o j) (fun j hj => if_neg (by omega))).fin (if_pos rfl)
      have hkn : (k : Int) < (k : Int) + 1 := by omega
      have hk0 : (0 : Int) ≤ (k : Int) := by omega
      have Hf1 := Lib.hid f1; have Hf2 := Lib.hid f2
      clear f1 f2 ho hbel
      go_wp2_with fail
      refine (trim_own w.heap.size _ _ _ _ _ ho3 (by omega) Hf2.out).mono ?_
      rintro e _ ⟨⟨v, rfl, hv⟩, rfl⟩
      rw [Hf1.out, ← Hval.out] at hv
      go_wp2
      go_ret
      exact ⟨⟨_, rfl, hv⟩, hb3⟩
set_option maxRecDepth 100000 in
set_option maxHeartbeats 2000000 in
/-- add, where the first one is shorter -/
theorem add_short (A A2 : Option Addr) (n cap n2 cap2 : Nat) (a b : List Int) (w : World) (ha : RdI w w.heap.size A n cap a) (hb : RdI w w.heap.size A2 n2 cap2 b) (da : DgOk a) (db : DgOk b) (hn : n ≤ 10000) (hlt0 : n2 < n) :
    Calls Tryd.prog 31 #[.slice A2 n2 cap2, .slice A n cap] w fun e w' => (∃ v, e = .returned v ∧ Own 1 iEnc w' w.heap.size 3 v (digs (val a + val b).toNat)) ∧ Below w.heap.size w w' := by
  obtain ⟨i0, hi0, hz0, hz1, hz2⟩ := info_parts int_info
  have hla := ha.len
  have hlb := hb.len
  have hd : decide ((n2 : Int) < (n : Int)) = true := by simp; omega
  have hle : n2 ≤ n := by omega
  have Hval := Lib.hid (show val a + val b = vF (gi a) n + vF (padF n2 (gi b)) n from by rw [val_vF hla, val_vF hlb, vF_pad n hle])
  have Hda := Lib.hid (da.at hla)
  have Hdb := Lib.hid (show ∀ i, 0 ≤ padF n2 (gi b) i ∧ padF n2 (gi b) i < 1048576 from fun i => by
    unfold padF
    split
    · rename_i h; exact db.at hlb i h
    · omega)
  have hpad : ∀ i, padF n2 (gi b) i = if i < n2 then gi b i else 0 := fun _ => rfl
  have Hpad := Lib.hid hpad
  have hw1 : IntKind.i64.wrap ((n : Int) + 1) = ((n + 1 : Nat) : Int) := by rw [IntWalk.i64_in _ (by omega)]; omega
  clear hpad hla hlb da db
  generalize padF n2 (gi b) = bf at *
  go_enter Tryd.func31, Tryd.ntmps31
  go_wp2_with (at_make; refine wpList_mk _ iSized 0 rfl _ _ 22 rfl w.heap.size 3 i0 (.int .i64 0) Tryd.underlying22 hi0 hz0 hz1 rfl _ _ _ _ (n + 1) rfl rfl (by first | rfl | omega) (by first | rfl | omega) (by rw [hz2]; omega) (by unfold maxLen; omega) (Nat.le_refl _) ?_
               intro w2 ho2 hg2
               have hb2 : Below w.heap.size w w2 := (Below.refl _ _).grown hg2 (Nat.le_refl _) (by intro k hk; cases hk))
  clear hg2
  go_loopg [6, 22] n (fun gk c i wr => ∃ (k : Nat) (cv : Int) (o : Nat → Int), k ≤ n ∧ gk = n - k ∧ i = .int .i64 k ∧ c = .int .i64 cv ∧ AddI (gi a) bf o k cv ∧ Own 1 iEnc wr w.heap.size 3 (.slice (some ⟨w.heap.size, 0, none⟩) (n + 1) (n + 1)) (ofF (n + 1) o) ∧ Below w.heap.size w wr)
  case atStart => exact ⟨0, 0, fun _ => 0, Nat.zero_le _, rfl, rfl, rfl, AddI.zero, by rw [← ofF_rep]; exact ho2, hb2⟩
  case round =>
    clear ho2 hb2
    obtain ⟨k, cv, o, hk, rfl, rfl, rfl, hI, ho, hbel⟩ := hrel
    have HI := Lib.hid hI
    obtain ⟨hc0, hc1⟩ := hI.2.2
    clear hI
    by_cases hlt : k < n
    · obtain ⟨b1, o1, x, rfl, hb1, hx, c0⟩ := ha.atI hlt
      have Hx := Lib.hid (gi_eq hx)
      have hxd := Hda.out k hlt
      rw [Hx.out] at hxd
      have c0' := (hbel.cell (p := ⟨b1, o1 + k, none⟩) hb1).trans c0
      obtain ⟨z0, z1⟩ := ho.cellI (i := k) (by omega)
      have hki : (k : Int) < (n : Int) := by omega
      have hk0 : (0 : Int) ≤ (k : Int) := by omega
      have hkn : (k : Int) < (n : Int) + 1 := by omega
      have hwc : IntKind.i64.wrap (cv + x) = cv + x := IntWalk.i64_in _ (by omega)
      clear hx c0
      by_cases hk2 : k < n2
      · obtain ⟨b2, o2, y, rfl, hb2, hy, d0⟩ := hb.atI hk2
        have Hy := Lib.hid (show bf k = y from by rw [Hpad.out, if_pos hk2]; exact gi_eq hy)
        have hyd := Hdb.out k
        rw [Hy.out] at hyd
        have d0' := (hbel.cell (p := ⟨b2, o2 + k, none⟩) hb2).trans d0
        have hwc2 : IntKind.i64.wrap (cv + x + y) = cv + x + y := IntWalk.i64_in _ (by omega)
        have hmask := and_mask (cv + x + y)
        have hN := (HI.out.congr (o' := fun j => if j = k then (cv + x + y) % 1048576 else o j) (fun j hj => if_neg (by omega))).step (by rw [Hx.out]; exact hxd) (by rw [Hy.out]; exact hyd) (by rw [if_pos rfl, Hx.out, Hy.out])
        rw [Hx.out, Hy.out] at hN
        have HN := Lib.hid hN
        have ho3 := ho.setI (i := k) (by omega) ((cv + x + y) % 1048576)
        have hb3 := hbel.setCell (p := ⟨w.heap.size, k, none⟩) (Nat.le_refl _) (.int .i64 ((cv + x + y) % 1048576))
        clear hN hy d0 ho hbel
        go_wp2
        go_roundg (n - (k + 1))
        case rel => exact ⟨k + 1, _, _, by omega, rfl, by go_num, rfl, HN.out, ho3, hb3⟩
        case measure => omega
      · have hdk : decide (k < n2) = false := by simp; omega
        have Hy := Lib.hid (show bf k = 0 from by rw [Hpad.out, if_neg hk2])
        have hmask := and_mask (cv + x)
        have hN := (HI.out.congr (o' := fun j => if j = k then (cv + x) % 1048576 else o j) (fun j hj => if_neg (by omega))).step (by rw [Hx.out]; exact hxd) (by rw [Hy.out]; omega) (by rw [if_pos rfl, Hx.out, Hy.out, Int.add_zero])
        rw [Hx.out, Hy.out, Int.add_zero] at hN
        have HN := Lib.hid hN
        have ho3 := ho.setI (i := k) (by omega) ((cv + x) % 1048576)
        have hb3 := hbel.setCell (p := ⟨w.heap.size, k, none⟩) (Nat.le_refl _) (.int .i64 ((cv + x) % 1048576))
        clear hN ho hbel hk2
        go_wp2
        go_roundg (n - (k + 1))
        case rel => exact ⟨k + 1, _, _, by omega, rfl, by go_num, rfl, HN.out, ho3, hb3⟩
        case measure => omega
    · have ee : k = n := by omega
      subst ee
      obtain ⟨z0, z1⟩ := ho.cellI (i := k) (by omega)
      have ho3 := ho.setI (i := k) (by omega) cv
      have hb3 := hbel.setCell (p := ⟨w.heap.size, k, none⟩) (Nat.le_refl _) (.int .i64 cv)
      obtain ⟨f1, f2⟩ := (HI.out.congr (o' := fun j => if j = k then cv else o j) (fun j hj => if_neg (by omega))).fin (if_pos rfl)
      have hkn : (k : Int) < (k : Int) + 1 := by omega
      have hk0 : (0 : Int) ≤ (k : Int) := by omega
      have Hf1 := Lib.hid f1; have Hf2 := Lib.hid f2
      clear f1 f2 ho hbel
      go_wp2_with fail
      refine (trim_own w.heap.size _ _ _ _ _ ho3 (by omega) Hf2.out).mono ?_
      rintro e _ ⟨⟨v, rfl, hv⟩, rfl⟩
      rw [Hf1.out, ← Hval.out] at hv
      go_wp2
      go_ret
      exact ⟨⟨_, rfl, hv⟩, hb3⟩
set_option maxRecDepth 100000 in
set_option maxHeartbeats 2000000 in
theorem badd_any (A A2 : Option Addr) (n cap n2 cap2 : Nat) (a b : List Int) (w : World) (ha : RdI w w.heap.size A n cap a) (hb : RdI w w.heap.size A2 n2 cap2 b) (da : DgOk a) (db : DgOk b) (hn : n ≤ 10000) (hn2 : n2 ≤ 10000) :
    Calls Tryd.prog 31 #[.slice A n cap, .slice A2 n2 cap2] w fun e w' => (∃ v, e = .returned v ∧ Own 1 iEnc w' w.heap.size 3 v (digs (val a + val b).toNat)) ∧ Below w.heap.size w w' := by
  by_cases h : n2 ≤ n
  · exact add_long A A2 n cap n2 cap2 a b w ha hb da db hn h
  · rw [Int.add_comm]
    exact add_short A2 A n2 cap2 n cap b a w hb ha db da hn2 (by omega)
set_option maxRecDepth 100000 in
set_option maxHeartbeats 2000000 in
theorem bsub_any (A A2 : Option Addr) (n cap n2 cap2 : Nat) (a b : List Int) (w : World) (ha : RdI w w.heap.size A n cap a) (hb : RdI w w.heap.size A2 n2 cap2 b) (da : DgOk a) (db : DgOk b) (hn : n ≤ 10000) (hn2 : n2 ≤ n) (hle : val b ≤ val a) :
    Calls Tryd.prog 32 #[.slice A n cap, .slice A2 n2 cap2] w fun e w' => (∃ v, e = .returned v ∧ Own 1 iEnc w' w.heap.size 3 v (digs (val a - val b).toNat)) ∧ Below w.heap.size w w' := by
  have hla := ha.len
  have hlb := hb.len
  have Hval := Lib.hid (show vF (gi a) n - vF (padF n2 (gi b)) n = val a - val b from by rw [val_vF hla, val_vF hlb, vF_pad n hn2])
  have Hle := Lib.hid (show vF (padF n2 (gi b)) n ≤ vF (gi a) n from by rw [vF_pad n hn2, ← val_vF hla, ← val_vF hlb]; exact hle)
  have Hda := Lib.hid (da.at hla)
  have Hdb := Lib.hid (show ∀ i, 0 ≤ padF n2 (gi b) i ∧ padF n2 (gi b) i < 1048576 from fun i => by
    unfold padF
    split
    · rename_i h; exact db.at hlb i h
    · omega)
  have hpad : ∀ i, padF n2 (gi b) i = if i < n2 then gi b i else 0 := fun _ => rfl
  have Hpad := Lib.hid hpad
  have Hla := Lib.hid (ofF_gi hla)
  have hlen := hla
  clear hpad hla hlb da db hle
  generalize padF n2 (gi b) = bf at *
  go_enter Tryd.func32, Tryd.ntmps32
  go_wp2_with fail
  refine (clone_any A n cap a w ha (by omega)).mono ?_
  rintro e w1 ⟨⟨v, rfl, ho⟩, hb1⟩
  obtain ⟨A3, c3, hv, -⟩ := ho.rd iSized (by rw [hlen]; omega)
  rw [hlen] at hv
  subst hv
  rw [← Hla.out] at ho
  have hcap3 : n ≤ c3 ∧ c3 ≤ 9223372036854775807 := by
    obtain ⟨A4, c4, h4, r4⟩ := ho.rd iSized (by rw [ofF_len]; omega)
    rw [ofF_len] at h4 r4
    injection h4 with e1 e2 e3
    subst e3
    exact ⟨r4.caps.1, r4.caps.2.1⟩
  rcases Nat.eq_zero_or_pos n with hn0 | hn0
  · subst hn0
    have hn20 : n2 = 0 := by omega
    subst hn20
    have hz : digs (val a - val b).toNat = [] := by rw [← Hval.out]; exact digs_zero
    obtain ⟨A4, c4, h4, r4⟩ := ho.rd iSized (by rw [ofF_len]; omega)
    rw [ofF_len] at h4 r4
    injection h4 with e1 e2 e3
    subst e1 e3
    have Ho := Lib.hid ho
    have Hz := Lib.hid hz
    clear hz ho hlen
    go_wp2
    refine wp_loop_rounds 1 ?_
    rw [rounds_succ]
    go_wp2_with fail
    refine (trim_any _ 0 _ _ w1 r4).mono ?_
    rintro e w2 ⟨⟨k, hk, rfl, htr⟩, rfl⟩
    have hk0 : k = 0 := by omega
    subst hk0
    go_wp2
    go_ret
    exact ⟨⟨_, rfl, by rw [Hz.out]; exact Ho.out⟩, hb1⟩
  obtain ⟨g, c, hg, hg1, hg2, -⟩ := ho.form (by rw [ofF_len]; omega)
  have hg3' : w.heap.size ≤ g := hg1
  injection hg with e1 e2 e3
  subst e1
  clear e2 e3
  go_wp2
  go_loopg [6, 13] n (fun gk bo i wr => ∃ (k : Nat) (cv : Int) (o : Nat → Int), k ≤ n ∧ gk = n - k ∧ i = .int .i64 k ∧ bo = .int .i64 cv ∧ SubI (gi a) bf o k cv ∧ (∀ j, k ≤ j → o j = gi a j) ∧ Own 1 iEnc wr w.heap.size 3 (.slice (some ⟨g, 0, none⟩) n c3) (ofF n o) ∧ Below w.heap.size w wr)
  case atStart => exact ⟨0, 0, gi a, Nat.zero_le _, rfl, rfl, rfl, SubI.zero, (fun j _ => rfl), ho, hb1⟩
  case round =>
    clear ho hb1
    obtain ⟨k, cv, o, hk, rfl, rfl, rfl, hI, hoa, ho, hbel⟩ := hrel
    have HI := Lib.hid hI; have Hoa := Lib.hid hoa
    obtain ⟨hc0, hc1⟩ := hI.2.2
    clear hI hoa
    by_cases hlt : k < n
    · obtain ⟨z0, z1⟩ := ho.cellI hlt
      have hok := Hoa.out k (Nat.le_refl _)
      have hxd := Hda.out k hlt
      obtain ⟨x, hx⟩ : ∃ x, gi a k = x := ⟨_, rfl⟩
      rw [hok, hx] at z0
      rw [hx] at hxd
      have Hx := Lib.hid hx
      have hki : (k : Int) < (n : Int) := by omega
      have hk0 : (0 : Int) ≤ (k : Int) := by omega
      have hwc : IntKind.i64.wrap (x - cv) = x - cv := IntWalk.i64_in _ (by omega)
      clear hx hok
      by_cases hk2 : k < n2
      · obtain ⟨b2, o2, y, rfl, hb2, hy, d0⟩ := hb.atI hk2
        have Hy := Lib.hid (show bf k = y from by rw [Hpad.out, if_pos hk2]; exact gi_eq hy)
        have hyd := Hdb.out k
        rw [Hy.out] at hyd
        have d0' := (hbel.cell (p := ⟨b2, o2 + k, none⟩) hb2).trans d0
        have hwc2 : IntKind.i64.wrap (x - cv - y) = x - cv - y := IntWalk.i64_in _ (by omega)
        have hmask := and_mask (x - cv - y)
        have hbit : bits .and .i64 ((x - cv - y) / 1048576) 1 = -((x - cv - y) / 1048576) := by rw [and_bit]; omega
        have hN := (HI.out.congr (o' := fun j => if j = k then (x - cv - y) % 1048576 else o j) (fun j hj => if_neg (by omega))).step (by rw [Hx.out]; exact hxd) (by rw [Hy.out]; exact hyd) (by rw [if_pos rfl, Hx.out, Hy.out])
        rw [Hx.out, Hy.out] at hN
        have HN := Lib.hid hN
        have HO := Lib.hid (show ∀ j, k + 1 ≤ j → (if j = k then (x - cv - y) % 1048576 else o j) = gi a j from fun j hj => by rw [if_neg (by omega)]; exact Hoa.out j (by omega))
        have ho3 := ho.setI hlt ((x - cv - y) % 1048576)
        have hb3 := hbel.setCell (p := ⟨g, k, none⟩) hg3' (.int .i64 ((x - cv - y) % 1048576))
        clear hN hy d0 ho hbel
        go_wp2
        go_roundg (n - (k + 1))
        case rel => exact ⟨k + 1, _, _, by omega, rfl, by go_num, rfl, HN.out, HO.out, ho3, hb3⟩
        case measure => omega
      · have hdk : decide (k < n2) = false := by simp; omega
        have Hy := Lib.hid (show bf k = 0 from by rw [Hpad.out, if_neg hk2])
        have hmask := and_mask (x - cv)
        have hbit : bits .and .i64 ((x - cv) / 1048576) 1 = -((x - cv) / 1048576) := by rw [and_bit]; omega
        have hN := (HI.out.congr (o' := fun j => if j = k then (x - cv) % 1048576 else o j) (fun j hj => if_neg (by omega))).step (by rw [Hx.out]; exact hxd) (by rw [Hy.out]; omega) (by rw [if_pos rfl, Hx.out, Hy.out, Int.sub_zero])
        rw [Hx.out, Hy.out, Int.sub_zero] at hN
        have HN := Lib.hid hN
        have HO := Lib.hid (show ∀ j, k + 1 ≤ j → (if j = k then (x - cv) % 1048576 else o j) = gi a j from fun j hj => by rw [if_neg (by omega)]; exact Hoa.out j (by omega))
        have ho3 := ho.setI hlt ((x - cv) % 1048576)
        have hb3 := hbel.setCell (p := ⟨g, k, none⟩) hg3' (.int .i64 ((x - cv) % 1048576))
        clear hN ho hbel hk2
        go_wp2
        go_roundg (n - (k + 1))
        case rel => exact ⟨k + 1, _, _, by omega, rfl, by go_num, rfl, HN.out, HO.out, ho3, hb3⟩
        case measure => omega
    · have ee : k = n := by omega
      subst ee
      have Hd := Lib.hid HI.out.2.1
      have Hv := Lib.hid (HI.out.fin Hle.out)
      go_wp2_with fail
      refine (trim_own w.heap.size g k c3 o wr ho (by omega) Hd.out).mono ?_
      rintro e _ ⟨⟨v, rfl, hv⟩, rfl⟩
      rw [Hv.out, Hval.out] at hv
      go_wp2
      go_ret
      exact ⟨⟨_, rfl, hv⟩, hbel⟩
end Go.Proofs.YtkeajohkpmabcaaDoor
