/- Laws and walks; conditions stand in each theorem. -/
import Derived.Test.YtdlcglndhhndpaaGreatL26
import Derived.Test.YtdlcglndhhndpaaGreatL29
set_option linter.unusedSimpArgs false
set_option linter.unusedVariables false
set_option maxHeartbeats 4000000
set_option maxRecDepth 100000
namespace Go.Proofs.YtdlcglndhhndpaaGreat
open Go.RowKit
section
variable {w W W' : World} {D : List Hl}
def allS (W : World) : Nat → Prop := fun b => b < W.heap.size
def rowP (x : Rr) : World → Prop := x.on
def rrP (A : Option Addr) (n cap : Nat) (l : List Rv) : World → Prop := fun W => RdR W W.heap.size A n cap l
theorem St.addA (h : St w [] D W) {P : World → Prop} (hP : ∀ W' : World, W.heap.size ≤ W'.heap.size → (∀ b, b < W.heap.size → W'.heap[b]? = W.heap[b]?) → P W') : St w [] (⟨P, allS W⟩ :: D) W :=
 h.add ⟨hP W (Nat.le_refl _) (fun _ _ => rfl), fun b hb => ⟨hb, fun p hp => by cases hp⟩, fun W' h1 h2 => hP W' h1 h2⟩
theorem St.addF (h : St w [] D W) {A : Option Addr} {n cap : Nat} {l : List Fv} (hl : RdF W W.heap.size A n cap l) : St w [] (⟨rfQ A n cap l, allS W⟩ :: D) W := h.addA fun W' h1 h2 => hl.keep fE_lasts h1 fun p hp => cell_of (h2 _ hp)
theorem St.addI (h : St w [] D W) {A : Option Addr} {n cap : Nat} {l : List Int} (hl : RdI W W.heap.size A n cap l) : St w [] (⟨rdP A n cap l, allS W⟩ :: D) W := h.addA fun W' h1 h2 => hl.keep (flat_lasts _) h1 fun p hp => cell_of (h2 _ hp)
theorem St.addR (h : St w [] D W) {A : Option Addr} {n cap : Nat} {l : List Rv} (hl : RdR W W.heap.size A n cap l) : St w [] (⟨rrP A n cap l, allS W⟩ :: D) W := h.addA fun W' h1 h2 => hl.keep rE_lasts h1 fun p hp => cell_of (h2 _ hp)
theorem St.addRow (h : St w [] D W) {x : Rr} (hx : x.on W) : St w [] (⟨rowP x, allS W⟩ :: D) W := h.addA fun W' h1 h2 => ⟨hx.1.keep fE_lasts h1 (fun p hp => cell_of (h2 _ hp)), hx.2.1.keep (flat_lasts _) h1 (fun p hp => cell_of (h2 _ hp)), hx.2.2.keep (flat_lasts _) h1 (fun p hp => cell_of (h2 _ hp))⟩
theorem St.getR (h : St w [] D W) {A : Option Addr} {n cap : Nat} {l : List Rv} {S : Nat → Prop} (hm : (⟨rrP A n cap l, S⟩ : Hl) ∈ D) : RdR W W.heap.size A n cap l := h.at hm
theorem St.getRow (h : St w [] D W) {x : Rr} {S : Nat → Prop} (hm : (⟨rowP x, S⟩ : Hl) ∈ D) : x.on W := h.at hm
theorem litE {α β : Type} {sz : Nat} {enc : α → List Value} {R : Enc β} (hs : Sized sz enc) (f : α → β) (on : α → World → Prop) (hon : ∀ x W', on x W' → R W' W'.heap.size (f x) (enc x)) (xs : List α) (T : TypeId) (cs : Array Value) (hx : ∀ x ∈ xs, on x (W.alloc (.cells cs T))) (hcs : cs = (xs.flatMap enc).toArray) (n H : Nat) (hH : W.heap.size = H) (hn : xs.length = n) (hb : n ≤ 1000) : Rd sz R (W.alloc (.cells cs T)) (W.alloc (.cells cs T)).heap.size (some ⟨H, 0, none⟩) n n (xs.map f) := by
 subst hH hn
 refine ⟨by simp, Nat.le_refl _, ⟨by omega, by omega⟩, fun hn => ⟨W.heap.size, 0, rfl, by simp, fun k hk => ?_⟩⟩
 have hk' : k < xs.length := by simpa using hk
 refine ⟨enc xs[k], ?_, (hs.2 _).1, fun j u hu => ?_⟩
 · have e : (xs.map f)[k] = f xs[k] := by simp
   rw [e]
   exact hon _ _ (hx xs[k] (List.getElem_mem hk'))
 · have hj : j < sz := by
    have := (List.getElem?_eq_some_iff.1 hu).1
    rw [(hs.2 _).1] at this
    exact this
   refine new_cell rfl ?_
   rw [hcs, List.getElem?_toArray, Nat.zero_add, flatMap_get hs _ _ _ hj, List.getElem?_eq_getElem hk']
   exact hu
theorem litF (xs : List Rw) (T : TypeId) (cs : Array Value) (hx : ∀ x ∈ xs, x.on (W.alloc (.cells cs T))) (hcs : cs = (xs.flatMap Rw.cs).toArray) (n H : Nat) (hH : W.heap.size = H) (hn : xs.length = n) (hb : n ≤ 1000) : RdF (W.alloc (.cells cs T)) (W.alloc (.cells cs T)).heap.size (some ⟨H, 0, none⟩) n n (xs.map Rw.fv) :=
 litE rw_sized Rw.fv Rw.on (fun x W' h => ⟨_, _, _, _, _, _, rfl, h.1, h.2⟩) xs T cs hx hcs n H hH hn hb
theorem litR (xs : List Rr) (T : TypeId) (cs : Array Value) (hx : ∀ x ∈ xs, x.on (W.alloc (.cells cs T))) (hcs : cs = (xs.flatMap Rr.cs).toArray) (n H : Nat) (hH : W.heap.size = H) (hn : xs.length = n) (hb : n ≤ 1000) : RdR (W.alloc (.cells cs T)) (W.alloc (.cells cs T)).heap.size (some ⟨H, 0, none⟩) n n (xs.map Rr.rv) :=
 litE rr_sized Rr.rv Rr.on (fun x W' h => ⟨_, _, _, _, rfl, h.1, _, _, _, _, _, _, rfl, h.2.1, h.2.2⟩) xs T cs hx hcs n H hH hn hb
end
theorem solve_is {N : Int} {l : List Rv} {r : List Fv} {E : Int} (h : solL N l = (r, E)) (A : Option Addr) (n cap : Nat) (w : World) (hl : RdR w w.heap.size A n cap l) : Calls Tryz.prog 9 #[.slice A n cap, .int .i64 N] w (LstE w r E) := by
 have := lsolve_any N A n cap l w hl
 rw [h] at this
 exact this
theorem kernel_is {N : Int} {l : List Rv} {r : List Fv} {b : Bool} (h : kerL N l = (r, b)) (A : Option Addr) (n cap : Nat) (w : World) (hl : RdR w w.heap.size A n cap l) : Calls Tryz.prog 11 #[.slice A n cap, .int .i64 N] w (LstB w r b) := by
 have := lkernel_any N A n cap l w hl
 rw [h] at this
 exact this
theorem rank_is {N : Int} {l : List Rv} {r E : Int} (h : rankL N l = (r, E)) (A : Option Addr) (n cap : Nat) (w : World) (hl : RdR w w.heap.size A n cap l) : Calls Tryz.prog 13 #[.slice A n cap, .int .i64 N] w fun e w' => e = .returned (.tuple #[.int .i64 r, .int .i64 E]) ∧ Below w.heap.size w w' := by
 have := lrank_any N A n cap l w hl
 rw [h] at this
 exact this
theorem check_is {N : Int} {l : List Rv} {x : List Fv} {b : Bool} (h : checkL N l x = b) (A : Option Addr) (n cap : Nat) (A2 : Option Addr) (n2 cap2 : Nat) (w : World) (hl : RdR w w.heap.size A n cap l) (hx : RdF w w.heap.size A2 n2 cap2 x) : Calls Tryz.prog 18 #[.slice A n cap, .int .i64 N, .slice A2 n2 cap2] w fun e w' => e = .returned (.bool b) ∧ Below w.heap.size w w' := by
 have := lcheck_any N A n cap l A2 n2 cap2 x w hl hx
 rw [h] at this
 exact this
theorem right_is {N : Int} {l : List Rv} {b : Bool} (h : rightL N l = b) (A : Option Addr) (n cap : Nat) (w : World) (hl : RdR w w.heap.size A n cap l) : Calls Tryz.prog 15 #[.slice A n cap, .int .i64 N] w fun e w' => e = .returned (.bool b) ∧ Below w.heap.size w w' := by
 have := lright_any N A n cap l w hl
 rw [h] at this
 exact this
theorem same_is {a b : List Fv} {c : Bool} (h : decide (a = b) = c) (A A2 : Option Addr) (n cap n2 cap2 : Nat) (w : World) (ha : RdF w w.heap.size A n cap a) (hb : RdF w w.heap.size A2 n2 cap2 b) : Calls Tryz.prog 17 #[.slice A n cap, .slice A2 n2 cap2] w fun e w' => e = .returned (.bool c) ∧ Below w.heap.size w w' := by
 have := same6_any A A2 n cap n2 cap2 a b w ha hb
 rw [h] at this
 exact this
def rwI (n : Nat) (l : List Int) : Rv := ⟨ofF n fun i => fvQ ((gi l i : Int) : Rat), fvQ ((gi l n : Int) : Rat)⟩
theorem row_is (n : Nat) (l : List Int) (A : Option Addr) (cap : Nat) (w : World) (hl : RdI w w.heap.size A (n + 1) cap l) (hn : n ≤ 100) (hb : ∀ x ∈ l, -9223372036854775808 ≤ x ∧ x ≤ 9223372036854775807) :
 Calls Tryz.prog 34 #[.slice A (n + 1) cap] w fun e w' => ∃ x : Rr, e = .returned (.agg #[.slice x.A n x.c, .int .i64 x.y.s, .slice x.y.A x.y.n x.y.c, .int .i64 x.y.t, .slice x.y.B x.y.m x.y.d]) ∧ x.n = n ∧ x.on w' ∧ x.rv = rwI n l ∧ Below w.heap.size w w' := by
 refine (row6_any A n cap l w hl hn hb).mono ?_
 rintro e w' ⟨A', c, s, A1, n1, c1, t, A2, n2, c2, rfl, h1, ⟨h2, h3⟩, ⟨rfl, rfl⟩, h4⟩
 unfold rwI
 generalize fvQ ((gi l n : Int) : Rat) = b at *
 generalize hL : (ofF n fun i => fvQ ((gi l i : Int) : Rat)) = L at *
 have hlen : L.length = n := by rw [← hL, ofF_len]
 rw [hlen] at h1 ⊢
 exact ⟨⟨A', n, c, L, ⟨b.s, A1, n1, c1, b.l, b.t, A2, n2, c2, b.m⟩⟩, rfl, rfl, ⟨h1, h2, h3⟩, rfl, h4⟩
def lA : List Rv := [rwI 1 [2, 1]]
def lB : List Rv := [rwI 2 [1, 1, 3], rwI 2 [1, -1, 1]]
def lC : List Rv := [rwI 2 [1, 2, 1], rwI 2 [2, 4, 5]]
theorem sA : solL 1 lA = ([fvQ (Rat.divInt 1 2)], 0) := by decide +kernel
theorem sB : solL 2 lB = ([fvQ ((2 : Int) : Rat), fvQ ((1 : Int) : Rat)], 0) := by decide +kernel
theorem sC : solL 2 lC = ([], 16) := by decide +kernel
theorem kC : kerL 2 lC = ([fvQ ((-2 : Int) : Rat), fvQ ((1 : Int) : Rat)], true) := by decide +kernel
theorem rC : rankL 2 lC = (1, 0) := by decide +kernel
theorem cC : checkL 2 lC [fvQ ((-2 : Int) : Rat), fvQ ((1 : Int) : Rat)] = false := by decide +kernel
theorem r0 : rightL 0 [] = true := by decide +kernel
theorem half6_any (w : World) : Calls Tryz.prog 35 #[.int .i64 1, .int .i64 2] w (FrE w (some (Rat.divInt 1 2)) 0) := by
 have h := gOf_any 1 2 w (by decide) (by decide)
 rw [newO_yes (by decide), newE_yes (by decide)] at h
 exact h
theorem small6_any (w : World) : Calls Tryz.prog 6 #[] w fun e w' => e = .returned (.bool true) ∧ Below w.heap.size w w' := by
 have K := St.start w
 go_enter Tryz.func6, Tryz.ntmps6
 go_wp2_with fail
 replace K := (K.keep ((Below.refl _ _).alloc (Nat.le_refl _) _)).addI (Rd.litG iSized 3 [2, 1] #[.int .i64 2, .int .i64 1] 2 _ rfl rfl rfl (by decide))
 refine (row_is 1 [2, 1] _ 2 _ ?qa (by decide) (by decide)).mono ?_
 case qa => exact K.rd ZMB
 rintro e W' ⟨x1, rfl, hn1, ho, hv1, hb⟩
 replace K := (K.keep hb).addRow ho
 clear ho hb
 go_wp2_with fail
 have hlit := litR [x1] 56 #[.slice x1.A 1 x1.c, .int .i64 x1.y.s, .slice x1.y.A x1.y.n x1.y.c, .int .i64 x1.y.t, .slice x1.y.B x1.y.m x1.y.d] (by
  have K1 := K.keep ((Below.refl _ _).alloc (Nat.le_refl _) (.cells #[.slice x1.A 1 x1.c, .int .i64 x1.y.s, .slice x1.y.A x1.y.n x1.y.c, .int .i64 x1.y.t, .slice x1.y.B x1.y.m x1.y.d] 56))
  intro x hx
  rw [List.mem_singleton.1 hx]
  exact K1.getRow ZMB) (by simp only [List.flatMap_cons, List.flatMap_nil, List.append_nil, Rr.cs, Rw.cs, hn1]) 1 _ rfl rfl (by decide)
 have elit : [x1].map Rr.rv = lA := by simp only [List.map_cons, List.map_nil, hv1]; rfl
 rw [elit] at hlit
 replace K := (K.keep ((Below.refl _ _).alloc (Nat.le_refl _) _)).addR hlit
 clear hlit elit
 refine (solve_is sA _ _ _ _ ?qa).mono ?_
 case qa => exact K.getR ZMB
 rintro e W ⟨A20, c20, rfl, hr, hb⟩
 have hcap20 := hr.caps
 replace K := (K.keep hb).addF (show RdF _ _ A20 1 c20 [fvQ (Rat.divInt 1 2)] from hr)
 clear hb hr
 go_wp2_with fail
 replace K := (K.keep ((Below.refl _ _).alloc (Nat.le_refl _) _)).addI (Rd.litG iSized 3 [1, 1, 3] #[.int .i64 1, .int .i64 1, .int .i64 3] 3 _ rfl rfl rfl (by decide))
 refine (row_is 2 [1, 1, 3] _ 3 _ ?qa (by decide) (by decide)).mono ?_
 case qa => exact K.rd ZMB
 rintro e W' ⟨x2, rfl, hn2, ho, hv2, hb⟩
 replace K := (K.keep hb).addRow ho
 clear ho hb
 go_wp2_with fail
 replace K := (K.keep ((Below.refl _ _).alloc (Nat.le_refl _) _)).addI (Rd.litG iSized 3 [1, -1, 1] #[.int .i64 1, .int .i64 (-1), .int .i64 1] 3 _ rfl rfl rfl (by decide))
 refine (row_is 2 [1, -1, 1] _ 3 _ ?qa (by decide) (by decide)).mono ?_
 case qa => exact K.rd ZMB
 rintro e W' ⟨x3, rfl, hn3, ho, hv3, hb⟩
 replace K := (K.keep hb).addRow ho
 clear ho hb
 go_wp2_with fail
 have hlit := litR [x2, x3] 56 #[.slice x2.A 2 x2.c, .int .i64 x2.y.s, .slice x2.y.A x2.y.n x2.y.c, .int .i64 x2.y.t, .slice x2.y.B x2.y.m x2.y.d, .slice x3.A 2 x3.c, .int .i64 x3.y.s, .slice x3.y.A x3.y.n x3.y.c, .int .i64 x3.y.t, .slice x3.y.B x3.y.m x3.y.d] (by
  have K1 := K.keep ((Below.refl _ _).alloc (Nat.le_refl _) (.cells #[.slice x2.A 2 x2.c, .int .i64 x2.y.s, .slice x2.y.A x2.y.n x2.y.c, .int .i64 x2.y.t, .slice x2.y.B x2.y.m x2.y.d, .slice x3.A 2 x3.c, .int .i64 x3.y.s, .slice x3.y.A x3.y.n x3.y.c, .int .i64 x3.y.t, .slice x3.y.B x3.y.m x3.y.d] 56))
  intro x hx
  simp only [List.mem_cons, List.not_mem_nil, or_false] at hx
  rcases hx with rfl | rfl <;> exact K1.getRow ZMB) (by simp only [List.flatMap_cons, List.flatMap_nil, List.append_nil, List.cons_append, List.nil_append, Rr.cs, Rw.cs, hn2, hn3]) 2 _ rfl rfl (by decide)
 have elit : [x2, x3].map Rr.rv = lB := by simp only [List.map_cons, List.map_nil, hv2, hv3]; rfl
 rw [elit] at hlit
 replace K := (K.keep ((Below.refl _ _).alloc (Nat.le_refl _) _)).addR hlit
 clear hlit elit
 refine (solve_is sB _ _ _ _ ?qa).mono ?_
 case qa => exact K.getR ZMB
 rintro e W ⟨A21, c21, rfl, hr, hb⟩
 have hcap21 := hr.caps
 replace K := (K.keep hb).addF (show RdF _ _ A21 2 c21 [fvQ ((2 : Int) : Rat), fvQ ((1 : Int) : Rat)] from hr)
 clear hb hr
 go_wp2_with fail
 replace K := (K.keep ((Below.refl _ _).alloc (Nat.le_refl _) _)).addI (Rd.litG iSized 3 [1, 2, 1] #[.int .i64 1, .int .i64 2, .int .i64 1] 3 _ rfl rfl rfl (by decide))
 refine (row_is 2 [1, 2, 1] _ 3 _ ?qa (by decide) (by decide)).mono ?_
 case qa => exact K.rd ZMB
 rintro e W' ⟨x4, rfl, hn4, ho, hv4, hb⟩
 replace K := (K.keep hb).addRow ho
 clear ho hb
 go_wp2_with fail
 replace K := (K.keep ((Below.refl _ _).alloc (Nat.le_refl _) _)).addI (Rd.litG iSized 3 [2, 4, 5] #[.int .i64 2, .int .i64 4, .int .i64 5] 3 _ rfl rfl rfl (by decide))
 refine (row_is 2 [2, 4, 5] _ 3 _ ?qa (by decide) (by decide)).mono ?_
 case qa => exact K.rd ZMB
 rintro e W' ⟨x5, rfl, hn5, ho, hv5, hb⟩
 replace K := (K.keep hb).addRow ho
 clear ho hb
 go_wp2_with fail
 have hlit := litR [x4, x5] 56 #[.slice x4.A 2 x4.c, .int .i64 x4.y.s, .slice x4.y.A x4.y.n x4.y.c, .int .i64 x4.y.t, .slice x4.y.B x4.y.m x4.y.d, .slice x5.A 2 x5.c, .int .i64 x5.y.s, .slice x5.y.A x5.y.n x5.y.c, .int .i64 x5.y.t, .slice x5.y.B x5.y.m x5.y.d] (by
  have K1 := K.keep ((Below.refl _ _).alloc (Nat.le_refl _) (.cells #[.slice x4.A 2 x4.c, .int .i64 x4.y.s, .slice x4.y.A x4.y.n x4.y.c, .int .i64 x4.y.t, .slice x4.y.B x4.y.m x4.y.d, .slice x5.A 2 x5.c, .int .i64 x5.y.s, .slice x5.y.A x5.y.n x5.y.c, .int .i64 x5.y.t, .slice x5.y.B x5.y.m x5.y.d] 56))
  intro x hx
  simp only [List.mem_cons, List.not_mem_nil, or_false] at hx
  rcases hx with rfl | rfl <;> exact K1.getRow ZMB) (by simp only [List.flatMap_cons, List.flatMap_nil, List.append_nil, List.cons_append, List.nil_append, Rr.cs, Rw.cs, hn4, hn5]) 2 _ rfl rfl (by decide)
 have elit : [x4, x5].map Rr.rv = lC := by simp only [List.map_cons, List.map_nil, hv4, hv5]; rfl
 rw [elit] at hlit
 replace K := (K.keep ((Below.refl _ _).alloc (Nat.le_refl _) _)).addR hlit
 clear hlit elit
 refine (solve_is sC _ _ _ _ ?qa).mono ?_
 case qa => exact K.getR ZMB
 rintro e W ⟨A22, c22, rfl, hr, hb⟩
 have hcap22 := hr.caps
 replace K := (K.keep hb).addF (show RdF _ _ A22 0 c22 [] from hr)
 clear hb hr
 go_wp2_with fail
 refine (kernel_is kC _ _ _ _ ?qa).mono ?_
 case qa => exact K.getR ZMB
 rintro e W ⟨A23, c23, rfl, hr, hb⟩
 have hcap23 := hr.caps
 replace K := (K.keep hb).addF (show RdF _ _ A23 2 c23 [fvQ ((-2 : Int) : Rat), fvQ ((1 : Int) : Rat)] from hr)
 clear hb hr
 go_wp2_with fail
 refine (rank_is rC _ _ _ _ ?qa).mono ?_
 case qa => exact K.getR ZMB
 rintro e W ⟨rfl, hb⟩
 replace K := K.keep hb
 clear hb
 go_wp2_with fail
 refine (half6_any _).mono ?_
 rintro e W' ⟨s5, A5, n5, c5, l5, t5, B5, m5, d5, k5, rfl, ⟨hra, hrb⟩, ho5, ⟨hfa, hfb⟩, hb⟩
 replace K := K.retF hb hra hrb hfa hfb
 have hs5 := ho5.std
 clear hra hrb hfa hfb hb ho5
 have r := trivial
 go_wp2_with (first | (refine ZAL ?_; clear K r; intro W b K r) | (refine ZST ?_; clear K r; intro W K r))
 replace K := K.part (List.nil_sublist _)
 clear r
 have hlit := litF [(⟨s5, A5, n5, c5, l5, t5, B5, m5, d5, k5⟩ : Rw)] 50 #[.int .i64 s5, .slice A5 n5 c5, .int .i64 t5, .slice B5 m5 d5] (by
  have K1 := K.keep ((Below.refl _ _).alloc (Nat.le_refl _) (.cells #[.int .i64 s5, .slice A5 n5 c5, .int .i64 t5, .slice B5 m5 d5] 50))
  intro x hx
  rw [List.mem_singleton.1 hx]
  exact ⟨K1.at ZMB, K1.at ZMB⟩) rfl 1 _ rfl rfl (by decide)
 have elit : [(⟨s5, A5, n5, c5, l5, t5, B5, m5, d5, k5⟩ : Rw)].map Rw.fv = [fvQ (Rat.divInt 1 2)] := by
  show [(⟨s5, l5, t5, k5⟩ : Fv)] = _
  rw [hs5.fv]
 rw [elit] at hlit
 replace K := (K.keep ((Below.refl _ _).alloc (Nat.le_refl _) _)).addF hlit
 clear hlit elit
 refine (same_is (a := [fvQ (Rat.divInt 1 2)]) (b := [fvQ (Rat.divInt 1 2)]) (decide_eq_true rfl) _ _ _ _ _ _ _ ?qa ?qb).mono ?_
 case qa => exact K.getQ ZMB
 case qb => exact K.getQ ZMB
 rintro e W ⟨rfl, hb⟩
 replace K := K.keep hb
 clear hb
 go_wp2_with fail
 refine (number6_any 2 _ (by decide)).mono ?_
 rintro e W' ⟨s6, A6, n6, c6, l6, t6, B6, m6, d6, k6, rfl, ⟨hra, hrb⟩, hs6, ⟨hfa, hfb⟩, hb⟩
 replace K := K.retF hb hra hrb hfa hfb
 clear hra hrb hfa hfb hb
 go_wp2_with fail
 refine (number6_any 1 _ (by decide)).mono ?_
 rintro e W' ⟨s7, A7, n7, c7, l7, t7, B7, m7, d7, k7, rfl, ⟨hra, hrb⟩, hs7, ⟨hfa, hfb⟩, hb⟩
 replace K := K.retF hb hra hrb hfa hfb
 clear hra hrb hfa hfb hb
 go_wp2_with fail
 have hlit := litF [(⟨s6, A6, n6, c6, l6, t6, B6, m6, d6, k6⟩ : Rw), (⟨s7, A7, n7, c7, l7, t7, B7, m7, d7, k7⟩ : Rw)] 50 #[.int .i64 s6, .slice A6 n6 c6, .int .i64 t6, .slice B6 m6 d6, .int .i64 s7, .slice A7 n7 c7, .int .i64 t7, .slice B7 m7 d7] (by
  have K1 := K.keep ((Below.refl _ _).alloc (Nat.le_refl _) (.cells #[.int .i64 s6, .slice A6 n6 c6, .int .i64 t6, .slice B6 m6 d6, .int .i64 s7, .slice A7 n7 c7, .int .i64 t7, .slice B7 m7 d7] 50))
  intro x hx
  simp only [List.mem_cons, List.not_mem_nil, or_false] at hx
  rcases hx with rfl | rfl <;> exact ⟨K1.at ZMB, K1.at ZMB⟩) rfl 2 _ rfl rfl (by decide)
 have elit : [(⟨s6, A6, n6, c6, l6, t6, B6, m6, d6, k6⟩ : Rw), (⟨s7, A7, n7, c7, l7, t7, B7, m7, d7, k7⟩ : Rw)].map Rw.fv = [fvQ ((2 : Int) : Rat), fvQ ((1 : Int) : Rat)] := by
  show [(⟨s6, l6, t6, k6⟩ : Fv), ⟨s7, l7, t7, k7⟩] = _
  rw [hs6.fv, hs7.fv]
 rw [elit] at hlit
 replace K := (K.keep ((Below.refl _ _).alloc (Nat.le_refl _) _)).addF hlit
 clear hlit elit
 refine (same_is (a := [fvQ ((2 : Int) : Rat), fvQ ((1 : Int) : Rat)]) (b := [fvQ ((2 : Int) : Rat), fvQ ((1 : Int) : Rat)]) (decide_eq_true rfl) _ _ _ _ _ _ _ ?qa ?qb).mono ?_
 case qa => exact K.getQ ZMB
 case qb => exact K.getQ ZMB
 rintro e W ⟨rfl, hb⟩
 replace K := K.keep hb
 clear hb
 go_wp2_with fail
 refine (number6_any (-2) _ (by decide)).mono ?_
 rintro e W' ⟨s8, A8, n8, c8, l8, t8, B8, m8, d8, k8, rfl, ⟨hra, hrb⟩, hs8, ⟨hfa, hfb⟩, hb⟩
 replace K := K.retF hb hra hrb hfa hfb
 clear hra hrb hfa hfb hb
 go_wp2_with fail
 refine (number6_any 1 _ (by decide)).mono ?_
 rintro e W' ⟨s9, A9, n9, c9, l9, t9, B9, m9, d9, k9, rfl, ⟨hra, hrb⟩, hs9, ⟨hfa, hfb⟩, hb⟩
 replace K := K.retF hb hra hrb hfa hfb
 clear hra hrb hfa hfb hb
 go_wp2_with fail
 have hlit := litF [(⟨s8, A8, n8, c8, l8, t8, B8, m8, d8, k8⟩ : Rw), (⟨s9, A9, n9, c9, l9, t9, B9, m9, d9, k9⟩ : Rw)] 50 #[.int .i64 s8, .slice A8 n8 c8, .int .i64 t8, .slice B8 m8 d8, .int .i64 s9, .slice A9 n9 c9, .int .i64 t9, .slice B9 m9 d9] (by
  have K1 := K.keep ((Below.refl _ _).alloc (Nat.le_refl _) (.cells #[.int .i64 s8, .slice A8 n8 c8, .int .i64 t8, .slice B8 m8 d8, .int .i64 s9, .slice A9 n9 c9, .int .i64 t9, .slice B9 m9 d9] 50))
  intro x hx
  simp only [List.mem_cons, List.not_mem_nil, or_false] at hx
  rcases hx with rfl | rfl <;> exact ⟨K1.at ZMB, K1.at ZMB⟩) rfl 2 _ rfl rfl (by decide)
 have elit : [(⟨s8, A8, n8, c8, l8, t8, B8, m8, d8, k8⟩ : Rw), (⟨s9, A9, n9, c9, l9, t9, B9, m9, d9, k9⟩ : Rw)].map Rw.fv = [fvQ ((-2 : Int) : Rat), fvQ ((1 : Int) : Rat)] := by
  show [(⟨s8, l8, t8, k8⟩ : Fv), ⟨s9, l9, t9, k9⟩] = _
  rw [hs8.fv, hs9.fv]
 rw [elit] at hlit
 replace K := (K.keep ((Below.refl _ _).alloc (Nat.le_refl _) _)).addF hlit
 clear hlit elit
 refine (same_is (a := [fvQ ((-2 : Int) : Rat), fvQ ((1 : Int) : Rat)]) (b := [fvQ ((-2 : Int) : Rat), fvQ ((1 : Int) : Rat)]) (decide_eq_true rfl) _ _ _ _ _ _ _ ?qa ?qb).mono ?_
 case qa => exact K.getQ ZMB
 case qb => exact K.getQ ZMB
 rintro e W ⟨rfl, hb⟩
 replace K := K.keep hb
 clear hb
 go_wp2_with fail
 refine (check_is cC _ _ _ _ _ _ _ ?qa ?qb).mono ?_
 case qa => exact K.getR ZMB
 case qb => exact K.getQ ZMB
 rintro e W ⟨rfl, hb⟩
 replace K := K.keep hb
 clear hb
 go_wp2_with fail
 refine (right_is r0 _ _ _ _ Rd.nil).mono ?_
 rintro e W ⟨rfl, hb⟩
 replace K := K.keep hb
 clear hb
 go_wp2_with fail
 go_ret
 exact ⟨rfl, K.1⟩
def LstP (w : World) (n : Nat) (x : Nat → Rat) (e : Ending) (w' : World) : Prop := ∃ A c, e = .returned (.slice A n c) ∧ FrK w w' A n c (ofF n fun i => fvQ (x i)) ∧ Below w.heap.size w w'
end Go.Proofs.YtdlcglndhhndpaaGreat
