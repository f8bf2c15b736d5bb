/- Words for memory: how the rows and cells of prices come about. No condition. -/
import Derived.Test.YtmcamadcoglodaaK3
import Derived.Test.YtmcamadcoglodaaRp
namespace Go.Proofs.Ytmcamadcoglodaa
open Go.RowKit
set_option linter.unusedVariables false

/-- what lies in a block -/
def Hb (w : World) (g : Nat) (cs : Array Value) (t : TypeId) : Prop := w.heap[g]? = some (.cells cs t (0, 0))
theorem Hb.lt {w : World} {g : Nat} {cs : Array Value} {t : TypeId} (h : Hb w g cs t) : g < w.heap.size := (Array.getElem?_eq_some_iff.1 h).1
theorem Hb.below {w w' : World} {g : Nat} {cs : Array Value} {t : TypeId} (h : Hb w g cs t) (hb : Below w.heap.size w w') : Hb w' g cs t := (hb.block g h.lt).trans h
theorem Hb.alloc {w : World} {g : Nat} {cs : Array Value} {t : TypeId} (h : Hb w g cs t) (o : Obj) : Hb (w.alloc o) g cs t := h.below ((Below.refl w.heap.size w).alloc (Nat.le_refl _) o)
theorem Hb.drew {w : World} {g : Nat} {cs : Array Value} {t : TypeId} (h : Hb w g cs t) : Hb w.drew g cs t := h
theorem Hb.new (w : World) (cs : Array Value) (t : TypeId) : Hb (w.alloc (.cells cs t)) w.heap.size cs t := by unfold Hb World.alloc; exact Array.getElem?_push_size
theorem Hb.newH {w : World} {H : Nat} {cs : Array Value} {t : TypeId} (hH : w.heap.size = H) : Hb (w.alloc (.cells cs t)) H cs t := by subst hH; exact Hb.new w cs t
theorem Hb.cell {w : World} {g j : Nat} {cs : Array Value} {t : TypeId} {u : Value} (h : Hb w g cs t) (hj : cs[j]? = some u) : w.cell? ⟨g, j, none⟩ = some u := by
  unfold Hb at h
  simp [World.cell?, h, hj]
theorem Hb.own {w : World} {base g n : Nat} {cs : Array Value} {t : TypeId} (x : Cv) (h : Hb w g cs t) (hcs : cs.toList = List.replicate n (cV x)) (hb : base ≤ g) (hm : n ≤ 140737488351232) : Own 1 cEnc w base t (.slice (some ⟨g, 0, none⟩) n n) (ofF n (fun _ => x)) := by
  have hf : (ofF n (fun _ => x)).flatMap cEnc = List.replicate n (cV x) := by
    rw [← ofF_rep]
    clear hm hcs
    induction n with
    | zero => rfl
    | succ n ih => rw [List.replicate_succ, List.replicate_succ, List.flatMap_cons, ih]; rfl
  unfold Own
  rw [ofF_len, hf]
  refine ⟨by simp, .inr ⟨g, n, cs, rfl, hb, h, Nat.le_refl _, by unfold maxLen; omega, ?_, ?_⟩⟩
  · rw [← Array.length_toList, hcs]; simp
  · rw [hcs, List.take_of_length_le (by simp)]
theorem made_list (z : Value) (n : Nat) : (madeCells #[z] n).toList = List.replicate n z := by
  apply List.ext_getElem?
  intro j
  by_cases hj : j < n
  · simp [madeCells, hj, Nat.mod_one]
  · rw [List.getElem?_eq_none (by simp [madeCells]; omega), List.getElem?_eq_none (by simp; omega)]
theorem Rd.one {w : World} {g : Nat} {x : Int} (h : w.cell? ⟨g, 0, none⟩ = some (.int .i64 x)) : RdI w w.heap.size (some ⟨g, 0, none⟩) 1 1 [x] :=
  ⟨rfl, Nat.le_refl _, ⟨by omega, by omega⟩, fun _ => ⟨g, 0, rfl, World.block_lt_of_cell? w ⟨g, 0, none⟩ h, fun k hk => ⟨[.int .i64 x], by
    have : k = 0 := by simpa using hk
    subst this; rfl, rfl, fun j u hu => by
    have : k = 0 := by simpa using hk
    subst this
    match j, hu with
    | 0, hu => simp at hu; subst hu; exact h
    | j + 1, hu => simp at hu⟩⟩⟩
theorem wpList_st0 {P : Program} {ops : Array Oper} {rest : List Oper} {o : Oper} {a : Act} {Q : Exit → Act → World → Prop} {w : World} (hd : o.dst = none) (hgd : o.guard = none) (ty : TypeId) (x y : Operand) (ho : o.op = .store ty x y) (p : Addr) (v : Value) (hx : a.eval x = .pointer (some p)) (hy : a.eval y = v) (hv : v.oneCell' = true) (hi : (P.info? ty).map (·.size) = some 1)
    {old : Value} (hc : w.cell? p = some old) (hf : w.frozen? p = false) (h : ∀ w', w' = w.setCell p v → wpList P ops Q rest a w') : wpList P ops Q (o :: rest) a w :=
  wpList_st hgd ty x y ho p v hx hy hv hi hc hf (by rw [hd]; exact h)
theorem Hb.setSame {w : World} {g : Nat} {u v : Value} {t : TypeId} (h : Hb w g #[u] t) : Hb (w.setCell ⟨g, 0, none⟩ v) g #[v] t := by
  unfold Hb at h ⊢
  unfold World.setCell
  simp only
  rw [Array.getElem?_modify, if_pos rfl, h]
  rfl
theorem Hb.setOther {w : World} {g b j : Nat} {v : Value} {cs : Array Value} {t : TypeId} (h : Hb w g cs t) (hne : b ≠ g) : Hb (w.setCell ⟨b, j, none⟩ v) g cs t := by
  unfold Hb at h ⊢
  rw [Below.heap_setCell w ⟨b, j, none⟩ v g (fun e => hne e.symm)]
  exact h
theorem Own.setOther {α : Type} {sz : Nat} {enc : α → List Value} {w : World} {base g n cap b j : Nat} {e : TypeId} {v : Value} {l : List α} (h : Own sz enc w base e (.slice (some ⟨g, 0, none⟩) n cap) l) (hne : b ≠ g) : Own sz enc (w.setCell ⟨b, j, none⟩ v) base e (.slice (some ⟨g, 0, none⟩) n cap) l :=
  h.keptS (grown_kept (grown_set w b j v)) (fun q hq e => by
    have h1 : g = q := by simpa [Value.ownBlock] using hq
    have h2 : b = q := by simpa using e
    omega)
def bl (l : List Nat) (i : Nat) : Nat := l.getD i 0
theorem bl_inj {l : List Nat} (h : l.Nodup) {i j : Nat} (hi : i < l.length) (hj : j < l.length) (e : bl l i = bl l j) : i = j := by
  unfold bl at e
  rw [List.getD, List.getD, List.getElem?_eq_getElem hi, List.getElem?_eq_getElem hj] at e
  have h2 := List.pairwise_iff_getElem.1 h
  simp only [Option.getD_some] at e
  rcases Nat.lt_trichotomy i j with q | q | q
  · exact absurd e (h2 i j hi hj q)
  · exact q
  · exact absurd e.symm (h2 j i hj hi q)
theorem HS.make {w : World} {base n m : Nat} {hd : Iw} {g0 g1 g2 g3 g4 g5 g6 g7 g8 g9 g10 : Nat} (hn : n ≤ 1000) (hm : m ≤ 1000)
    (h0 : Hb w g0 (madeCells #[.int .i64 0] (n + 1)) 3) (h1 : Hb w g1 (madeCells #[.int .i64 0] (m + 1)) 3) (h2 : Hb w g2 (madeCells #[.int .i64 0] (n + 1)) 3) (h3 : Hb w g3 (madeCells #[.int .i64 0] (n + 1)) 3)
    (h4 : Hb w g4 #[.int .i64 n] 3) (h5 : Hb w g5 #[.slice hd.1 hd.2.1 hd.2.2] 22) (h6 : Hb w g6 #[.slice (some ⟨g0, 0, none⟩) (n + 1) (n + 1)] 23) (h7 : Hb w g7 #[.slice (some ⟨g1, 0, none⟩) (m + 1) (m + 1)] 23)
    (h8 : Hb w g8 #[.slice (some ⟨g2, 0, none⟩) (n + 1) (n + 1)] 23) (h9 : Hb w g9 #[.slice (some ⟨g3, 0, none⟩) (n + 1) (n + 1)] 23) (h10 : Hb w g10 #[.slice none 0 0, .slice none 0 0, .slice none 0 0] 25)
    (hb : base ≤ g0 ∧ base ≤ g1 ∧ base ≤ g2 ∧ base ≤ g3 ∧ base ≤ g4 ∧ base ≤ g5 ∧ base ≤ g6 ∧ base ≤ g7 ∧ base ≤ g8 ∧ base ≤ g9 ∧ base ≤ g10) (hd0 : [g0, g1, g2, g3, g4, g5, g6, g7, g8, g9, g10].Nodup) :
    HS w base 11 n m hd (bl [g0, g1, g2, g3, g4, g5, g6, g7, g8, g9, g10]) (fun _ => 0) (fun _ => 0) (fun _ => 0) (fun _ => 0) (fun _ => 0) (fun _ => false) 0 := by
  refine ⟨fun a ha => ?_, fun a b ha hb => bl_inj hd0 (by simpa using ha) (by simpa using hb)⟩
  obtain ⟨k0, k1, k2, k3, k4, k5, k6, k7, k8, k9, k10⟩ := hb
  have hh : a = 0 ∨ a = 1 ∨ a = 2 ∨ a = 3 ∨ a = 4 ∨ a = 5 ∨ a = 6 ∨ a = 7 ∨ a = 8 ∨ a = 9 ∨ a = 10 := by omega
  rcases hh with rfl | rfl | rfl | rfl | rfl | rfl | rfl | rfl | rfl | rfl | rfl
  · exact h0.own (n := n + 1) (.inl 0) (made_list _ _) k0 (by omega)
  · exact h1.own (n := m + 1) (.inl 0) (made_list _ _) k1 (by omega)
  · exact h2.own (n := n + 1) (.inl 0) (made_list _ _) k2 (by omega)
  · exact h3.own (n := n + 1) (.inl 0) (made_list _ _) k3 (by omega)
  · exact h4.own (n := 1) (.inl (n : Int)) rfl k4 (by omega)
  · exact h5.own (n := 1) (.inr (.inr hd)) rfl k5 (by omega)
  · exact h6.own (n := 1) (.inr (.inr (some ⟨g0, 0, none⟩, n + 1, n + 1))) rfl k6 (by omega)
  · exact h7.own (n := 1) (.inr (.inr (some ⟨g1, 0, none⟩, m + 1, m + 1))) rfl k7 (by omega)
  · exact h8.own (n := 1) (.inr (.inr (some ⟨g2, 0, none⟩, n + 1, n + 1))) rfl k8 (by omega)
  · exact h9.own (n := 1) (.inr (.inr (some ⟨g3, 0, none⟩, n + 1, n + 1))) rfl k9 (by omega)
  · exact h10.own (n := 3) (.inr (.inr (none, 0, 0))) rfl k10 (by omega)
section
variable {w : World} {base n m : Nat} {hd : Iw} {b b' : Nat → Nat} {O W : Nat → Nat} {U V L L' : Nat → Int} {D D' : Nat → Bool} {at' at'' : Nat}
theorem hF_low (hbb : ∀ a, a < 11 → b a = b' a) : ∀ a, a < 11 → hF n m hd b O W U V L D at' a = hF n m hd b' O W U V L' D' at'' a := fun a ha => by
  have hh : a = 0 ∨ a = 1 ∨ a = 2 ∨ a = 3 ∨ a = 4 ∨ a = 5 ∨ a = 6 ∨ a = 7 ∨ a = 8 ∨ a = 9 ∨ a = 10 := by omega
  rcases hh with rfl | rfl | rfl | rfl | rfl | rfl | rfl | rfl | rfl | rfl | rfl
  all_goals simp only [hF]
  all_goals rw [hbb _ (by omega)]
theorem HS.elev {N : Nat} (h : HS w base N n m hd b O W U V L D at') (hN : 11 ≤ N) (hbb : ∀ a, a < 11 → b a = b' a) : HS w base 11 n m hd b' O W U V L' D' at'' :=
  (h.fewer hN).turn hbb (fun _ _ => rfl) (fun _ _ => rfl) (fun a k ha _ => by rw [hF_low hbb a ha])
def b16 (b : Nat → Nat) (l : List Nat) : Nat → Nat := fun i => if i < 11 then b i else bl l (i - 11)
theorem b16_low {b : Nat → Nat} {l : List Nat} : ∀ a, a < 11 → b a = b16 b l a := fun a ha => by unfold b16; rw [if_pos ha]
theorem HS.sixteen {g11 g12 g13 g14 g15 : Nat} {far : Int} (h : HS w base 11 n m hd b O W U V L D at') (hn : n ≤ 1000)
    (h11 : Own 1 iEnc w base 3 (.slice (some ⟨g11, 0, none⟩) (n + 1) (n + 1)) (List.replicate (n + 1) far)) (h12 : Hb w g12 (madeCells #[.bool false] (n + 1)) 4)
    (h13 : Hb w g13 #[.slice (some ⟨g11, 0, none⟩) (n + 1) (n + 1)] 23) (h14 : Hb w g14 #[.slice (some ⟨g12, 0, none⟩) (n + 1) (n + 1)] 66) (h15 : Hb w g15 #[.int .i64 0] 3)
    (hb : base ≤ g12 ∧ base ≤ g13 ∧ base ≤ g14 ∧ base ≤ g15) (hold : ∀ a, a < 11 → b a < g11 ∧ b a < g12 ∧ b a < g13 ∧ b a < g14 ∧ b a < g15) (hnd : [g11, g12, g13, g14, g15].Nodup) :
    HS w base 16 n m hd (b16 b [g11, g12, g13, g14, g15]) O W U V (fun _ => far) (fun _ => false) 0 := by
  have hbb : ∀ a, a < 11 → b a = b16 b [g11, g12, g13, g14, g15] a := b16_low
  obtain ⟨k11, k12, k13, k14⟩ := hb
  refine ⟨fun a ha => ?_, fun a c ha hc e => ?_⟩
  · by_cases e : a < 11
    · have := h.own a e
      rw [hbb a e, hF_low hbb a e (at'' := 0) (L' := fun _ => far) (D' := fun _ => false)] at this
      exact this
    · have h5 : a = 11 ∨ a = 12 ∨ a = 13 ∨ a = 14 ∨ a = 15 := by omega
      rcases h5 with rfl | rfl | rfl | rfl | rfl
      · rw [ofF_rep] at h11
        exact h11.like fun i hi => rfl
      · exact h12.own (n := n + 1) (.inr (.inl false)) (made_list _ _) k11 (by omega)
      · exact h13.own (n := 1) (.inr (.inr (some ⟨g11, 0, none⟩, n + 1, n + 1))) rfl k12 (by omega)
      · exact h14.own (n := 1) (.inr (.inr (some ⟨g12, 0, none⟩, n + 1, n + 1))) rfl k13 (by omega)
      · exact h15.own (n := 1) (.inl 0) rfl k14 (by omega)
  · have big : ∀ a, 11 ≤ a → a < 16 → b16 b [g11, g12, g13, g14, g15] a = bl [g11, g12, g13, g14, g15] (a - 11) := fun a h1 _ => by unfold b16; rw [if_neg (by omega)]
    have bigv : ∀ a, 11 ≤ a → a < 16 → ∀ d, d < 11 → b d < b16 b [g11, g12, g13, g14, g15] a := fun a h1 h2 d hd' => by
      have h5 : a = 11 ∨ a = 12 ∨ a = 13 ∨ a = 14 ∨ a = 15 := by omega
      obtain ⟨q0, q1, q2, q3, q4⟩ := hold d hd'
      rcases h5 with rfl | rfl | rfl | rfl | rfl <;> assumption
    by_cases e1 : a < 11 <;> by_cases e2 : c < 11
    · rw [← hbb a e1, ← hbb c e2] at e; exact h.inj a c e1 e2 e
    · have := bigv c (by omega) hc a e1; rw [hbb a e1] at this; omega
    · have := bigv a (by omega) ha c e2; rw [hbb c e2] at this; omega
    · rw [big a (by omega) ha, big c (by omega) hc] at e
      have := bl_inj hnd (by simp; omega) (by simp; omega) e
      omega
theorem HM.hb {N : Nat} {blk len : Nat → Nat} {T : Nat → TypeId} {F : Nat → Nat → Cv} (h : HM w base N blk len T F) {a : Nat} (ha : a < N) (h0 : 0 < len a) : ∃ cs, Hb w (blk a) cs (T a) ∧ cs.toList = (ofF (len a) (F a)).flatMap cEnc := by
  rcases (h.own a ha).2 with ⟨h1, h2⟩ | ⟨g, cap, cur, hv, hg, hh, hnc, hcm, hcs, htake⟩
  · cases h1
  · injection hv with e1 e2 e3
    injection e1 with e1
    injection e1 with e1
    subst e1 e3
    refine ⟨cur, hh, ?_⟩
    rw [← htake, List.take_of_length_le (by rw [Array.length_toList, hcs, ofF_len]; omega)]
theorem HS.res {N : Nat} (h : HS w base N n m hd b O W U V L D at') (hN : 11 ≤ N) : Hb w (b 10) #[.slice none 0 0, .slice none 0 0, .slice none 0 0] 25 := by
  obtain ⟨cs, h1, h2⟩ := h.hb (a := 10) (by omega) (show 0 < 3 by omega)
  have : cs = #[.slice none 0 0, .slice none 0 0, .slice none 0 0] := by
    apply Array.toList_inj.1
    rw [h2]
    rfl
  rw [← this]
  exact h1
end
theorem HM.keptS {S : Nat → Prop} {w w' : World} {base N : Nat} {blk len : Nat → Nat} {T : Nat → TypeId} {F : Nat → Nat → Cv} (h : HM w base N blk len T F) (hk : Kept S w w') (hs : ∀ a, a < N → ¬ S (blk a)) : HM w' base N blk len T F :=
  ⟨fun a ha => (h.own a ha).keptS hk (fun q hq => by
    have h1 : blk a = q := by simpa [Value.ownBlock] using hq
    rw [← h1]; exact hs a ha), h.inj⟩
theorem Own.rd1 {w : World} {base g N : Nat} {e : TypeId} {f : Nat → Int} (h : Own 1 iEnc w base e (.slice (some ⟨g, 0, none⟩) (N + 1) (N + 1)) (ofF (N + 1) f)) (hN : N ≤ 1000) : RdI w w.heap.size (some ⟨g, 1, none⟩) N N (ofF N (fun r => f (r + 1))) := by
  refine ⟨ofF_len, Nat.le_refl _, ⟨by omega, by omega⟩, fun _ => ⟨g, 1, rfl, (h.lt g rfl).2, fun k hk => ⟨[.int .i64 (f (k + 1))], ?_, rfl, fun j u hu => ?_⟩⟩⟩
  · have h1 := (ofF_get_some (List.getElem?_eq_getElem hk)).2
    show _ = iEnc _
    rw [h1]
    rfl
  · rw [ofF_len] at hk
    match j, hu with
    | 0, hu =>
      simp at hu
      subst hu
      have := (h.cellI (i := k + 1) (by omega)).1
      rw [show 1 + k * 1 + 0 = k + 1 by omega]
      exact this
    | j + 1, hu => simp at hu
theorem Hb.cells3 {w : World} {g : Nat} {cs : Array Value} {t : TypeId} (h : Hb w g cs t) (cs' : Array Value) : Hb (w.setRow g cs') g cs' t := setRow_heap w g cs cs' t (0, 0) h
theorem match_size : (Try.prog.info? 25).map (·.size) = some 3 := by kernel_rfl
end Go.Proofs.Ytmcamadcoglodaa
