/- Laws and walks; conditions stand in each theorem. -/
import Derived.Test.YtdlcglndhhndpaaGreatP26
set_option linter.unusedSimpArgs false
set_option linter.unusedVariables false
set_option maxHeartbeats 2000000
set_option maxRecDepth 100000
namespace Go.Proofs.YtdlcglndhhndpaaGreat
open Go.RowKit
theorem ZQ71 {p : Prop} (h : p := by
 first
  | (have K' : St w0 (Xf ++ []) D W := by rw [List.append_nil]; exact K.part hsub
     obtain ⟨A', c', e, hr⟩ := h3.rdI K' (by omega)
     injection e with e1 e2 e3
     subst e1 e3
     refine ⟨?_, hr⟩
     rw [← e2]
     exact (K.blk hmem).cell (j := 8) rfl)
  | fail) : p := h
theorem ZQ72 {p : Prop} (h : p := by
 first
  | (have K' : St w0 (Xo ++ []) D W := by rw [List.append_nil]; exact K.part hsub
     obtain ⟨A', c', e, hr⟩ := h2.rdI K' (by omega)
     injection e with e1 e2 e3
     subst e1 e3
     refine ⟨?_, hr⟩
     rw [← e2]
     exact (K.blk hmem).cell (j := 7) rfl)
  | fail) : p := h
theorem ZQ83 {p : Prop} (h : p := by
 first
  | (have hB := K.blk hm2
     exact ⟨hB.cell (rwA_get (j := 0) hj (by omega)), hB.cell (rwA_get (j := 1) hj (by omega)), hB.cell (rwA_get (j := 2) hj (by omega)), hB.cell (rwA_get (j := 3) hj (by omega))⟩)
  | fail) : p := h
def Agr (m N : Nat) (Y : Nat → Rw) (V : Nat → Nat → Rw) (G : Dc) : Prop := (∀ i, i < m → isQ (Y i) (G.v i)) ∧ (∀ i j, i < m → j < N → isQ (V i j) (G.a i j)) ∧ ∀ j, j < N → isQ (V m j) (G.c j)
abbrev vfam (q N : Nat) (V : Nat → Nat → Rw) : Hl := Mm.fam ⟨N, fun _ => 0, fun _ => 0, fun _ => [], V⟩ q
def DicL (m N db : Nat) (b : Bool) (G : Dc) (Ld : List Blk) (Dd : List Hl) : Prop :=
 ∃ (hR hO hF : Hd) (gv : Rw) (hd : Nat → Hd) (Y : Nat → Rw) (V : Nat → Nat → Rw) (Xr Xo Xf : List Blk) (Xs : Nat → List Blk),
  OwL 5 Ln.cs 89 (Value.slice hR.A hR.n hR.c) (ofF m (lnF Y hd)) Xr ∧ OwL 1 iEnc 3 (Value.slice hO.A hO.n hO.c) (ofF m (fun i => ((G.own i : Nat) : Int))) Xo ∧ OwL 1 iEnc 3 (Value.slice hF.A hF.n hF.c) (ofF N (fun i => ((G.free i : Nat) : Int))) Xf ∧ (∀ i, i < m + 1 → OwL 4 Rw.cs 50 (Value.slice (hd i).A (hd i).n (hd i).c) (ofF N (V i)) (Xs i)) ∧ Agr m N Y V G ∧
  Ld = (db, (Value.bool b :: [Value.slice hR.A hR.n hR.c, .int .i64 gv.s, .slice gv.A gv.n gv.c, .int .i64 gv.t, .slice gv.B gv.m gv.d, Value.slice (hd m).A (hd m).n (hd m).c, Value.slice hO.A hO.n hO.c, Value.slice hF.A hF.n hF.c]).toArray, 91) :: (Xr ++ (Xo ++ (Xf ++ (ofF (m + 1) Xs).flatten))) ∧ Dd = [vfam (m + 1) N V, ⟨rwP m Y, rwS m Y⟩]
theorem mem_flat {α : Type} {n i : Nat} {X : Nat → List α} {x : α} (hi : i < n) (hx : x ∈ X i) : x ∈ (ofF n X).flatten := List.mem_flatten.2 ⟨_, ofF_in (f := X) hi, hx⟩
section
variable {m N db : Nat} {b : Bool} {G : Dc} {Ld : List Blk} {Dd : List Hl} {w0 : World} {L : List Blk}
theorem DicL.flag (h : DicL m N db b G Ld Dd) (hs : Ld.Sublist L) : ∃ R : List Value, ((db, (Value.bool b :: R).toArray, 91) : Blk) ∈ L ∧ ∀ (W : World) (D : List Hl), St w0 L D W → W.cell? ⟨db, 0, none⟩ = some (.bool b) := by
 obtain ⟨hR, hO, hF, gv, hd, Y, V, Xr, Xo, Xf, Xs, -, -, -, -, -, rfl, -⟩ := h
 have hm := hs.subset List.mem_cons_self
 exact ⟨_, hm, fun W D K => (K.blk hm).cell (j := 0) rfl⟩
theorem DicL.ownR (h : DicL m N db b G Ld Dd) (hs : Ld.Sublist L) (hm : m ≤ 1000) : ∃ A c, ∀ (W : World) (D : List Hl), St w0 L D W → W.cell? ⟨db, 7, none⟩ = some (.slice A m c) ∧ RdI W W.heap.size A m c (ofF m (fun i => ((G.own i : Nat) : Int))) := by
 obtain ⟨hR, hO, hF, gv, hd, Y, V, Xr, Xo, Xf, Xs, h1, h2, h3, h4, h5, rfl, -⟩ := h
 have hmem := hs.subset List.mem_cons_self
 have hsub : Xo.Sublist L := ((List.sublist_append_left Xo _).trans ((List.sublist_append_right Xr _).trans (List.sublist_cons_self _ _))).trans hs
 refine ⟨hO.A, hO.c, fun W D K => ?_⟩
 exact ZQ72
theorem DicL.freeR (h : DicL m N db b G Ld Dd) (hs : Ld.Sublist L) (hN : N ≤ 1000) : ∃ A c, ∀ (W : World) (D : List Hl), St w0 L D W → W.cell? ⟨db, 8, none⟩ = some (.slice A N c) ∧ RdI W W.heap.size A N c (ofF N (fun i => ((G.free i : Nat) : Int))) := by
 obtain ⟨hR, hO, hF, gv, hd, Y, V, Xr, Xo, Xf, Xs, h1, h2, h3, h4, h5, rfl, -⟩ := h
 have hmem := hs.subset List.mem_cons_self
 have hsub : Xf.Sublist L := ((List.sublist_append_left Xf _).trans ((List.sublist_append_right Xo _).trans ((List.sublist_append_right Xr _).trans (List.sublist_cons_self _ _)))).trans hs
 refine ⟨hF.A, hF.c, fun W D K => ?_⟩
 exact ZQ71
theorem DicL.rowsR (h : DicL m N db b G Ld Dd) (hs : Ld.Sublist L) : ∃ A c, ∀ (W : World) (D : List Hl), St w0 L D W → W.cell? ⟨db, 1, none⟩ = some (.slice A m c) := by
 obtain ⟨hR, hO, hF, gv, hd, Y, V, Xr, Xo, Xf, Xs, h1, h2, h3, h4, h5, rfl, -⟩ := h
 have hmem := hs.subset List.mem_cons_self
 obtain ⟨A', c', e⟩ := h1.shapeL
 rw [ofF_len] at e
 injection e with e1 e2 e3
 refine ⟨hR.A, hR.c, fun W D K => ?_⟩
 rw [← e2]
 exact (K.blk hmem).cell (j := 1) rfl
theorem DicL.line (h : DicL m N db b G Ld Dd) (hs : Ld.Sublist L) {i : Nat} (hi : i < m) : ∃ hb hc y, isQ y (G.v i) ∧ (m ≤ hc ∧ hc ≤ 9223372036854775807) ∧ ∀ (W : World) (D : List Hl), St w0 L D W → W.cell? ⟨db, 1, none⟩ = some (.slice (some ⟨hb, 0, none⟩) m hc) ∧ (W.cell? ⟨hb, i * 5, none⟩ = some (.int .i64 y.s) ∧ W.cell? ⟨hb, i * 5 + 1, none⟩ = some (.slice y.A y.n y.c) ∧ W.cell? ⟨hb, i * 5 + 2, none⟩ = some (.int .i64 y.t) ∧ W.cell? ⟨hb, i * 5 + 3, none⟩ = some (.slice y.B y.m y.d)) ∧ ((∀ x ∈ Dd, x ∈ D) → St w0 L (⟨rdP y.B y.m y.d y.k, rdS y.B y.m⟩ :: ⟨rdP y.A y.n y.c y.l, rdS y.A y.n⟩ :: D) W) := by
 obtain ⟨hR, hO, hF, gv, hd, Y, V, Xr, Xo, Xf, Xs, h1, h2, h3, h4, h5, rfl, rfl⟩ := h
 have hmem := hs.subset List.mem_cons_self
 obtain ⟨hb, hc, J, e, rfl, hcap⟩ := h1.blk (by omega)
 injection e with e1 e2 e3
 refine ⟨hb, hc, Y i, h5.1 i hi, hcap, fun W D K => ⟨?_, ?_, fun hD => ?_⟩⟩
 · rw [← e1, ← e2, ← e3]
   exact (K.blk hmem).cell (j := 1) rfl
 · exact (K.cellL (n := m) (Y := Y) (h := hd) (J := J) (g := hb) (t := 89) hi (hs.subset (List.mem_cons_of_mem _ List.mem_cons_self))).1
 · exact K.rwRd (Y := Y) (n := m) (hD _ (List.mem_cons_of_mem _ List.mem_cons_self)) hi
theorem DicL.elem (h : DicL m N db b G Ld Dd) (hs : Ld.Sublist L) {i j : Nat} (hi : i < m) (hj : j < N) : ∃ hb hc rb cp x, isQ x (G.a i j) ∧ (m ≤ hc ∧ hc ≤ 9223372036854775807) ∧ (N ≤ cp ∧ cp ≤ 9223372036854775807) ∧ ∀ (W : World) (D : List Hl), St w0 L D W → (W.cell? ⟨db, 1, none⟩ = some (.slice (some ⟨hb, 0, none⟩) m hc) ∧ W.cell? ⟨hb, i * 5 + 4, none⟩ = some (.slice (some ⟨rb, 0, none⟩) N cp)) ∧ (W.cell? ⟨rb, j * 4, none⟩ = some (.int .i64 x.s) ∧ W.cell? ⟨rb, j * 4 + 1, none⟩ = some (.slice x.A x.n x.c) ∧ W.cell? ⟨rb, j * 4 + 2, none⟩ = some (.int .i64 x.t) ∧ W.cell? ⟨rb, j * 4 + 3, none⟩ = some (.slice x.B x.m x.d)) ∧ ((∀ x ∈ Dd, x ∈ D) → St w0 L (⟨rdP x.B x.m x.d x.k, rdS x.B x.m⟩ :: ⟨rdP x.A x.n x.c x.l, rdS x.A x.n⟩ :: D) W) := by
 obtain ⟨hR, hO, hF, gv, hd, Y, V, Xr, Xo, Xf, Xs, h1, h2, h3, h4, h5, rfl, rfl⟩ := h
 have hmem := hs.subset List.mem_cons_self
 obtain ⟨hb, hc, J, e, rfl, hcap⟩ := h1.blk (by omega)
 injection e with e1 e2 e3
 obtain ⟨rb, cp, J2, f, g, hcp⟩ := (h4 i (by omega)).blk (by omega)
 injection f with f1 f2 f3
 have hm2 : ((rb, rwA N (V i) J2, 50) : Blk) ∈ L := hs.subset (List.mem_cons_of_mem _ (List.mem_append_right _ (List.mem_append_right _ (List.mem_append_right _ (mem_flat (X := Xs) (i := i) (by omega) (by rw [g]; exact List.mem_cons_self))))))
 refine ⟨hb, hc, rb, cp, V i j, h5.2.1 i j hi hj, hcap, hcp, fun W D K => ⟨⟨?_, ?_⟩, ?_, fun hD => ?_⟩⟩
 · rw [← e1, ← e2, ← e3]
   exact (K.blk hmem).cell (j := 1) rfl
 · rw [← f1, ← f2, ← f3]
   exact (K.cellL (n := m) (Y := Y) (h := hd) (J := J) (g := hb) (t := 89) hi (hs.subset (List.mem_cons_of_mem _ List.mem_cons_self))).2
 · exact ZQ83
 · exact K.famRd (M := ⟨N, fun _ => 0, fun _ => 0, fun _ => [], V⟩) (n := m + 1) (i := i) (j := j) (hD _ List.mem_cons_self) (by omega) hj
theorem DicL.goal (h : DicL m N db b G Ld Dd) (hs : Ld.Sublist L) {j : Nat} (hj : j < N) : ∃ rb cp x, isQ x (G.c j) ∧ (N ≤ cp ∧ cp ≤ 9223372036854775807) ∧ ∀ (W : World) (D : List Hl), St w0 L D W → W.cell? ⟨db, 6, none⟩ = some (.slice (some ⟨rb, 0, none⟩) N cp) ∧ (W.cell? ⟨rb, j * 4, none⟩ = some (.int .i64 x.s) ∧ W.cell? ⟨rb, j * 4 + 1, none⟩ = some (.slice x.A x.n x.c) ∧ W.cell? ⟨rb, j * 4 + 2, none⟩ = some (.int .i64 x.t) ∧ W.cell? ⟨rb, j * 4 + 3, none⟩ = some (.slice x.B x.m x.d)) ∧ ((∀ x ∈ Dd, x ∈ D) → St w0 L (⟨rdP x.B x.m x.d x.k, rdS x.B x.m⟩ :: ⟨rdP x.A x.n x.c x.l, rdS x.A x.n⟩ :: D) W) := by
 obtain ⟨hR, hO, hF, gv, hd, Y, V, Xr, Xo, Xf, Xs, h1, h2, h3, h4, h5, rfl, rfl⟩ := h
 have hmem := hs.subset List.mem_cons_self
 obtain ⟨rb, cp, J2, f, g, hcp⟩ := (h4 m (by omega)).blk (by omega)
 injection f with f1 f2 f3
 have hm2 : ((rb, rwA N (V m) J2, 50) : Blk) ∈ L := hs.subset (List.mem_cons_of_mem _ (List.mem_append_right _ (List.mem_append_right _ (List.mem_append_right _ (mem_flat (X := Xs) (i := m) (by omega) (by rw [g]; exact List.mem_cons_self))))))
 refine ⟨rb, cp, V m j, h5.2.2 j hj, hcp, fun W D K => ⟨?_, ?_, fun hD => ?_⟩⟩
 · rw [← f1, ← f2, ← f3]
   exact (K.blk hmem).cell (j := 6) rfl
 · exact ZQ83
 · exact K.famRd (M := ⟨N, fun _ => 0, fun _ => 0, fun _ => [], V⟩) (n := m + 1) (i := m) (j := j) (hD _ List.mem_cons_self) (by omega) hj
end
theorem OwL.blk2 {e : TypeId} {val : Value} {sz n : Nat} {α : Type} {enc : α → List Value} {f : Nat → α} {X : List Blk} (hs : Sized sz enc) (h : OwL sz enc e val (ofF n f) X) (hn : 0 < n) : ∃ g cap J, val = .slice (some ⟨g, 0, none⟩) n cap ∧ X = [(g, recA enc n f J, e)] ∧ (n ≤ cap ∧ cap ≤ 9223372036854775807) ∧ ∀ f', OwL sz enc e val (ofF n f') [(g, recA enc n f' J, e)] := by
 rcases h with ⟨rfl, h0, rfl⟩ | ⟨g, cap, J, rfl, rfl, h1, h2, h3⟩
 · have : n = 0 := by rw [← ofF_len (n := n) (f := f), h0]; rfl
   omega
 · rw [ofF_len] at h1
   refine ⟨g, cap, J, by rw [ofF_len], rfl, ⟨h1, by unfold maxLen at h2; exact h2⟩, fun f' => Or.inr ⟨g, cap, J, by rw [ofF_len, ofF_len], rfl, by rw [ofF_len]; exact h1, h2, ?_⟩⟩
   rw [List.length_append, recA_len hs] at h3 ⊢
   exact h3
theorem Dc.Eqv.fitX {m n r s : Nat} {D D' : Dc} (h : D.Eqv m n D') (hr : r < m) (hs : s < n) : D.fitX m n r s = D'.fitX m n r s := by
 refine Bool.eq_iff_iff.2 ?_
 rw [Dc.fitX_iff, Dc.fitX_iff, h.v r hr, h.a r s hr hs, h.c s hs]
 refine and_congr Iff.rfl (and_congr (forall_congr' fun j => forall_congr' fun hj => ?_) (and_congr (forall_congr' fun i => forall_congr' fun hi => forall_congr' fun hne => ?_) (forall_congr' fun j => forall_congr' fun hj => ?_)))
 · rw [h.a r j hr hj]
 · rw [h.v i hi, h.a i s hi hs]
   refine and_congr Iff.rfl (forall_congr' fun j => forall_congr' fun hj => ?_)
   rw [h.a i j hi hj, h.a r j hr hj]
 · rw [h.c j hj, h.a r j hr hj]
theorem Dc.Eqv.xch {m n r s : Nat} {D D' : Dc} (h : D.Eqv m n D') (hr : r < m) (hs : s < n) : (D.xch r s).Eqv m n (D'.xch r s) := by
 refine ⟨fun i hi => ?_, fun i j hi hj => ?_, fun j hj => ?_, fun i hi => ?_, fun j hj => ?_⟩
 · show (if i = r then D.v r / D.a r s else D.v i - D.a i s * (D.v r / D.a r s)) = if i = r then D'.v r / D'.a r s else D'.v i - D'.a i s * (D'.v r / D'.a r s)
   rw [h.v r hr, h.a r s hr hs, h.v i hi, h.a i s hi hs]
 · show (if i = r then (if j = s then 1 / D.a r s else D.a r j / D.a r s) else (if j = s then 0 - D.a i s * (1 / D.a r s) else D.a i j - D.a i s * (D.a r j / D.a r s))) = if i = r then (if j = s then 1 / D'.a r s else D'.a r j / D'.a r s) else (if j = s then 0 - D'.a i s * (1 / D'.a r s) else D'.a i j - D'.a i s * (D'.a r j / D'.a r s))
   rw [h.a r s hr hs, h.a i s hi hs, h.a r j hr hj, h.a i j hi hj]
 · show (if j = s then 0 - D.c s * (1 / D.a r s) else D.c j - D.c s * (D.a r j / D.a r s)) = if j = s then 0 - D'.c s * (1 / D'.a r s) else D'.c j - D'.c s * (D'.a r j / D'.a r s)
   rw [h.a r s hr hs, h.c s hs, h.a r j hr hj, h.c j hj]
 · show (if i = r then D.free s else D.own i) = if i = r then D'.free s else D'.own i
   rw [h.free s hs, h.own i hi]
 · show (if j = s then D.own r else D.free j) = if j = s then D'.own r else D'.free j
   rw [h.own r hr, h.free j hj]
theorem Dc.Eqv.trans {m n : Nat} {D D' D'' : Dc} (h : D.Eqv m n D') (h' : D'.Eqv m n D'') : D.Eqv m n D'' :=
 ⟨fun i hi => (h.v i hi).trans (h'.v i hi), fun i j hi hj => (h.a i j hi hj).trans (h'.a i j hi hj), fun j hj => (h.c j hj).trans (h'.c j hj), fun i hi => (h.own i hi).trans (h'.own i hi), fun j hj => (h.free j hj).trans (h'.free j hj)⟩
theorem Agr.eqv {m N : Nat} {Y : Nat → Rw} {V : Nat → Nat → Rw} {G : Dc} (h : Agr m N Y V G) : (dcOf m Y V G.own G.free).Eqv m N G :=
 ⟨fun i hi => (h.1 i hi).q, fun i j hi hj => (h.2.1 i j hi hj).q, fun j hj => (h.2.2 j hj).q, fun _ _ => rfl, fun _ _ => rfl⟩
theorem Agr.of {m N : Nat} {Y : Nat → Rw} {V : Nat → Nat → Rw} {G : Dc} {own free : Nat → Nat} (hY : GoodY m Y) (hV : GoodV (m + 1) N V) (h : (dcOf m Y V own free).Eqv m N G) : Agr m N Y V G := by
 refine ⟨fun i hi => ?_, fun i j hi hj => ?_, fun j hj => ?_⟩
 · rw [← h.v i hi]; exact hY i hi
 · rw [← h.a i j hi hj]; exact hV i j (by omega) hj
 · rw [← h.c j hj]; exact hV m j (by omega) hj
def XdP (w0 : World) (L1 : List Blk) (D : List Hl) (m N db r s : Nat) (b : Bool) (G : Dc) (e : Ending) (W' : World) : Prop :=
 ∃ (b' : Bool) (G' : Dc) (Ld : List Blk) (Dd : List Hl), e = .returned (.tuple #[]) ∧ Hid (DicL m N db b' G' Ld Dd) ∧ Hid (FulK b b' (G.fitX m N r s = true)) ∧ Hid (G.fitX m N r s = true → G' = G.xch r s) ∧ St w0 (Ld ++ L1) (Dd ++ D) W'
theorem dic_exchange {w0 w : World} {L1 : List Blk} {D : List Hl} {m N db r s : Nat} {b : Bool} {G : Dc} {Ld : List Blk} {Dd : List Hl} (h : DicL m N db b G Ld Dd) (K : St w0 (Ld ++ L1) (Dd ++ D) w) (hr : r < m) (hs : s < N) (hm : m ≤ 1000) (hN : N ≤ 1000) (hp : G.a r s ≠ 0) :
 Calls Tryz.prog 118 #[.pointer (some ⟨db, 0, none⟩), .int .i64 r, .int .i64 s] w (XdP w0 L1 D m N db r s b G) := by
 obtain ⟨hR, hO, hF, gv, hd, Y, V, Xr, Xo, Xf, Xs, h1, h2, h3, h4, h5, rfl, rfl⟩ := h
 obtain ⟨hb, hc, HJ, e, rfl, hcap, h1'⟩ := h1.blk2 ln_sized (by omega)
 obtain ⟨ob, oc, OJ, eo, rfl, hoc, h2'⟩ := h2.blk2 iSized (by omega)
 obtain ⟨fb, fc, FJ, ef, rfl, hfc, h3'⟩ := h3.blk2 iSized (by omega)
 have h4' : ∀ i, ∃ g cap J, i < m + 1 → Value.slice (hd i).A (hd i).n (hd i).c = .slice (some ⟨g, 0, none⟩) N cap ∧ Xs i = [(g, recA Rw.cs N (V i) J, 50)] ∧ (N ≤ cap ∧ cap ≤ 9223372036854775807) ∧ ∀ V', OwL 4 Rw.cs 50 (Value.slice (hd i).A (hd i).n (hd i).c) (ofF N V') [(g, recA Rw.cs N V' J, 50)] := fun i => by
  by_cases hi : i < m + 1
  · obtain ⟨g, cap, J, k1, k2, k3⟩ := (h4 i hi).blk2 rw_sized (by omega)
    exact ⟨g, cap, J, fun _ => ⟨k1, k2, k3⟩⟩
  · exact ⟨0, 0, [], fun h => absurd h hi⟩
 obtain ⟨rb, h4'⟩ := Classical.axiomOfChoice h4'
 obtain ⟨cp, h4'⟩ := Classical.axiomOfChoice h4'
 obtain ⟨J, h4'⟩ := Classical.axiomOfChoice h4'
 obtain ⟨M, hM⟩ : ∃ M : Mm, M = ⟨N, rb, cp, J, V⟩ := ⟨_, rfl⟩
 have hMN : M.N = N := by rw [hM]
 have hMV : ∀ V', vfam (m + 1) N V' = (M.wV V').fam (m + 1) := fun V' => by rw [hM]; rfl
 have hhd : ∀ i, i < m + 1 → hd i = M.hd (m + 1) i := fun i hi => by
  obtain ⟨k1, -, -⟩ := h4' i hi
  injection k1 with k1 k2 k3
  rw [hM]
  show hd i = ⟨some ⟨rb i, 0, none⟩, N, cp i⟩
  rw [← k1, ← k2, ← k3]
 have hrows : ∀ V' : Nat → Nat → Rw, (ofF (m + 1) fun i => [((rb i, recA Rw.cs N (V' i) (J i), 50) : Blk)]).flatten = (M.wV V').rows (m + 1) := fun V' => by
  have hf : ∀ (F : Nat → Blk) n, (ofF n fun i => [F i]).flatten = ofF n F := fun F n => by
   induction n with
   | zero => rfl
   | succ n ih => rw [ofF_succ, ofF_succ, List.flatten_append, ih]; rfl
  rw [hf, hM]
  rfl
 have hXs : (ofF (m + 1) Xs).flatten = (M.wV V).rows (m + 1) := by
  rw [← hrows V, ofF_congr (f := Xs) (g := fun i => [((rb i, recA Rw.cs N (V i) (J i), 50) : Blk)]) fun i hi => (h4' i hi).2.1]
 have hln : ∀ Y', recA Ln.cs m (lnF Y' hd) HJ = recA Ln.cs m (lnF Y' (M.hd (m + 1))) HJ := fun Y' => recA_congr fun i hi => by
  show (⟨Y' i, hd i⟩ : Ln) = ⟨Y' i, M.hd (m + 1) i⟩
  rw [hhd i (by omega)]
 injection e with e1 e2 e3
 injection eo with o1 o2 o3
 injection ef with f1 f2 f3
 have hperm : ∀ (A B C D E : List Blk) (x : Blk), (x :: (A ++ (E ++ (B ++ (C ++ D))))).Perm (x :: (A ++ (B ++ (C ++ E))) ++ D) := fun A B C D E x => by
  rw [List.cons_append]
  refine List.Perm.cons _ ?_
  rw [List.append_assoc]
  refine List.Perm.append_left _ ?_
  rw [List.append_assoc, List.append_assoc]
  exact (List.perm_append_comm_assoc E B (C ++ D)).trans (List.Perm.append_left _ (List.perm_append_comm_assoc E C D))
 obtain ⟨q, hq⟩ : ∃ q, q = m + 1 := ⟨_, rfl⟩
 have key : ∀ (b' : Bool) (Y' : Nat → Rw) (V' : Nat → Nat → Rw) (o f : Nat → Int), ((db, (Value.bool b' :: [Value.slice hR.A hR.n hR.c, .int .i64 gv.s, .slice gv.A gv.n gv.c, .int .i64 gv.t, .slice gv.B gv.m gv.d, Value.slice (hd m).A (hd m).n (hd m).c, Value.slice hO.A hO.n hO.c, Value.slice hF.A hF.n hF.c]).toArray, 91) : Blk) :: ([(hb, recA Ln.cs m (lnF Y' hd) HJ, 89)] ++ ((M.wV V').rows (m + 1) ++ ([(ob, recA iEnc m o OJ, 3)] ++ ([(fb, recA iEnc N f FJ, 3)] ++ L1)))) = ((db, (Value.bool b' :: [.slice (some ⟨hb, 0, none⟩) m hc, .int .i64 gv.s, .slice gv.A gv.n gv.c, .int .i64 gv.t, .slice gv.B gv.m gv.d, .slice (some ⟨M.rb m, 0, none⟩) M.N (M.cp m), .slice (some ⟨ob, 0, none⟩) m oc, .slice (some ⟨fb, 0, none⟩) M.N fc]).toArray, 91) :: (hb, recA Ln.cs m (lnF Y' (M.hd q)) HJ, 89) :: ((M.wV V').rows q ++ ((ob, recA iEnc m o OJ, 3) :: (fb, recA iEnc M.N f FJ, 3) :: L1))) := fun b' Y' V' o f => by
  have hdn : M.hd (m + 1) m = ⟨some ⟨M.rb m, 0, none⟩, N, M.cp m⟩ := by unfold Mm.hd; rw [hMN]
  rw [hln Y', e1, e2, e3, o1, o2, o3, f1, f2, f3, hhd m (by omega), hdn, hq, hMN]
  rfl
 have K1 := K.perm (hperm [_] [_] [_] L1 (ofF (m + 1) Xs).flatten _)
 rw [hXs, key, hMV] at K1
 have hEq := h5.eqv
 have HC := exchange_any w0 w M L1 D m q r s db hb hc ob oc fb fc gv HJ OJ FJ b Y V G.own G.free (by rw [hq] at K1 ⊢; exact K1) hr hq (by rw [hMN]; exact hs) hm (by rw [hMN]; exact hN) (fun i hi => by
  rw [hMN, hM]
  exact (h4' i (by omega)).2.2.1) hcap hoc (by rw [hMN]; exact hfc) (fun i hi => (h5.1 i hi).self) (fun i j hi hj => by
  rw [hMN] at hj
  by_cases em : i = m
  · rw [em]; exact (h5.2.2 j hj).self
  · exact (h5.2.1 i j (by omega) hj).self) (by rw [(h5.2.1 r s hr hs).q]; exact hp)
 refine HC.mono ?_
 rintro e w5 ⟨b', Y', V', rfl, ⟨hY', hV'⟩, ⟨hf, hx⟩, K5⟩
 rw [hMN] at hV' hf hx
 obtain ⟨G', hG1, hG2⟩ : ∃ G' : Dc, (G.fitX m N r s = true → G' = G.xch r s) ∧ (dcOf m Y' V' (putF G.own r (G.free s)) (putF G.free s (G.own r))).Eqv m N G' := by
  by_cases hfit : G.fitX m N r s = true
  · exact ⟨G.xch r s, fun _ => rfl, (hx (by rw [hEq.fitX hr hs]; exact hfit)).trans (hEq.xch hr hs)⟩
  · exact ⟨_, fun h => absurd h hfit, ⟨fun _ _ => rfl, fun _ _ _ _ => rfl, fun _ _ => rfl, fun _ _ => rfl, fun _ _ => rfl⟩⟩
 rw [hEq.fitX hr hs] at hf
 have eo : ofF m (fun i => ((G'.own i : Nat) : Int)) = ofF m (fun i => ((putF G.own r (G.free s) i : Nat) : Int)) := ofF_congr fun i hi => by rw [← hG2.own i hi]; rfl
 have ef : ofF N (fun i => ((G'.free i : Nat) : Int)) = ofF N (fun i => ((putF G.free s (G.own r) i : Nat) : Int)) := ofF_congr fun j hj => by rw [← hG2.free j hj]; rfl
 rw [← key] at K5
 rw [hq] at K5 hV'
 have K6 := K5.perm (hperm [_] [_] [_] L1 ((M.wV V').rows (m + 1)) _).symm
 rw [← hrows, ← hMV] at K6
 exact ⟨b', G', _, _, rfl, Lib.hid ⟨hR, hO, hF, gv, hd, Y', V', _, _, _, _, h1' _, by rw [eo]; exact h2' _, by rw [ef]; exact h3' _, fun i hi => (h4' i hi).2.2.2 (V' i), Agr.of hY' hV' hG2, rfl, rfl⟩, Lib.hid hf, Lib.hid hG1, K6⟩
theorem ZQ60 {p : Prop} (h : p := by
 first
  | (rw [h3]
     exact ⟨fun hn => absurd hn (by decide), fun hn => absurd (h1.1 (by omega)) (Rat.not_le.2 hn)⟩)
  | fail) : p := h
theorem sgI_tri (x : Int) : (x < 0 ∧ sgI x = -1) ∨ (x = 0 ∧ sgI x = 0) ∨ (0 < x ∧ sgI x = 1) := by
 unfold sgI
 split
 · exact Or.inl ⟨by assumption, rfl⟩
 · split
   · exact Or.inr (Or.inl ⟨by assumption, rfl⟩)
   · exact Or.inr (Or.inr ⟨by omega, rfl⟩)
theorem isQ.neg_iff {x : Rw} {q : Rat} (h : isQ x q) : decide (x.s < 0) = decide (q < 0) := by
 have e : x.s = sgI q.num := h.1.1.1
 rw [e]
 refine decide_eq_decide.2 ?_
 have h1 := @Rat.num_nonneg q
 rcases sgI_tri q.num with ⟨h2, h3⟩ | ⟨h2, h3⟩ | ⟨h2, h3⟩
 · rw [h3]
   exact ⟨fun _ => Rat.not_le.1 fun hn => by have := h1.2 hn; omega, fun _ => by decide⟩
 · exact ZQ60
 · exact ZQ60
theorem isQ.pos_iff {x : Rw} {q : Rat} (h : isQ x q) : decide (x.s > 0) = decide (0 < q) := by
 have e : x.s = sgI q.num := h.1.1.1
 rw [e]
 refine decide_eq_decide.2 ?_
 have h1 := @Rat.num_nonneg (-q)
 rw [Rat.neg_num] at h1
 have h4 : 0 ≤ -q ↔ q ≤ 0 := ⟨fun h => by grind, fun h => by grind⟩
 rw [h4] at h1
 rcases sgI_tri q.num with ⟨h2, h3⟩ | ⟨h2, h3⟩ | ⟨h2, h3⟩
 · exact ZQ60
 · exact ZQ60
 · rw [h3]
   exact ⟨fun _ => Rat.not_le.1 fun hn => by have := h1.2 hn; omega, fun _ => by decide⟩
section
variable {m N db : Nat} {b : Bool} {G : Dc} {Ld : List Blk} {Dd : List Hl} {w0 V : World} {L : List Blk} {D : List Hl} {b0 : Nat} {t0 : TypeId}
theorem s1_any (HL : DicL m N db b G Ld Dd) (hs : Ld.Sublist L) (h0 : ((b0, #[.pointer (some ⟨db, 0, none⟩)], t0) : Blk) ∈ L) (K : St w0 L D V) {i : Nat} (hi : i < m) :
 Calls Tryz.prog 114 (#[.int .i64 (i : Int)] ++ #[.pointer (some ⟨b0, 0, none⟩)]) V fun e V' => e = .returned (.bool (G.negR i)) ∧ St w0 L D V' := by
 obtain ⟨hb, hc, y, hy, hcap, hW⟩ := HL.line hs hi
 obtain ⟨c1, ⟨c2, c3, c4, c5⟩, -⟩ := hW V D K
 have c0 := (K.blk h0).cell (j := 0) rfl
 have hii : (i : Int) < (m : Int) := by omega
 have hi0 : (0 : Int) ≤ (i : Int) := by omega
 have HE := Lib.hid (⟨by unfold Dc.negR; rw [hy.neg_iff], K⟩ : (Ending.returned (.bool (decide (y.s < 0)))) = .returned (.bool (G.negR i)) ∧ St w0 L D V)
 generalize G.negR i = R at HE ⊢
 clear hW K HL hs h0 hy c3 c4 c5
 generalize y.s = s at *
 go_enter Tryz.func114, Tryz.ntmps114
 go_wp2_with fail
 go_ret
 exact HE.out
theorem s2_any (HL : DicL m N db b G Ld Dd) (hs : Ld.Sublist L) (h0 : ((b0, #[.pointer (some ⟨db, 0, none⟩)], t0) : Blk) ∈ L) (K : St w0 L D V) {i : Nat} (hi : i < N) :
 Calls Tryz.prog 115 (#[.int .i64 (i : Int)] ++ #[.pointer (some ⟨b0, 0, none⟩)]) V fun e V' => e = .returned (.bool (G.posC i)) ∧ St w0 L D V' := by
 obtain ⟨rb, cp, y, hy, hcap, hW⟩ := HL.goal hs hi
 obtain ⟨c1, ⟨c2, c3, c4, c5⟩, -⟩ := hW V D K
 have c0 := (K.blk h0).cell (j := 0) rfl
 have hii : (i : Int) < (N : Int) := by omega
 have hi0 : (0 : Int) ≤ (i : Int) := by omega
 have HE := Lib.hid (⟨by unfold Dc.posC; rw [hy.pos_iff], K⟩ : (Ending.returned (.bool (decide (y.s > 0)))) = .returned (.bool (G.posC i)) ∧ St w0 L D V)
 generalize G.posC i = R at HE ⊢
 clear hW K HL hs h0 hy c3 c4 c5
 generalize y.s = s at *
 go_enter Tryz.func115, Tryz.ntmps115
 go_wp2_with fail
 go_ret
 exact HE.out
theorem s3_any {b1 r : Nat} {t1 : TypeId} (HL : DicL m N db b G Ld Dd) (hs : Ld.Sublist L) (h0 : ((b0, #[.pointer (some ⟨db, 0, none⟩)], t0) : Blk) ∈ L) (h1 : ((b1, #[.int .i64 (r : Int)], t1) : Blk) ∈ L) (K : St w0 L D V) (hr : r < m) {i : Nat} (hi : i < N) :
 Calls Tryz.prog 116 (#[.int .i64 (i : Int)] ++ #[.pointer (some ⟨b0, 0, none⟩), .pointer (some ⟨b1, 0, none⟩)]) V fun e V' => e = .returned (.bool (G.negA r i)) ∧ St w0 L D V' := by
 obtain ⟨hb, hc, rb, cp, y, hy, hcap, hcap2, hW⟩ := HL.elem hs hr hi
 obtain ⟨⟨c1, c6⟩, ⟨c2, c3, c4, c5⟩, -⟩ := hW V D K
 obtain ⟨⟨d1, d6⟩, ⟨d2, d3, d4, d5⟩, -⟩ := hW V.drew D K.drew
 have c0 := (K.blk h0).cell (j := 0) rfl
 have d0 := (K.drew.blk h0).cell (j := 0) rfl
 have c9 := (K.blk h1).cell (j := 0) rfl
 have d9 := (K.drew.blk h1).cell (j := 0) rfl
 have hii : (i : Int) < (N : Int) := by omega
 have hi0 : (0 : Int) ≤ (i : Int) := by omega
 have hri : (r : Int) < (m : Int) := by omega
 have hr0 : (0 : Int) ≤ (r : Int) := by omega
 have HE := Lib.hid (⟨by unfold Dc.negA; rw [hy.neg_iff], K.drew⟩ : (Ending.returned (.bool (decide (y.s < 0)))) = .returned (.bool (G.negA r i)) ∧ St w0 L D V.drew)
 generalize G.negA r i = R at HE ⊢
 clear hW K HL hs h0 h1 hy c3 c4 c5 d3 d4 d5
 generalize y.s = s at *
 go_enter Tryz.func116, Tryz.ntmps116
 go_wp2_with fail
 go_region
 all_goals
  go_wp2_with fail
  go_ret
  exact HE.out
theorem s4_any {b1 s : Nat} {t1 : TypeId} (HL : DicL m N db b G Ld Dd) (hs : Ld.Sublist L) (h0 : ((b0, #[.pointer (some ⟨db, 0, none⟩)], t0) : Blk) ∈ L) (h1 : ((b1, #[.int .i64 (s : Int)], t1) : Blk) ∈ L) (K : St w0 L D V) (hr : s < N) {i : Nat} (hi : i < m) :
 Calls Tryz.prog 117 (#[.int .i64 (i : Int)] ++ #[.pointer (some ⟨b0, 0, none⟩), .pointer (some ⟨b1, 0, none⟩)]) V fun e V' => e = .returned (.bool (G.posA s i)) ∧ St w0 L D V' := by
 obtain ⟨hb, hc, rb, cp, y, hy, hcap, hcap2, hW⟩ := HL.elem hs hi hr
 obtain ⟨⟨c1, c6⟩, ⟨c2, c3, c4, c5⟩, -⟩ := hW V D K
 obtain ⟨⟨d1, d6⟩, ⟨d2, d3, d4, d5⟩, -⟩ := hW V.drew D K.drew
 have c0 := (K.blk h0).cell (j := 0) rfl
 have d0 := (K.drew.blk h0).cell (j := 0) rfl
 have c9 := (K.blk h1).cell (j := 0) rfl
 have d9 := (K.drew.blk h1).cell (j := 0) rfl
 have hii : (i : Int) < (m : Int) := by omega
 have hi0 : (0 : Int) ≤ (i : Int) := by omega
 have hri : (s : Int) < (N : Int) := by omega
 have hr0 : (0 : Int) ≤ (s : Int) := by omega
 have HE := Lib.hid (⟨by unfold Dc.posA; rw [hy.pos_iff], K.drew⟩ : (Ending.returned (.bool (decide (y.s > 0)))) = .returned (.bool (G.posA s i)) ∧ St w0 L D V.drew)
 generalize G.posA s i = R at HE ⊢
 clear hW K HL hs h0 h1 hy c3 c4 c5 d3 d4 d5
 generalize y.s = sg at *
 go_enter Tryz.func117, Tryz.ntmps117
 go_wp2_with fail
 go_region
 all_goals
  go_wp2_with fail
  go_ret
  exact HE.out
end
end Go.Proofs.YtdlcglndhhndpaaGreat
