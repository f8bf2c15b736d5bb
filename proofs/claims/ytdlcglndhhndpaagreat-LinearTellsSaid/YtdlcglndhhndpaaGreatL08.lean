/- Laws and walks; conditions stand in each theorem. -/
import Derived.Test.YtdlcglndhhndpaaGreatL07
import Derived.Test.YtdlcglndhhndpaaGreatL04
import Derived.Test.YtdlcglndhhndpaaGreatL06
set_option linter.unusedSimpArgs false
set_option linter.unusedVariables false
namespace Go.Proofs.YtdlcglndhhndpaaGreat
open Go.RowKit
theorem cmpQ_zero {x y : Rat} : cmpQ x y = 0 ↔ x = y := by
 unfold cmpQ
 split
 · grind
 · split <;> grind
theorem divInt_1 (a : Int) : Rat.divInt a 1 = (a : Rat) := by
 have h := rat_parts (a : Rat)
 rw [Rat.num_intCast, Rat.den_intCast] at h
 exact h
structure Fv where
 s : Int
 l : List Int
 t : Int
 m : List Int
def Fv.ok (x : Fv) : Bool := rightF x.s x.l x.t x.m
def Fv.rat (x : Fv) : Rat := ratF x.s x.l x.t x.m
def fE : Enc Fv := fun w B x cs => ∃ A n c A' n' c', cs = [.int .i64 x.s, .slice A n c, .int .i64 x.t, .slice A' n' c'] ∧ RdI w B A n c x.l ∧ RdI w B A' n' c' x.m
theorem fE_lasts : Lasts fE := fun w w' B B' x cs ⟨A, n, c, A', n', c', h, h1, h2⟩ hB hk => ⟨A, n, c, A', n', c', h, h1.keep (flat_lasts _) hB hk, h2.keep (flat_lasts _) hB hk⟩
abbrev RdF := Rd 4 fE
theorem Rd.atF {w : World} {B : Nat} {A : Option Addr} {n cap : Nat} {l : List Fv} (h : RdF w B A n cap l) {k : Nat} (hk : k < n) :
 ∃ b off A1 n1 c1 A2 n2 c2 x, A = some ⟨b, off, none⟩ ∧ b < B ∧ l[k]? = some x ∧ (w.cell? ⟨b, off + k * 4, none⟩ = some (.int .i64 x.s) ∧ w.cell? ⟨b, off + k * 4 + 1, none⟩ = some (.slice A1 n1 c1) ∧ w.cell? ⟨b, off + k * 4 + 2, none⟩ = some (.int .i64 x.t) ∧ w.cell? ⟨b, off + k * 4 + 3, none⟩ = some (.slice A2 n2 c2)) ∧ RdI w B A1 n1 c1 x.l ∧ RdI w B A2 n2 c2 x.m := by
 obtain ⟨b, off, rfl, hb, hc⟩ := h.2.2.2 (by omega)
 have hl := h.1
 obtain ⟨cs, ⟨A1, n1, c1, A2, n2, c2, rfl, h1, h2⟩, _, hj⟩ := hc k (by omega)
 exact ⟨b, off, A1, n1, c1, A2, n2, c2, l[k], rfl, hb, List.getElem?_eq_getElem (by omega), ⟨by simpa using hj 0 _ rfl, by simpa using hj 1 _ rfl, by simpa using hj 2 _ rfl, by simpa using hj 3 _ rfl⟩, h1, h2⟩
theorem ZL36 {p : Prop} (h : p := by
 first
  | (rw [List.getElem?_eq_getElem (by rw [ofF_len]; exact hk)] at this
     exact Option.some.inj this)
  | fail) : p := h
theorem ZL92 {p : Prop} (h : p := by
 first
  | (subst e
     rw [putF_same]
     exact ⟨k2.2.2 W' h1 (fun b hS => h2 b ⟨j, hj, by rw [putF_same]; exact Or.inl hS⟩), k3.2.2 W' h1 (fun b hS => h2 b ⟨j, hj, by rw [putF_same]; exact Or.inr hS⟩)⟩)
  | fail) : p := h
def smQ (f : Nat → Rat) : Nat → Rat
 | 0 => 0
 | n + 1 => smQ f n + f n
theorem smQ_congr {f g : Nat → Rat} : ∀ {n : Nat}, (∀ i, i < n → f i = g i) → smQ f n = smQ g n
 | 0, _ => rfl
 | n + 1, h => by rw [smQ, smQ, smQ_congr (fun i hi => h i (by omega)), h n (by omega)]
theorem smQ_one {f g : Nat → Rat} {b : Nat} {c : Rat} : ∀ {n : Nat}, b < n → g b = f b + c → (∀ i, i < n → i ≠ b → g i = f i) → smQ g n = smQ f n + c
 | 0, hb, _, _ => absurd hb (Nat.not_lt_zero b)
 | n + 1, hb, h1, h2 => by
  rw [smQ, smQ]
  by_cases e : b = n
  · subst e
    rw [smQ_congr (f := g) (g := f) (fun i hi => h2 i (by omega) (by omega)), h1]
    grind
  · rw [smQ_one (by omega) h1 (fun i hi => h2 i (by omega)), h2 n (by omega) (fun e' => e e'.symm)]
    grind
theorem smQ_const (c : Rat) : ∀ n : Nat, smQ (fun _ => c) n = (n : Rat) * c
 | 0 => by rw [smQ]; grind
 | n + 1 => by rw [smQ, smQ_const c n]; push_cast; grind
def FrV (w : World) (q : Rat) (e : Ending) (w' : World) : Prop :=
 ∃ s A n cap l t A' n' cap' m, e = .returned (.agg #[.int .i64 s, .slice A n cap, .int .i64 t, .slice A' n' cap']) ∧ (RdI w' w'.heap.size A n cap l ∧ RdI w' w'.heap.size A' n' cap' m) ∧ StdF s l t m q ∧ (FrA w.heap.size A ∧ FrA w.heap.size A') ∧ Below w.heap.size w w'
theorem addK_fits {x y : Rat} (h : addK x y = true) : fitsF (x + y) = true := by
 unfold addK sumK at h
 simp only [Bool.and_eq_true] at h
 rw [← rat_add]
 exact divInt_fits (den_mul_pos x y) h.1.2.2 h.2
theorem St.part {w W : World} {L L' : List Blk} {D : List Hl} (h : St w L D W) (hs : L'.Sublist L) : St w L' D W :=
 h.pick (fun p hp => hs.subset hp) (h.2.2.1.sublist hs)
theorem fv_std {x : Fv} (h : x.ok = true) : StdF x.s x.l x.t x.m x.rat ∧ fitsF x.rat = true := rightF_std h
theorem fitsF_zero : fitsF 0 = true := by decide +kernel
def intA (n : Nat) (f : Nat → Int) (J : List Value := []) : Array Value := ((ofF n f).flatMap iEnc ++ J).toArray
theorem intA_len {n : Nat} {f : Nat → Int} : ((ofF n f).flatMap iEnc).length = n := by rw [flatMap_len iSized, ofF_len, Nat.mul_one]
theorem intA_get {n i : Nat} {f : Nat → Int} {J : List Value} (h : i < n) : (intA n f J)[i]? = some (.int .i64 (f i)) := by
 unfold intA
 rw [List.getElem?_toArray, List.getElem?_append_left (by rw [intA_len]; exact h)]
 have e := flatMap_get iSized (ofF n f) i 0 (by omega)
 rw [Nat.mul_one, Nat.add_zero, ofF_get h] at e
 exact e
def putF {α : Type} (v : Nat → α) (i : Nat) (x : α) : Nat → α := fun k => if k = i then x else v k
theorem putF_same {α : Type} (v : Nat → α) (i : Nat) (x : α) : putF v i x i = x := if_pos rfl
theorem putF_other {α : Type} {v : Nat → α} {i k : Nat} {x : α} (h : k ≠ i) : putF v i x k = v k := if_neg h
structure Rw where
 s : Int
 A : Option Addr
 n : Nat
 c : Nat
 l : List Int
 t : Int
 B : Option Addr
 m : Nat
 d : Nat
 k : List Int
def Rw.fv (x : Rw) : Fv := ⟨x.s, x.l, x.t, x.k⟩
def Rw.cs (x : Rw) : List Value := [.int .i64 x.s, .slice x.A x.n x.c, .int .i64 x.t, .slice x.B x.m x.d]
def Rw.on (x : Rw) (W : World) : Prop := rdP x.A x.n x.c x.l W ∧ rdP x.B x.m x.d x.k W
def Rw.S (x : Rw) (b : Nat) : Prop := rdS x.A x.n b ∨ rdS x.B x.m b
def Rw.zero : Rw := ⟨0, none, 0, 0, [], 0, none, 0, 0, []⟩
theorem rw_sized : Sized 4 Rw.cs := ⟨by omega, fun x => ⟨rfl, by
 intro u hu
 simp [Rw.cs] at hu
 rcases hu with rfl | rfl | rfl | rfl <;> rfl⟩⟩
def rwA (n : Nat) (v : Nat → Rw) (J : List Value := []) : Array Value := ((ofF n v).flatMap Rw.cs ++ J).toArray
theorem rwA_len {n : Nat} {v : Nat → Rw} : ((ofF n v).flatMap Rw.cs).length = n * 4 := by rw [flatMap_len rw_sized, ofF_len]
theorem rwA_size {n : Nat} {v : Nat → Rw} {J : List Value} : (rwA n v J).size = n * 4 + J.length := by
 unfold rwA
 simp only [List.size_toArray, List.length_append]
 rw [rwA_len]
theorem rwA_get {n i j : Nat} {v : Nat → Rw} {J : List Value} (hi : i < n) (hj : j < 4) : (rwA n v J)[i * 4 + j]? = (v i).cs[j]? := by
 unfold rwA
 rw [List.getElem?_toArray, List.getElem?_append_left (by rw [rwA_len]; omega), flatMap_get rw_sized _ _ _ hj, ofF_get hi]
 rfl
theorem rwA_hi {n i : Nat} {v : Nat → Rw} {J : List Value} (h : n * 4 ≤ i) : (rwA n v J)[i]? = J[i - n * 4]? := by
 unfold rwA
 rw [List.getElem?_toArray, List.getElem?_append_right (by rw [rwA_len]; exact h), rwA_len]
theorem rwA_spl {n i : Nat} {v : Nat → Rw} {J : List Value} (hi : i < n) (x : Rw) : spl (rwA n v J) (i * 4) x.cs = rwA n (putF v i x) J := by
 apply Array.ext_getElem?
 intro q
 have hsz : (rwA n v J).size = n * 4 + J.length := rwA_size
 have hl : x.cs.length = 4 := rfl
 rw [spl_get _ _ _ _ (by rw [hsz, hl]; omega), hl]
 by_cases hq : q < n * 4
 · have hk : q / 4 < n := by omega
   have hj : q % 4 < 4 := by omega
   have e : q / 4 * 4 + q % 4 = q := by omega
   have h1 : (rwA n (putF v i x) J)[q]? = (putF v i x (q / 4)).cs[q % 4]? := by rw [← rwA_get hk hj, e]
   have h2 : (rwA n v J)[q]? = (v (q / 4)).cs[q % 4]? := by rw [← rwA_get hk hj, e]
   rw [h1, h2]
   by_cases hb : q / 4 = i
   · rw [if_pos (by omega), hb, putF_same]
     congr 1
     omega
   · rw [if_neg (by omega), putF_other hb]
 · rw [if_neg (by omega), rwA_hi (by omega), rwA_hi (by omega)]
def rwP (n : Nat) (v : Nat → Rw) : World → Prop := fun W => ∀ i, i < n → (v i).on W
def rwS (n : Nat) (v : Nat → Rw) : Nat → Prop := fun b => ∃ i, i < n ∧ (v i).S b
theorem rdP_zero (W : World) : rdP none 0 0 [] W := Rd.nil
theorem rdS_zero {b : Nat} : ¬ rdS none 0 b := fun h => Nat.lt_irrefl 0 h.1
section
variable {w W W' : World} {L L' : List Blk} {D : List Hl} {n : Nat} {v : Nat → Rw}
theorem St.rwNew (h : St w L D W) (n : Nat) : St w L (⟨rwP n (fun _ => Rw.zero), rwS n (fun _ => Rw.zero)⟩ :: D) W :=
 h.add ⟨fun i _ => ⟨rdP_zero W, rdP_zero W⟩, (fun b ⟨i, _, hS⟩ => by
  rcases hS with h | h
  · exact absurd h rdS_zero
  · exact absurd h rdS_zero), fun W' _ _ i _ => ⟨rdP_zero W', rdP_zero W'⟩⟩
theorem St.rwPut (h : St w L D W) (x : Rw) (i : Nat) (m1 : (⟨rwP n v, rwS n v⟩ : Hl) ∈ D) (m2 : (⟨rdP x.A x.n x.c x.l, rdS x.A x.n⟩ : Hl) ∈ D) (m3 : (⟨rdP x.B x.m x.d x.k, rdS x.B x.m⟩ : Hl) ∈ D) : St w L (⟨rwP n (putF v i x), rwS n (putF v i x)⟩ :: D) W := by
 have k1 := h.2.2.2 _ m1
 have k2 := h.2.2.2 _ m2
 have k3 := h.2.2.2 _ m3
 refine h.add ⟨fun j hj => ?_, fun b hS => ?_, fun W' h1 h2 j hj => ?_⟩
 · by_cases e : j = i
   · subst e; rw [putF_same]; exact ⟨k2.1, k3.1⟩
   · rw [putF_other e]; exact k1.1 j hj
 · obtain ⟨j, hj, hS⟩ := hS
   by_cases e : j = i
   · subst e
     rw [putF_same] at hS
     rcases hS with hS | hS
     · exact k2.2.1 b hS
     · exact k3.2.1 b hS
   · rw [putF_other e] at hS
     exact k1.2.1 b ⟨j, hj, hS⟩
 · by_cases e : j = i
   · exact ZL92
   · rw [putF_other e]
     have k4 := (k1.1 j hj)
     have hS1 := fun b (hS : (v j).S b) => h2 b ⟨j, hj, by rw [putF_other e]; exact hS⟩
     have key : ∀ {A : Option Addr} {n c : Nat} {l : List Int}, rdP A n c l W → (∀ b, rdS A n b → W'.heap[b]? = W.heap[b]?) → rdP A n c l W' := fun {A n c l} hl hk => by
      refine ⟨hl.1, hl.2.1, hl.2.2.1, fun hn => ?_⟩
      obtain ⟨b', off, e, hlt, hc⟩ := hl.2.2.2 hn
      refine ⟨b', off, e, Nat.lt_of_lt_of_le hlt h1, fun k hk' => ?_⟩
      obtain ⟨cs, hr, hlen, hj⟩ := hc k hk'
      exact ⟨cs, hr, hlen, fun j u hu => (cell_of (p := ⟨b', off + k * 1 + j, none⟩) (hk b' ⟨hn, _, e, rfl⟩)).trans (hj j u hu)⟩
     exact ⟨key k4.1 fun b hS => hS1 b (Or.inl hS), key k4.2 fun b hS => hS1 b (Or.inr hS)⟩
theorem St.rdF (h : St w L D W) {g cap : Nat} {t : TypeId} {J : List Value} (hb : ((g, rwA n v J, t) : Blk) ∈ L) (hm : (⟨rwP n v, rwS n v⟩ : Hl) ∈ D) (hc : n ≤ cap ∧ cap ≤ 1000000) : RdF W W.heap.size (some ⟨g, 0, none⟩) n cap (ofF n fun i => (v i).fv) := by
 have hB := h.blk hb
 refine ⟨ofF_len, hc.1, ⟨by omega, by omega⟩, fun hn => ⟨g, 0, rfl, hB.lt, fun k hk => ?_⟩⟩
 rw [ofF_len] at hk
 refine ⟨(v k).cs, ?_, rfl, fun j u hu => ?_⟩
 · have e : (ofF n fun i => (v i).fv)[k]'(by rw [ofF_len]; exact hk) = (v k).fv := by
    have := ofF_get (f := fun i => (v i).fv) hk
    exact ZL36
   rw [e]
   exact ⟨_, _, _, _, _, _, rfl, (h.at hm k hk).1, (h.at hm k hk).2⟩
 · have hj : j < 4 := (List.getElem?_eq_some_iff.1 hu).1
   rw [Nat.zero_add]
   exact hB.cell ((rwA_get hk hj).trans hu)
theorem St.rdN (h : St w L D W) {f : Nat → Int} {g cap : Nat} {t : TypeId} {J : List Value} (hb : ((g, intA n f J, t) : Blk) ∈ L) (hc : n ≤ cap ∧ cap ≤ 1000000) : RdI W W.heap.size (some ⟨g, 0, none⟩) n cap (ofF n f) := by
 have hB := h.blk hb
 refine ⟨ofF_len, hc.1, ⟨by omega, by omega⟩, fun hn => ⟨g, 0, rfl, hB.lt, fun k hk => ?_⟩⟩
 rw [ofF_len] at hk
 refine ⟨_, rfl, rfl, fun j u hu => ?_⟩
 have hj : j = 0 := by
  have : j < 1 := (List.getElem?_eq_some_iff.1 hu).1
  omega
 subst hj
 rw [Nat.zero_add, Nat.mul_one, Nat.add_zero]
 refine (hB.cell (intA_get hk)).trans ?_
 rw [← hu]
 have e : (ofF n f)[k]'(by rw [ofF_len]; exact hk) = f k := by
  have := ofF_get (f := f) hk
  exact ZL36
 rw [e]
 rfl
end
section
variable {P : Program} {ops : Array Oper} {rest : List Oper} {o : Oper} {a : Act} {Q : Exit → Act → World → Prop}
variable {w W : World} {L L' : List Blk} {D : List Hl}
end
theorem int_made : (Tryz.prog.info? 3).map (fun i => (i.zero.map (·.cells), i.size, i.bytes)) = some (some #[.int .i64 0], 1, 8) := by kernel_rfl
theorem frac_made : (Tryz.prog.info? 50).map (fun i => (i.zero.map (·.cells), i.size, i.bytes)) = some (some #[.int .i64 0, .slice none 0 0, .int .i64 0, .slice none 0 0], 4, 64) := by kernel_rfl
theorem St.newZ {w W : World} {L : List Blk} {D : List Hl} (K : St w L D W) (cs : Array Value) (T : TypeId) : ∃ g, W.heap.size = g ∧ St w ((g, cs, T) :: L) D (W.alloc (.cells cs T)) := ⟨_, rfl, K.new cs T⟩
theorem St.hideZ {w W : World} {L : List Blk} {D : List Hl} (K : St w L D W) (T : TypeId) : ∃ R : Nat → Array Value → Option Addr → Nat → Nat → List Int → Option Addr → Nat → Nat → List Int → World → Prop, ∀ g cs A n c l B m d k W', R g cs A n c l B m d k W' ↔ St w ((g, cs, T) :: L) (⟨rdP B m d k, rdS B m⟩ :: ⟨rdP A n c l, rdS A n⟩ :: D) W' :=
 ⟨_, fun _ _ _ _ _ _ _ _ _ _ _ => Iff.rfl⟩
theorem St.set4Z {w W : World} {L L' : List Blk} {D : List Hl} {b : Nat} {t : TypeId} (h : St w L D W) {x0 x1 x2 x3 u0 u1 u2 u3 : Value} (hU : Upd b #[x0, x1, x2, x3] t #[u0, u1, u2, u3] L L') :
 St w L' D ((((W.setCell ⟨b, 0, none⟩ u0).setCell ⟨b, 1, none⟩ u1).setCell ⟨b, 2, none⟩ u2).setCell ⟨b, 3, none⟩ u3) :=
 h.upd hU ((((OnlyB.set W b 0 u0).trans (OnlyB.set _ b 1 u1)).trans (OnlyB.set _ b 2 u2)).trans (OnlyB.set _ b 3 u3)) (((((h.blk hU.mem).set (j := 0) u0).set (j := 1) u1).set (j := 2) u2).set (j := 3) u3)
theorem St.perm {w W : World} {L L' : List Blk} {D : List Hl} (h : St w L D W) (hp : L'.Perm L) : St w L' D W :=
 h.pick (fun p hm => hp.subset hm) (hp.symm.pairwise h.2.2.1 (fun {a b} hab e => hab e.symm))
def OwL {α : Type} (sz : Nat) (enc : α → List Value) (e : TypeId) (v : Value) (l : List α) (X : List Blk) : Prop :=
 (v = .slice none 0 0 ∧ l = [] ∧ X = []) ∨ ∃ g cap J, v = .slice (some ⟨g, 0, none⟩) l.length cap ∧ X = [(g, (l.flatMap enc ++ J).toArray, e)] ∧ l.length ≤ cap ∧ cap ≤ maxLen ∧ (l.flatMap enc ++ J).length = cap * sz
section
variable {α : Type} {sz : Nat} {enc : α → List Value} {e : TypeId} {v : Value} {l : List α} {X : List Blk} {w W W' : World} {L : List Blk} {D : List Hl}
theorem OwL.nil : OwL sz enc e (.slice none 0 0) ([] : List α) [] := Or.inl ⟨rfl, rfl, rfl⟩
theorem OwL.own (hs : Sized sz enc) (h : OwL sz enc e v l X) (K : St w (X ++ L) D W) : Own sz enc W w.heap.size e v l := by
 rcases h with ⟨rfl, rfl, rfl⟩ | ⟨g, cap, J, rfl, rfl, h1, h2, h3⟩
 · exact Own.nil
 · have hb := K.2.1 _ (List.mem_append_left _ (List.mem_singleton.2 rfl))
   refine ⟨flatMap_len hs l, Or.inr ⟨g, cap, _, rfl, hb.1, hb.2, h1, h2, by simpa using h3, ?_⟩⟩
   rw [← flatMap_len hs l]
   simp
theorem OwL.of (hs : Sized sz enc) (ho : OwL sz enc e v l X) (K : St w (X ++ L) D W) {v' : Value} {l' : List α} (h : Own sz enc W' w.heap.size e v' l') (hk : Kept (fun b => v.ownBlock = some b) W W') (hf : ∀ g, v'.ownBlock = some g → v.ownBlock = some g ∨ W.heap.size ≤ g) :
 ∃ X', OwL sz enc e v' l' X' ∧ St w (X' ++ L) D W' := by
 have hXb : ∀ b, v.ownBlock = some b → ∃ c, (b, c, e) ∈ X := fun b hb => by
  rcases ho with ⟨rfl, rfl, rfl⟩ | ⟨g, cap, J, rfl, rfl, h1, h2, h3⟩
  · cases hb
  · have hb : some g = some b := hb
    injection hb with hb
    subst hb
    exact ⟨_, List.mem_singleton.2 rfl⟩
 have hpw := List.pairwise_append.1 K.2.2.1
 have hL : ∀ p ∈ L, ¬ v.ownBlock = some p.1 := fun p hp e => by
  obtain ⟨c, hc⟩ := hXb _ e
  exact hpw.2.2 _ hc p hp rfl
 have hbase : ∀ b, v.ownBlock = some b → w.heap.size ≤ b := fun b hb => by
  obtain ⟨c, hc⟩ := hXb _ hb
  exact (K.2.1 _ (List.mem_append_left _ hc)).1
 have hD : ∀ x ∈ D, ∀ b, x.S b → ¬ v.ownBlock = some b := fun x hx b hS e => by
  obtain ⟨c, hc⟩ := hXb _ e
  exact ((K.2.2.2 x hx).2.1 b hS).2 _ (List.mem_append_left _ hc) rfl
 have hbel : Below w.heap.size w W' := K.1.trans ⟨hk.os, hk.tape, hk.output, hk.size, fun i hi => hk.block i (Nat.lt_of_lt_of_le hi K.1.size) (fun e => by have := hbase i e; omega)⟩
 have KL : ∀ p ∈ L, w.heap.size ≤ p.1 ∧ Hb W' p.1 p.2.1 p.2.2 := fun p hp => by
  have h1 := K.2.1 p (List.mem_append_right _ hp)
  exact ⟨h1.1, h1.2.of (hk.block _ h1.2.lt (hL p hp))⟩
 have KD : ∀ x ∈ D, x.P W' ∧ (∀ b, x.S b → b < W'.heap.size) ∧ (∀ W'' : World, W'.heap.size ≤ W''.heap.size → (∀ b, x.S b → W''.heap[b]? = W'.heap[b]?) → x.P W'') := fun x hx => by
  have h1 := K.2.2.2 x hx
  have hb := fun b hS => hk.block b ((h1.2.1 b hS).1) (hD x hx b hS)
  refine ⟨h1.2.2 W' hk.size hb, fun b hS => Nat.lt_of_lt_of_le (h1.2.1 b hS).1 hk.size, fun W'' h2 h3 => h1.2.2 W'' (Nat.le_trans hk.size h2) (fun b hS => (h3 b hS).trans (hb b hS))⟩
 rcases h.2 with ⟨rfl, h0⟩ | ⟨g, cap, cur, hv, hg, hh, hnc, hcm, hcs, htake⟩
 · have : l' = [] := List.eq_nil_of_length_eq_zero h0
   subst this
   exact ⟨[], OwL.nil, hbel, KL, hpw.2.1, fun x hx => ⟨(KD x hx).1, fun b hS => ⟨(KD x hx).2.1 b hS, fun p hp => ((K.2.2.2 x hx).2.1 b hS).2 p (List.mem_append_right _ hp)⟩, (KD x hx).2.2⟩⟩
 · subst hv
   have hfg := hf g rfl
   have hne : ∀ p ∈ L, g ≠ p.1 := fun p hp e => by
    rcases hfg with h1 | h1
    · exact hL p hp (by rw [h1, e])
    · have := (K.2.1 p (List.mem_append_right _ hp)).2.lt
      omega
   have hneD : ∀ x ∈ D, ∀ b, x.S b → g ≠ b := fun x hx b hS e => by
    rcases hfg with h1 | h1
    · exact hD x hx b hS (by rw [h1, e])
    · have := ((K.2.2.2 x hx).2.1 b hS).1
      omega
   have hcur : cur = (l'.flatMap enc ++ cur.toList.drop (l'.length * sz)).toArray := by
    rw [← htake, List.take_append_drop]
   refine ⟨[(g, cur, e)], Or.inr ⟨g, cap, cur.toList.drop (l'.length * sz), rfl, by rw [← hcur], hnc, hcm, ?_⟩, hbel, fun p hp => ?_, List.Pairwise.cons (fun p hp => hne p hp) hpw.2.1, fun x hx => ⟨(KD x hx).1, fun b hS => ⟨(KD x hx).2.1 b hS, fun p hp => ?_⟩, (KD x hx).2.2⟩⟩
   · rw [← htake, List.take_append_drop]
     simpa using hcs
   · rcases List.mem_cons.1 hp with rfl | hp
     · exact ⟨hg, hh⟩
     · exact KL p hp
   · rcases List.mem_cons.1 hp with rfl | hp
     · exact hneD x hx b hS
     · exact ((K.2.2.2 x hx).2.1 b hS).2 p (List.mem_append_right _ hp)
variable {P : Program} {ops : Array Oper} {rest : List Oper} {o : Oper} {a : Act} {Q : Exit → Act → World → Prop}
theorem St.app1 (K : St w (X ++ L) D W) (ho : OwL sz enc e v l X) (hs : Sized sz enc) (hgd : o.guard = none) (s x : Operand) (t : TypeId)
 (hop : o.op = .call { callee := .builtin .append, args := #[s, x], argTypes := #[t, t] })
 (z : Array Value) (bytes : Nat) (ht : P.underlying t = some (.slice e)) (hi : (P.info? e).map (fun i => (i.zero.map (·.cells), i.size, i.bytes)) = some (some z, sz, bytes)) (hz : z.size = sz)
 (hv : a.eval s = v) (y : α) (cs : Array Value) (hcs : cs = (enc y).toArray) (H : Nat) (hH : W.heap.size = H) (hx : a.eval x = .slice (some ⟨H, 0, none⟩) 1 1)
 (hlen : l.length ≤ 1000000) (hbb : bytes ≤ 1000)
 (h : ∀ v' X' W', OwL sz enc e v' (l ++ [y]) X' → St w (X' ++ L) D W' → wpList P ops Q rest (a.put o.dst v') W') : wpList P ops Q (o :: rest) a (W.alloc (.cells cs e)) := by
 obtain ⟨i, h1, h2⟩ := Option.map_eq_some_iff.1 hi
 simp only [Prod.mk.injEq] at h2
 obtain ⟨h2, h3, h4⟩ := h2
 obtain ⟨zv, h5, h6⟩ := Option.map_eq_some_iff.1 h2
 refine wpList_app1 hs hgd s x t hop w.heap.size e i zv bytes ht h1 h5 h3 h4 (by rw [h6, hz]) v l hv (ho.own hs K) y cs hcs H hH hx hlen hbb K.1.size ?_
 intro v' w' ho' hk hf _
 obtain ⟨X', hX, K'⟩ := ho.of hs K ho' hk hf
 exact h v' X' w' hX K'
end
def fvQ (q : Rat) : Fv := ⟨sgI q.num, digs q.num.natAbs, sgI q.den, digs (q.den : Int).natAbs⟩
theorem StdF.fv {s t : Int} {l m : List Int} {q : Rat} (h : StdF s l t m q) : (⟨s, l, t, m⟩ : Fv) = fvQ q := by
 obtain ⟨⟨e1, e2⟩, e3, e4⟩ := h
 subst e1 e2 e3 e4
 rfl
theorem fvQ_std (q : Rat) : StdF (fvQ q).s (fvQ q).l (fvQ q).t (fvQ q).m q := ⟨⟨rfl, rfl⟩, rfl, rfl⟩
theorem fvQ_rat (q : Rat) : (fvQ q).rat = q := (fvQ_std q).rat
theorem fvQ_ok {q : Rat} (h : fitsF q = true) : (fvQ q).ok = true := (fvQ_std q).right h
theorem fv_form {x : Fv} (h : x.ok = true) : x = fvQ x.rat := (rightF_std h).1.fv
section
variable {w W W' : World} {L X : List Blk} {D : List Hl} {n : Nat} {v : Nat → Rw}
theorem St.rwAdd (h : St w L D W) (x : Rw) (m1 : (⟨rwP n v, rwS n v⟩ : Hl) ∈ D) (m2 : (⟨rdP x.A x.n x.c x.l, rdS x.A x.n⟩ : Hl) ∈ D) (m3 : (⟨rdP x.B x.m x.d x.k, rdS x.B x.m⟩ : Hl) ∈ D) : St w L (⟨rwP (n + 1) (putF v n x), rwS (n + 1) (putF v n x)⟩ :: D) W := by
 have k1 := h.2.2.2 _ m1
 have k2 := h.2.2.2 _ m2
 have k3 := h.2.2.2 _ m3
 refine h.add ⟨fun j hj => ?_, fun b hS => ?_, fun W' h1 h2 j hj => ?_⟩
 · by_cases e : j = n
   · subst e; rw [putF_same]; exact ⟨k2.1, k3.1⟩
   · rw [putF_other e]; exact k1.1 j (by omega)
 · obtain ⟨j, hj, hS⟩ := hS
   by_cases e : j = n
   · subst e
     rw [putF_same] at hS
     rcases hS with hS | hS
     · exact k2.2.1 b hS
     · exact k3.2.1 b hS
   · rw [putF_other e] at hS
     exact k1.2.1 b ⟨j, by omega, hS⟩
 · by_cases e : j = n
   · exact ZL92
   · rw [putF_other e]
     exact k1.2.2 W' h1 (fun b hS => by
      obtain ⟨i, hi, hS⟩ := hS
      exact h2 b ⟨i, by omega, by rw [putF_other (by omega)]; exact hS⟩) j (by omega)
theorem ofF_put {α : Type} {n : Nat} {v : Nat → α} {x : α} : ofF n v ++ [x] = ofF (n + 1) (putF v n x) := by
 rw [ofF_succ, putF_same]
 congr 1
 exact ofF_congr fun i hi => (putF_other (by omega)).symm
theorem OwL.rdF {e : TypeId} {val : Value} (h : OwL 4 Rw.cs e val (ofF n v) X) (K : St w (X ++ L) D W) (hm : (⟨rwP n v, rwS n v⟩ : Hl) ∈ D) (hn : n ≤ 1000000) : ∃ A cap, val = .slice A n cap ∧ RdF W W.heap.size A n cap (ofF n fun i => (v i).fv) := by
 rcases h with ⟨rfl, h0, rfl⟩ | ⟨g, cap, J, rfl, rfl, h1, h2, h3⟩
 · have : n = 0 := by rw [← ofF_len (n := n) (f := v), h0]; rfl
   subst this
   exact ⟨none, 0, rfl, Rd.nil⟩
 · rw [ofF_len] at h1 ⊢
   have hB := K.blk (b := g) (List.mem_append_left _ (List.mem_singleton.2 rfl))
   refine ⟨_, cap, rfl, ofF_len, h1, ⟨by unfold maxLen at h2; exact h2, by omega⟩, fun hn => ⟨g, 0, rfl, hB.lt, fun k hk => ?_⟩⟩
   rw [ofF_len] at hk
   refine ⟨(v k).cs, ?_, rfl, fun j u hu => ?_⟩
   · have e : (ofF n fun i => (v i).fv)[k]'(by rw [ofF_len]; exact hk) = (v k).fv := by
      have := ofF_get (f := fun i => (v i).fv) hk
      exact ZL36
     rw [e]
     exact ⟨_, _, _, _, _, _, rfl, (K.at hm k hk).1, (K.at hm k hk).2⟩
   · have hj : j < 4 := (List.getElem?_eq_some_iff.1 hu).1
     rw [Nat.zero_add]
     exact hB.cell ((rwA_get (J := J) hk hj).trans hu)
theorem OwL.blk {e : TypeId} {val : Value} {sz : Nat} {α : Type} {enc : α → List Value} {f : Nat → α} (h : OwL sz enc e val (ofF n f) X) (hn : 0 < n) : ∃ g cap J, val = .slice (some ⟨g, 0, none⟩) n cap ∧ X = [(g, ((ofF n f).flatMap enc ++ J).toArray, e)] ∧ n ≤ cap ∧ cap ≤ 9223372036854775807 := by
 rcases h with ⟨rfl, h0, rfl⟩ | ⟨g, cap, J, rfl, rfl, h1, h2, h3⟩
 · have : n = 0 := by rw [← ofF_len (n := n) (f := f), h0]; rfl
   omega
 · rw [ofF_len] at h1 ⊢
   exact ⟨g, cap, J, rfl, rfl, h1, by unfold maxLen at h2; exact h2⟩
end
def FrK (w w' : World) (A : Option Addr) (n cap : Nat) (l : List Fv) : Prop := ∀ W : World, w'.heap.size ≤ W.heap.size → (∀ b, w.heap.size ≤ b → b < w'.heap.size → W.heap[b]? = w'.heap[b]?) → RdF W W.heap.size A n cap l
theorem FrK.now {w w' : World} {A : Option Addr} {n cap : Nat} {l : List Fv} (h : FrK w w' A n cap l) : RdF w' w'.heap.size A n cap l := h w' (Nat.le_refl _) (fun _ _ _ => rfl)
def betS (w w' : World) : Nat → Prop := fun b => w.heap.size ≤ b ∧ b < w'.heap.size
def rfQ (A : Option Addr) (n cap : Nat) (l : List Fv) : World → Prop := fun W => RdF W W.heap.size A n cap l
section
variable {w W W' : World} {L : List Blk} {D : List Hl}
theorem St.addK (K : St w L D W) (hb : Below W.heap.size W W') {A : Option Addr} {n cap : Nat} {l : List Fv} (h : FrK W W' A n cap l) : St w L (⟨rfQ A n cap l, betS W W'⟩ :: D) W' :=
 (K.keep hb).add ⟨h.now, fun b hS => ⟨hS.2, fun p hp e => by
  have h1 := (K.2.1 p hp).2.lt
  have h2 := hS.1
  omega⟩, fun W'' h1 h2 => h W'' h1 (fun b h3 h4 => h2 b ⟨h3, h4⟩)⟩
theorem St.getQ (K : St w L D W) {A : Option Addr} {n cap : Nat} {l : List Fv} {S : Nat → Prop} (hm : (⟨rfQ A n cap l, S⟩ : Hl) ∈ D) : RdF W W.heap.size A n cap l := K.at hm
end
theorem OwL.frK {w W : World} {X L : List Blk} {D : List Hl} {n : Nat} {v : Nat → Rw} {e : TypeId} {val : Value} (h : OwL 4 Rw.cs e val (ofF n v) X) (K : St w (X ++ L) D W) (hm : (⟨rwP n v, rwS n v⟩ : Hl) ∈ D) (hn : n ≤ 1000000) (hf : ∀ b, rwS n v b → w.heap.size ≤ b) : ∃ A cap, val = .slice A n cap ∧ FrK w W A n cap (ofF n fun i => (v i).fv) := by
 rcases h with ⟨rfl, h0, rfl⟩ | ⟨g, cap, J, rfl, rfl, h1, h2, h3⟩
 · have : n = 0 := by rw [← ofF_len (n := n) (f := v), h0]; rfl
   subst this
   exact ⟨none, 0, rfl, fun W' _ _ => Rd.nil⟩
 · rw [ofF_len] at h1 ⊢
   have hB := K.2.1 _ (List.mem_append_left _ (List.mem_singleton.2 rfl))
   have hD := K.2.2.2 _ hm
   refine ⟨_, cap, rfl, fun W' g1 g2 => ?_⟩
   have hv : rwP n v W' := hD.2.2 W' g1 (fun b hS => g2 b (hf b hS) (hD.2.1 b hS).1)
   have hB' : Hb W' g (rwA n v J) e := hB.2.of (g2 g hB.1 hB.2.lt)
   refine ⟨ofF_len, h1, ⟨by unfold maxLen at h2; exact h2, by omega⟩, fun hn => ⟨g, 0, rfl, hB'.lt, fun k hk => ?_⟩⟩
   rw [ofF_len] at hk
   refine ⟨(v k).cs, ?_, rfl, fun j u hu => ?_⟩
   · have e : (ofF n fun i => (v i).fv)[k]'(by rw [ofF_len]; exact hk) = (v k).fv := by
      have := ofF_get (f := fun i => (v i).fv) hk
      exact ZL36
     rw [e]
     exact ⟨_, _, _, _, _, _, rfl, (hv k hk).1, (hv k hk).2⟩
   · have hj : j < 4 := (List.getElem?_eq_some_iff.1 hu).1
     rw [Nat.zero_add]
     exact hB'.cell ((rwA_get (J := J) hk hj).trans hu)
theorem rwS_fr {w : World} {n : Nat} {u : Nat → Rw} (h : ∀ j, j < n → FrA w.heap.size (u j).A ∧ FrA w.heap.size (u j).B) : ∀ b, rwS n u b → w.heap.size ≤ b := fun b ⟨i, hi, hS⟩ => by
 rcases hS with ⟨-, a, h1, h2⟩ | ⟨-, a, h1, h2⟩
 · rw [← h2]; exact (h i hi).1 a h1
 · rw [← h2]; exact (h i hi).2 a h1
theorem den_le {x y : Int} (hy : 0 < y) : ((Rat.divInt x y).den : Int) ≤ y := by
 obtain ⟨e1, e2⟩ := divInt_parts (x := x) hy
 rw [e2]
 exact Int.ediv_le_self _ (by omega)
def IsM (D : Int) (q : Rat) : Prop := ∃ z : Int, q * ((D : Int) : Rat) = ((z : Int) : Rat)
theorem IsM.add {D : Int} {p q : Rat} (h : IsM D p) (h' : IsM D q) : IsM D (p + q) := by
 obtain ⟨a, ha⟩ := h
 obtain ⟨b, hb⟩ := h'
 exact ⟨a + b, by rw [Rat.intCast_add, ← ha, ← hb]; grind⟩
theorem IsM.int (D a : Int) : IsM D ((a : Int) : Rat) := ⟨a * D, by rw [Rat.intCast_mul]⟩
theorem IsM.den {D : Int} {q : Rat} (h : IsM D q) (hD : 0 < D) : (q.den : Int) ≤ D := by
 obtain ⟨z, hz⟩ := h
 have hD0 : ((D : Int) : Rat) ≠ 0 := fun e => by
  have : ((D : Int) : Rat) = ((0 : Int) : Rat) := e
  have := Rat.intCast_inj.1 this
  omega
 have e : Rat.divInt z D = q := by
  rw [Rat.divInt_eq_div, ← hz]
  grind
 rw [← e]
 exact den_le hD
end Go.Proofs.YtdlcglndhhndpaaGreat
