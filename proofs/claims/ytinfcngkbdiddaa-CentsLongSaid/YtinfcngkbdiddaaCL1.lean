
/- A callee's own blocks taken over by the caller; zeros of the law of layer 27, with its block. Conditions stand in each theorem. -/
import Derived.Test.YtinfcngkbdiddaaCu
namespace Go.Proofs.Ytinfcngkbdiddaa
open Go.RowKit
set_option linter.unusedVariables false
set_option linter.unusedSimpArgs false

theorem St.join {w W W' : World} {L X : List Blk} {D D' : List Hl} (K : St w L D W) (J : St W X D' W') (hD : ∀ x ∈ D', ∀ b, x.S b → W.heap.size ≤ b) : St w (X ++ L) (D' ++ D) W' := by
  refine ⟨K.1.trans (J.1.mono K.1.size), fun p hp => ?_, ?_, fun x hx => ?_⟩
  · rcases List.mem_append.1 hp with hp | hp
    · exact ⟨Nat.le_trans K.1.size (J.2.1 p hp).1, (J.2.1 p hp).2⟩
    · exact ⟨(K.2.1 p hp).1, (K.2.1 p hp).2.of (J.1.block _ (K.2.1 p hp).2.lt)⟩
  · refine List.pairwise_append.2 ⟨J.2.2.1, K.2.2.1, fun p hp q hq e => ?_⟩
    have h1 := (J.2.1 p hp).1
    have h2 := (K.2.1 q hq).2.lt
    omega
  · rcases List.mem_append.1 hx with hx | hx
    · have h := J.2.2.2 x hx
      refine ⟨h.1, fun b hS => ⟨(h.2.1 b hS).1, fun p hp e => ?_⟩, h.2.2⟩
      rcases List.mem_append.1 hp with hp | hp
      · exact (h.2.1 b hS).2 p hp e
      · have h1 := hD x hx b hS
        have h2 := (K.2.1 p hp).2.lt
        omega
    · have h := K.2.2.2 x hx
      have h' := h.to (W' := W') J.1.size (fun b hS => J.1.block b (h.2.1 b hS).1)
      refine ⟨h'.1, fun b hS => ⟨(h'.2.1 b hS).1, fun p hp e => ?_⟩, h'.2.2⟩
      rcases List.mem_append.1 hp with hp | hp
      · have h1 := (J.2.1 p hp).1
        have h2 := (h.2.1 b hS).1
        omega
      · exact (h'.2.1 b hS).2 p hp e
/-- what zeros leaves, with its block -/
def ZeroO (n : Nat) (w : World) (e : Ending) (w' : World) : Prop :=
  ∃ v u X, e = .returned v ∧ OwL 4 Rw.cs 35 v (ofF n u) X ∧ St w X [⟨rwP n u, rwS n u⟩] w' ∧ (∀ j, j < n → (u j).fv = fvQ 0) ∧ ∀ b, rwS n u b → w.heap.size ≤ b
set_option maxRecDepth 100000 in
set_option maxHeartbeats 2000000 in
theorem wzeros_own (n : Nat) (w : World) (hn : n ≤ 1000) : Calls Try.prog 21 #[.int .i64 n] w (ZeroO n w) := by
  have K := St.start w
  have HO := Lib.hid (fun W => (show Calls Try.prog 16 #[.int .i64 0, .int .i64 1] W (FrV W 0) from by
    have h := wof_any 0 1 W (by decide) (by decide) (by decide)
    rw [show Rat.divInt 0 1 = 0 from rfl] at h
    exact h))
  go_enter Try.func21, Try.ntmps21
  go_wp2
  go_loopg [3, 4] n (fun gk v i wr => ∃ (k : Nat) (u : Nat → Rw) (X : List Blk), k ≤ n ∧ gk = n - k ∧ i = .int .i64 k ∧ Hid (∀ j, j < k → (u j).fv = fvQ 0 ∧ FrA w.heap.size (u j).A ∧ FrA w.heap.size (u j).B) ∧ OwL 4 Rw.cs 35 v (ofF k u) X ∧ St w (X ++ []) [⟨rwP k u, rwS k u⟩] wr)
  case atStart => exact ⟨0, fun _ => Rw.zero, [], Nat.zero_le _, rfl, rfl, Lib.hid (fun j h => absurd h (by omega)), OwL.nil, (K.rwNew 0)⟩
  case round =>
    clear K
    obtain ⟨k, u, X, hk, rfl, rfl, HV, ho, K⟩ := hrel
    by_cases hlt : k < n
    · have hsz := K.bel.size
      go_wp2_with fail
      refine (HO.out _).mono ?_
      rintro e W' ⟨s7, A7, n7, c7, l7, t7, B7, m7, d7, k7, rfl, ⟨hra, hrb⟩, hs7, ⟨hfa, hfb⟩, hb⟩
      have ha7 := hfa.mono hsz
      have hb7 := hfb.mono hsz
      replace K := K.retF hb hra hrb hfa hfb
      clear hra hrb hfa hfb hb hsz
      have HV2 := Lib.hid (show ∀ j, j < k + 1 → (putF u k ⟨s7, A7, n7, c7, l7, t7, B7, m7, d7, k7⟩ j).fv = fvQ 0 ∧ FrA w.heap.size (putF u k ⟨s7, A7, n7, c7, l7, t7, B7, m7, d7, k7⟩ j).A ∧ FrA w.heap.size (putF u k ⟨s7, A7, n7, c7, l7, t7, B7, m7, d7, k7⟩ j).B from fun j hj => by
        by_cases e : j = k
        · subst e; rw [putF_same]; exact ⟨hs7.fv, ha7, hb7⟩
        · rw [putF_other e]; exact HV.out j (by omega))
      clear hs7 HV ha7 hb7
      go_wp2_with (at_builtin; refine K.app1 ho rw_sized rfl _ _ 22 rfl _ 64 Try.underlying22 frac_made rfl rfl (⟨s7, A7, n7, c7, l7, t7, B7, m7, d7, k7⟩ : Rw) _ rfl _ rfl rfl (by rw [ofF_len]; omega) (by omega) ?_; intro v4 X4 W4 ho4 K4)
      go_roundg (n - (k + 1))
      case rel =>
        refine ⟨k + 1, putF u k ⟨s7, A7, n7, c7, l7, t7, B7, m7, d7, k7⟩, X4, hlt, rfl, by go_num, HV2, ?_, ?_⟩
        · rw [← ofF_put]; exact ho4
        · exact (K4.rwAdd ⟨s7, A7, n7, c7, l7, t7, B7, m7, d7, k7⟩ (by repeat (first | with_reducible exact List.mem_cons_self | with_reducible apply List.mem_cons_of_mem)) (by repeat (first | with_reducible exact List.mem_cons_self | with_reducible apply List.mem_cons_of_mem)) (by repeat (first | with_reducible exact List.mem_cons_self | with_reducible apply List.mem_cons_of_mem))).less (by simp only [List.mem_cons, List.not_mem_nil, or_false, forall_eq_or_imp, forall_eq, true_or, or_true, and_self])
      case measure => omega
    · have e : n = k := by omega
      subst e
      rw [List.append_nil] at K
      have HR := Lib.hid (⟨_, u, X, rfl, ho, K, fun j hj => (HV.out j hj).1, fun b ⟨i, hi, hS⟩ => by
        rcases hS with ⟨-, a, h1, h2⟩ | ⟨-, a, h1, h2⟩
        · rw [← h2]; exact (HV.out i hi).2.1 a h1
        · rw [← h2]; exact (HV.out i hi).2.2 a h1⟩ : ZeroO n w (.returned u3) wr)
      clear HV ho K hlt
      go_wp2
      go_ret
      exact HR.out
/-- a list of fractions that leans on blocks which came between two worlds -/
def FrK (w w' : World) (A : Option Addr) (n cap : Nat) (l : List Fv) : Prop := ∀ W : World, w'.heap.size ≤ W.heap.size → (∀ b, w.heap.size ≤ b → b < w'.heap.size → W.heap[b]? = w'.heap[b]?) → RdF W W.heap.size A n cap l
theorem FrK.now {w w' : World} {A : Option Addr} {n cap : Nat} {l : List Fv} (h : FrK w w' A n cap l) : RdF w' w'.heap.size A n cap l := h w' (Nat.le_refl _) (fun _ _ _ => rfl)
def betS (w w' : World) : Nat → Prop := fun b => w.heap.size ≤ b ∧ b < w'.heap.size
def rfQ (A : Option Addr) (n cap : Nat) (l : List Fv) : World → Prop := fun W => RdF W W.heap.size A n cap l
def riQ (A : Option Addr) (n cap : Nat) (l : List Int) : World → Prop := fun W => RdI W W.heap.size A n cap l
section
variable {w W W' : World} {L : List Blk} {D : List Hl}
/-- .. goes on being read -/
theorem St.addK (K : St w L D W) (hb : Below W.heap.size W W') {A : Option Addr} {n cap : Nat} {l : List Fv} (h : FrK W W' A n cap l) : St w L (⟨rfQ A n cap l, betS W W'⟩ :: D) W' :=
  (K.keep hb).add ⟨h.now, fun b hS => ⟨hS.2, fun p hp e => by
    have h1 := (K.2.1 p hp).2.lt
    have h2 := hS.1
    omega⟩, fun W'' h1 h2 => h W'' h1 (fun b h3 h4 => h2 b ⟨h3, h4⟩)⟩
theorem St.addKI (K : St w L D W) (hb : Below W.heap.size W W') {A : Option Addr} {n cap : Nat} {l : List Int} (h : ∀ W'' : World, W'.heap.size ≤ W''.heap.size → (∀ b, W.heap.size ≤ b → b < W'.heap.size → W''.heap[b]? = W'.heap[b]?) → RdI W'' W''.heap.size A n cap l) : St w L (⟨riQ A n cap l, betS W W'⟩ :: D) W' :=
  (K.keep hb).add ⟨h W' (Nat.le_refl _) (fun _ _ _ => rfl), fun b hS => ⟨hS.2, fun p hp e => by
    have h1 := (K.2.1 p hp).2.lt
    have h2 := hS.1
    omega⟩, fun W'' h1 h2 => h W'' h1 (fun b h3 h4 => h2 b ⟨h3, h4⟩)⟩
theorem St.getQ (K : St w L D W) {A : Option Addr} {n cap : Nat} {l : List Fv} {S : Nat → Prop} (hm : (⟨rfQ A n cap l, S⟩ : Hl) ∈ D) : RdF W W.heap.size A n cap l := K.at hm
theorem St.getI (K : St w L D W) {A : Option Addr} {n cap : Nat} {l : List Int} {S : Nat → Prop} (hm : (⟨riQ A n cap l, S⟩ : Hl) ∈ D) : RdI W W.heap.size A n cap l := K.at hm
end
/-- what a call has made by appending leans on its own blocks alone -/
theorem OwL.frK {w W : World} {X L : List Blk} {D : List Hl} {n : Nat} {v : Nat → Rw} {e : TypeId} {val : Value} (h : OwL 4 Rw.cs e val (ofF n v) X) (K : St w (X ++ L) D W) (hm : (⟨rwP n v, rwS n v⟩ : Hl) ∈ D) (hn : n ≤ 1000000) (hf : ∀ b, rwS n v b → w.heap.size ≤ b) : ∃ A cap, val = .slice A n cap ∧ FrK w W A n cap (ofF n fun i => (v i).fv) := by
  rcases h with ⟨rfl, h0, rfl⟩ | ⟨g, cap, J, rfl, rfl, h1, h2, h3⟩
  · have : n = 0 := by rw [← ofF_len (n := n) (f := v), h0]; rfl
    subst this
    exact ⟨none, 0, rfl, fun W' _ _ => Rd.nil⟩
  · rw [ofF_len] at h1 ⊢
    have hB := K.2.1 _ (List.mem_append_left _ (List.mem_singleton.2 rfl))
    have hD := K.2.2.2 _ hm
    refine ⟨_, cap, rfl, fun W' g1 g2 => ?_⟩
    have hv : rwP n v W' := hD.2.2 W' g1 (fun b hS => g2 b (hf b hS) (hD.2.1 b hS).1)
    have hB' : Hb W' g (rwA n v J) e := hB.2.of (g2 g hB.1 hB.2.lt)
    refine ⟨ofF_len, h1, ⟨by unfold maxLen at h2; exact h2, by omega⟩, fun hn => ⟨g, 0, rfl, hB'.lt, fun k hk => ?_⟩⟩
    rw [ofF_len] at hk
    refine ⟨(v k).cs, ?_, rfl, fun j u hu => ?_⟩
    · have e : (ofF n fun i => (v i).fv)[k]'(by rw [ofF_len]; exact hk) = (v k).fv := by
        have := ofF_get (f := fun i => (v i).fv) hk
        rw [List.getElem?_eq_getElem (by rw [ofF_len]; exact hk)] at this
        exact Option.some.inj this
      rw [e]
      exact ⟨_, _, _, _, _, _, rfl, (hv k hk).1, (hv k hk).2⟩
    · have hj : j < 4 := (List.getElem?_eq_some_iff.1 hu).1
      rw [Nat.zero_add]
      exact hB'.cell ((rwA_get (J := J) hk hj).trans hu)
theorem rwS_fr {w : World} {n : Nat} {u : Nat → Rw} (h : ∀ j, j < n → FrA w.heap.size (u j).A ∧ FrA w.heap.size (u j).B) : ∀ b, rwS n u b → w.heap.size ≤ b := fun b ⟨i, hi, hS⟩ => by
  rcases hS with ⟨-, a, h1, h2⟩ | ⟨-, a, h1, h2⟩
  · rw [← h2]; exact (h i hi).1 a h1
  · rw [← h2]; exact (h i hi).2 a h1
/-- zeros, as a list that is read -/
theorem wzeros_fr (n : Nat) (w : World) (hn : n ≤ 1000) : Calls Try.prog 21 #[.int .i64 n] w fun e w' => ∃ A cap, e = .returned (.slice A n cap) ∧ FrK w w' A n cap (List.replicate n (fvQ 0)) ∧ Below w.heap.size w w' :=
  (wzeros_own n w hn).mono fun e w' ⟨v, u, X, h1, h2, h3, h4, h5⟩ => by
    obtain ⟨A, cap, h6, h7⟩ := h2.frK (L := []) (by rw [List.append_nil]; exact h3) (by repeat (first | with_reducible exact List.mem_cons_self | with_reducible apply List.mem_cons_of_mem)) (by omega) h5
    rw [ofF_congr h4, ← ofF_rep] at h7
    exact ⟨A, cap, by rw [h1, h6], h7, h3.1⟩
end Go.Proofs.Ytinfcngkbdiddaa
