/- Laws and walks; conditions stand in each theorem. -/
import Derived.Test.YtdlcglndhhndpaaGreatL15
import Derived.Test.YtdlcglndhhndpaaGreatL16
import Derived.Test.YtdlcglndhhndpaaGreatL08
import Derived.Test.YtdlcglndhhndpaaGreatL03
set_option linter.unusedSimpArgs false
set_option linter.unusedVariables false
set_option maxHeartbeats 2500000
set_option maxRecDepth 100000
namespace Go.Proofs.YtdlcglndhhndpaaGreat
open Go.RowKit
theorem ZL5 {p : Prop} (h : p := by
 first
  | (refine wpAnyT.on 11 rfl fun KK hKK => ?_
     refine k6.appOp ho5 rw_sized _ _ 23 rfl _ 64 Tryz.underlying23 frac_made rfl rfl (⟨x.b.s, A1, n1, c1, x.b.l, x.b.t, A2, n2, c2, x.b.m⟩ : Rw) g _ (by exact List.mem_cons_self) rfl (by rw [ofF_len]; omega) (by omega) ?_
     intro v7 X7 W7 ho7 k7
     replace k7 := k7.cutm
     rw [ofF_put, ← HN.out] at ho7
     obtain ⟨gr, cr, Jr, hv7, hX7, hcr⟩ := ho7.blk (by rw [HN.out]; omega)
     subst hv7 hX7
     refine hKK.out _ _ (HS.out _ (k7.blk (by repeat (first | with_reducible exact List.mem_cons_self | with_reducible apply List.mem_cons_of_mem | with_reducible apply List.mem_append_right))) (k7.blk (by repeat (first | with_reducible exact List.mem_cons_self | with_reducible apply List.mem_cons_of_mem | with_reducible apply List.mem_append_right)))) (fun hSh => ?_)
     clear hKK KK
     refine ZPT ?_
     refine wpAnyT.on 12 rfl fun KK hKK => ?_
     refine k7.litOp _ _ rfl _ rfl _ _ (run_litH _ _ _ _) ?_
     intro g2 W8 k8
     refine hKK.out _ _ (HS.out _ (k8.blk (by repeat (first | with_reducible exact List.mem_cons_self | with_reducible apply List.mem_cons_of_mem | with_reducible apply List.mem_append_right))) (k8.blk (by repeat (first | with_reducible exact List.mem_cons_self | with_reducible apply List.mem_cons_of_mem | with_reducible apply List.mem_append_right)))) (fun hSh => ?_)
     clear hKK KK
     refine ZPT ?_
     refine wpAnyT.on 13 rfl fun KK hKK => ?_
     have k9 : St w (Xh ++ (_ :: _ :: _ :: ((b0, #[hv, .int .i64 n, .bool false], 67) :: M.rows k))) _ _ := St.front (A := [_, _, _]) k8
     refine k9.appOp Ho.out hd_sized _ _ 65 rfl _ 24 Tryz.underlying65 slf_made rfl rfl (⟨some ⟨gr, 0, none⟩, M.N, cr⟩ : Hd) g2 _ (by exact List.mem_cons_self) rfl (by rw [ofF_len]; omega) (by omega) ?_
     intro hv2 Xh2 W10 ho10 k10
     refine hKK.out _ _ (HS.out _ (k10.blk (by repeat (first | with_reducible exact List.mem_cons_self | with_reducible apply List.mem_cons_of_mem | with_reducible apply List.mem_append_right))) (k10.blk (by repeat (first | with_reducible exact List.mem_cons_self | with_reducible apply List.mem_cons_of_mem | with_reducible apply List.mem_append_right)))) (fun hSh => ?_)
     clear hKK KK
     refine ZPT ?_
     refine wpAnyT.on 14 rfl fun KK hKK => ?_
     go_simp
     refine hKK.out _ _ (by assumption) (fun hSh => ?_)
     clear hKK KK
     refine ZPT ?_
     refine wpAnyT.on 15 rfl fun KK hKK => ?_
     go_simp
     refine hKK.out _ _ (by assumption) (fun hSh => ?_)
     clear hKK KK
     refine ZPT ?_
     refine wpAnyT.last rfl (by kernel_rfl) ?_
     obtain ⟨AH, nH, cH, hhv⟩ := ho10.shape
     subst hhv
     refine k10.storeS (b := b0) (off := 0) (cs := #[hv, .int .i64 n, .bool false]) (cs' := #[.slice AH nH cH, .int .i64 n, .bool false]) (t := 67) rfl rfl _ _ _ rfl AH nH cH rfl rfl (by repeat (first | with_reducible exact Upd.head _ | with_reducible apply Upd.tail | with_reducible apply Upd.pre)) rfl slff_size (by simp) ?_
     intro W K
     clear k10 k9 k8 k7 k6 k5 K0 hSh
     have HHo := Lib.hid ho10
     clear ho10 ho7 ho5
     have K2 := K.part (L' := Xh2 ++ (_ :: _ :: M.rows k)) (List.Sublist.append_left (.cons _ (.cons_cons _ (.cons _ (.refl _)))) _)
     have K3 := K2.perm (List.Perm.append_left Xh2 (((List.perm_append_singleton _ (M.rows k)).cons _).trans (List.Perm.swap _ _ _)))
     have HK := Lib.hid (K3.pushK (cr := cr) v ⟨x.b.s, A1, n1, c1, x.b.l, x.b.t, A2, n2, c2, x.b.m⟩ HN.out Hrd.out ⟨Hr1.out, Hr2.out⟩)
     have HV2 := Lib.hid (pushV (Jr := Jr) (gr := gr) (cr := cr) (v := v) (x := x) (y := ⟨x.b.s, A1, n1, c1, x.b.l, x.b.t, A2, n2, c2, x.b.m⟩) HV.out Hx.out (HRow.out k x Hx.out).1 Hfv.out rfl)
     have HC2 := Lib.hid (show ∀ i, i < k + 1 → M.N ≤ (M.push k gr cr Jr (putF v n ⟨x.b.s, A1, n1, c1, x.b.l, x.b.t, A2, n2, c2, x.b.m⟩)).cp i ∧ (M.push k gr cr Jr (putF v n ⟨x.b.s, A1, n1, c1, x.b.l, x.b.t, A2, n2, c2, x.b.m⟩)).cp i ≤ 9223372036854775807 from fun i hi => by
      show M.N ≤ putF M.cp k cr i ∧ putF M.cp k cr i ≤ 9223372036854775807
      by_cases e : i = k
      · rw [e, putF_same]; exact hcr
      · rw [putF_other e]; exact HC.out i (by omega))
     have HHp := Lib.hid (show OwL 1 Hd.cs 23 (.slice AH nH cH) (ofF (k + 1) ((M.push k gr cr Jr (putF v n ⟨x.b.s, A1, n1, c1, x.b.l, x.b.t, A2, n2, c2, x.b.m⟩)).hd n)) Xh2 from by rw [← Mm.push_hd]; exact HHo.out)
     clear K K2 K3 HHo HV HC hcr Ho HS HCl
     go_wp2_with fail
     go_roundg (n - (k + 1))
     case rel => exact ⟨k + 1, M.push k gr cr Jr (putF v n ⟨x.b.s, A1, n1, c1, x.b.l, x.b.t, A2, n2, c2, x.b.m⟩), .slice AH nH cH, Xh2, hlt, rfl, by go_num, HN, HV2, HC2, HHp.out, HK.out⟩
     case measure => omega)
  | fail) : p := h
theorem ZL62 {p : Prop} (h : p := by
 first
  | (go_wp2_with fail
     exact bodyPost_ret (v := .tuple #[.pointer (some ⟨b0, 0, none⟩), _]) (by simp [results, Tryz.results38, go_sem] <;> rfl) rfl HEx.out)
  | fail) : p := h
theorem row_zero : (Tryz.prog.info? 56).map (fun i => i.zero.map (·.cells)) = some (some #[.slice none 0 0, .int .i64 0, .slice none 0 0, .int .i64 0, .slice none 0 0]) := by kernel_rfl
theorem row_size : (Tryz.prog.info? 56).map (·.size) = some 5 := by kernel_rfl
theorem slf_made : (Tryz.prog.info? 23).map (fun i => (i.zero.map (·.cells), i.size, i.bytes)) = some (some #[.slice none 0 0], 1, 24) := by kernel_rfl
theorem run_litF (s t : Int) (A B : Option Addr) (n c m d : Nat) (W : World) : (Instr.buildSlice 23 1 #[(0, .agg #[.int .i64 s, .slice A n c, .int .i64 t, .slice B m d])]).run Tryz.prog W = .ok (.slice (some ⟨W.heap.size, 0, none⟩) 1 1) (W.alloc (.cells #[.int .i64 s, .slice A n c, .int .i64 t, .slice B m d] 50)) := by kernel_rfl
theorem run_litH (A : Option Addr) (n c : Nat) (W : World) : (Instr.buildSlice 65 1 #[(0, .slice A n c)]).run Tryz.prog W = .ok (.slice (some ⟨W.heap.size, 0, none⟩) 1 1) (W.alloc (.cells #[.slice A n c] 23)) := by kernel_rfl
section
variable {w W W' : World} {L L' A B X : List Blk} {D : List Hl}
theorem St.okRd0 (K : St w L D W) {A : Option Addr} {n c : Nat} {l : List Int} (h : RdI w w.heap.size A n c l) : (⟨rdP A n c l, rdS A n⟩ : Hl).ok L W := by
 have hP : ∀ W' : World, w.heap.size ≤ W'.heap.size → (∀ b, rdS A n b → W'.heap[b]? = w.heap[b]?) → rdP A n c l W' := fun W' h1 h2 => by
  refine ⟨h.1, h.2.1, h.2.2.1, fun hn => ?_⟩
  obtain ⟨b', off, e, hlt, hc⟩ := h.2.2.2 hn
  exact ZL72
 have hS : ∀ b, rdS A n b → b < w.heap.size := fun b ⟨hn, a, e, e2⟩ => by
  obtain ⟨b', off, e', hlt, -⟩ := h.2.2.2 hn
  rw [e] at e'
  injection e' with e'
  rw [← e2, e']
  exact hlt
 refine ⟨hP W K.1.size (fun b hb => K.1.block b (hS b hb)), fun b hb => ⟨Nat.lt_of_lt_of_le (hS b hb) K.1.size, fun p hp e => ?_⟩, fun W' h1 h2 => hP W' (Nat.le_trans K.1.size h1) (fun b hb => (h2 b hb).trans (K.1.block b (hS b hb)))⟩
 have := (K.2.1 p hp).1
 have := hS b hb
 omega
theorem St.front (K : St w (A ++ (X ++ B)) D W) : St w (X ++ (A ++ B)) D W := K.perm (List.perm_append_comm_assoc _ _ _)
theorem St.mid {x : Blk} (K : St w (x :: (A ++ B)) D W) : St w (A ++ (x :: B)) D W := K.perm List.perm_middle
theorem St.cutm {x : Blk} (K : St w (A ++ (x :: B)) D W) : St w (A ++ B) D W := K.part (List.Sublist.append_left (List.sublist_cons_self _ _) _)
end
theorem OwL.shape {α : Type} {sz : Nat} {enc : α → List Value} {e : TypeId} {v : Value} {l : List α} {X : List Blk} (h : OwL sz enc e v l X) : ∃ A n c, v = .slice A n c := by
 rcases h with ⟨rfl, _⟩ | ⟨g, cap, J, rfl, _⟩
 · exact ⟨_, _, _, rfl⟩
 · exact ⟨_, _, _, rfl⟩
theorem slff_size : (Tryz.prog.info? 65).map (·.size) = some 1 := by kernel_rfl
def Mm.push (M : Mm) (k gr cr : Nat) (Jr : List Value) (u : Nat → Rw) : Mm := ⟨M.N, putF M.rb k gr, putF M.cp k cr, putF M.J k Jr, putF M.V k u⟩
theorem Mm.push_rows (M : Mm) (k gr cr : Nat) (Jr : List Value) (u : Nat → Rw) : (M.push k gr cr Jr u).rows (k + 1) = M.rows k ++ [(gr, rwA M.N u Jr, 50)] := by
 unfold Mm.rows
 rw [ofF_succ]
 have e1 : ofF k ((M.push k gr cr Jr u).blk (k + 1)) = ofF k (M.blk k) := ofF_congr fun i hi => by
  unfold Mm.push Mm.blk
  simp only
  rw [putF_other (by omega), putF_other (by omega), putF_other (by omega)]
 have e2 : (M.push k gr cr Jr u).blk (k + 1) k = (gr, rwA M.N u Jr, 50) := by
  unfold Mm.push Mm.blk
  simp only
  rw [putF_same, putF_same, putF_same]
 rw [e1, e2]
theorem Mm.push_hd (M : Mm) (n k gr cr : Nat) (Jr : List Value) (u : Nat → Rw) : ofF k (M.hd n) ++ [(⟨some ⟨gr, 0, none⟩, M.N, cr⟩ : Hd)] = ofF (k + 1) ((M.push k gr cr Jr u).hd n) := by
 rw [ofF_succ]
 have e1 : ofF k ((M.push k gr cr Jr u).hd n) = ofF k (M.hd n) := ofF_congr fun i hi => by
  unfold Mm.push Mm.hd
  simp only
  rw [putF_other (by omega), putF_other (by omega)]
 have e2 : (M.push k gr cr Jr u).hd n k = ⟨some ⟨gr, 0, none⟩, M.N, cr⟩ := by
  unfold Mm.push Mm.hd
  simp only
  rw [putF_same, putF_same]
 rw [e1, e2]
def rowL (x : Rv) : List Fv := x.a ++ [x.b]
theorem St.pushK {w W : World} {M : Mm} {n k gr cr : Nat} {Jr : List Value} {mx : Blk} {Xh : List Blk} (v : Nat → Rw) (y : Rw) (K : St w (Xh ++ (mx :: (M.rows k ++ [(gr, rwA M.N (putF v n y) Jr, 50)]))) [M.fam k] W) (hN : M.N = n + 1)
 (hv : ∀ i, i < n → RdI w w.heap.size (v i).A (v i).n (v i).c (v i).l ∧ RdI w w.heap.size (v i).B (v i).m (v i).d (v i).k) (hy : RdI w w.heap.size y.A y.n y.c y.l ∧ RdI w w.heap.size y.B y.m y.d y.k) :
 St w (Xh ++ (mx :: (M.push k gr cr Jr (putF v n y)).rows (k + 1))) [(M.push k gr cr Jr (putF v n y)).fam (k + 1)] W := by
 rw [Mm.push_rows]
 refine (St.fam (I := fun p : Nat × Nat => p.1 < k + 1 ∧ p.2 < M.N) (P := fun p => ((M.push k gr cr Jr (putF v n y)).V p.1 p.2).on) (S := fun p => ((M.push k gr cr Jr (putF v n y)).V p.1 p.2).S) K fun p hp => ?_).less (fun z hz => by
  rw [List.mem_singleton.1 hz]
  exact List.mem_cons_self)
 show (⟨(putF M.V k (putF v n y) p.1 p.2).on, (putF M.V k (putF v n y) p.1 p.2).S⟩ : Hl).ok _ W
 by_cases e : p.1 = k
 · rw [e, putF_same]
   by_cases e2 : p.2 = n
   · rw [e2, putF_same]
     exact (K.okRd0 hy.1).and (K.okRd0 hy.2)
   · rw [putF_other e2]
     have := hv p.2 (by omega)
     exact (K.okRd0 this.1).and (K.okRd0 this.2)
 · rw [putF_other e]
   exact K.famAt (i := p) List.mem_cons_self ⟨by omega, hp.2⟩
theorem pushV {M : Mm} {n k gr cr : Nat} {Jr : List Value} {v : Nat → Rw} {x : Rv} {y : Rw} {l : List Rv} (h : ∀ i, i < k → ∃ x, l[i]? = some x ∧ ∀ j, j < n + 1 → (rowL x)[j]? = some (M.V i j).fv) (hx : l[k]? = some x) (hn : x.a.length = n) (hv : ∀ i, i < n → x.a[i]? = some (v i).fv) (hy : y.fv = x.b) :
 ∀ i, i < k + 1 → ∃ x, l[i]? = some x ∧ ∀ j, j < n + 1 → (rowL x)[j]? = some ((M.push k gr cr Jr (putF v n y)).V i j).fv := fun i hi => by
 show ∃ x, l[i]? = some x ∧ ∀ j, j < n + 1 → (rowL x)[j]? = some (putF M.V k (putF v n y) i j).fv
 by_cases e : i = k
 · refine ⟨x, by rw [e]; exact hx, fun j hj => ?_⟩
   rw [e, putF_same]
   unfold rowL
   by_cases e2 : j = n
   · rw [e2, putF_same, List.getElem?_append_right (by omega), hn, Nat.sub_self, hy]
     rfl
   · rw [putF_other e2, List.getElem?_append_left (by omega)]
     exact hv j (by omega)
 · rw [putF_other e]
   exact h i (by omega)
theorem OwL.shapeL {α : Type} {sz : Nat} {enc : α → List Value} {e : TypeId} {v : Value} {l : List α} {X : List Blk} (h : OwL sz enc e v l X) : ∃ A c, v = .slice A l.length c := by
 rcases h with ⟨rfl, rfl, _⟩ | ⟨g, cap, J, rfl, _⟩
 · exact ⟨_, _, rfl⟩
 · exact ⟨_, _, rfl⟩
def mxR (l : List Rv) : Mx := fun i k => (((l[i]?).bind fun x => (rowL x)[k]?).map Fv.rat).getD 0
theorem mxR_at {l : List Rv} {i k : Nat} {x : Rv} {y : Fv} (hx : l[i]? = some x) (hy : (rowL x)[k]? = some y) : mxR l i k = y.rat := by
 unfold mxR
 rw [hx, Option.bind_some, hy]
 rfl
theorem good_mx {M : Mm} {n : Nat} {l : List Rv} (hN : M.N = n + 1) (hv : ∀ i, i < n → ∃ x, l[i]? = some x ∧ ∀ j, j < n + 1 → (rowL x)[j]? = some (M.V i j).fv) (hr : ∀ (k : Nat) x, l[k]? = some x → x.a.length = n ∧ (∀ y ∈ rowL x, y.ok = true)) : M.good n (mxR l) := fun i k hi hk => by
 obtain ⟨x, hx, h1⟩ := hv i hi
 have h2 := h1 k (by omega)
 rw [mxR_at hx h2]
 exact fv_std ((hr i x hx).2 _ (List.mem_of_getElem? h2))
theorem elim_step {n c : Nat} {stop : Bool} {m : Mx} {fr : List Nat} (hc : c < n) : elimF n stop (n - c) m fr = if findP m c (n - (c - fr.length)) (c - fr.length) = n then (if stop = true then some (m, fr ++ [c]) else elimF n stop (n - (c + 1)) m (fr ++ [c])) else if pivB (swpM m (c - fr.length) (findP m c (n - (c - fr.length)) (c - fr.length))) n (c - fr.length) c = true then elimF n stop (n - (c + 1)) (pivM (swpM m (c - fr.length) (findP m c (n - (c - fr.length)) (c - fr.length))) (c - fr.length) c) fr else none := by
 have e1 : n - c = (n - (c + 1)) + 1 := by omega
 have e2 : n - (n - (c + 1) + 1) = c := by omega
 rw [e1, elimF]
 simp only [e2]
def sfE : Enc (List Fv) := fun w B x cs => ∃ A n c, cs = [.slice A n c] ∧ RdF w B A n c x
abbrev RdFF := Rd 1 sfE
def ElimO (w : World) (n : Nat) (stop : Bool) (m0 : Mx) (e : Ending) (w' : World) : Prop :=
 ∃ (mb : Nat) (A : Option Addr) (cc : Nat) (Af : Option Addr) (cf : Nat) (b : Bool) (fr : List Nat) (m' : Mx), e = .returned (.tuple #[.pointer (some ⟨mb, 0, none⟩), .slice Af (List.length fr) cf]) ∧ Below w.heap.size w w' ∧ (w'.cell? ⟨mb, 0, none⟩ = some (.slice A n cc) ∧ w'.cell? ⟨mb, 2, none⟩ = some (.bool b)) ∧ RdI w' w'.heap.size Af fr.length cf (fr.map fun c : Nat => (c : Int)) ∧
  (b = true → elimF n stop n m0 [] = none) ∧ (b = false → elimF n stop n m0 [] = some (m', fr) ∧ (∀ i k, i < n → k < n + 1 → fitsF (m' i k) = true) ∧ RdFF w' w'.heap.size A n cc (ofF n fun i => ofF (n + 1) fun k => fvQ (m' i k)))
theorem Mm.rdRow {w W : World} {L : List Blk} {D : List Hl} {M : Mm} {n i : Nat} {m : Mx} (K : St w L D W) (hm : M.fam n ∈ D) (hi : i < n) (hb : ((M.rb i, rwA M.N (M.V i) (M.J i), 50) : Blk) ∈ L) (hg : M.good n m) (hN : M.N = n + 1) (hc : M.N ≤ M.cp i ∧ M.cp i ≤ 9223372036854775807) (hn : n ≤ 1000) :
 RdF W W.heap.size (some ⟨M.rb i, 0, none⟩) M.N (M.cp i) (ofF (n + 1) fun k => fvQ (m i k)) := by
 have hB := K.blk hb
 refine ⟨by rw [ofF_len, hN], hc.1, ⟨hc.2, by omega⟩, fun _ => ⟨M.rb i, 0, rfl, hB.lt, fun k hk => ?_⟩⟩
 rw [ofF_len] at hk
 refine ⟨(M.V i k).cs, ?_, rfl, fun j u hu => ?_⟩
 · have e : (ofF (n + 1) fun k => fvQ (m i k))[k]'(by rw [ofF_len]; exact hk) = (M.V i k).fv := by
    have := ofF_get (f := fun k => fvQ (m i k)) hk
    rw [List.getElem?_eq_getElem (by rw [ofF_len]; exact hk)] at this
    rw [Option.some.inj this]
    exact ((hg i k hi (by omega)).1.fv).symm
   rw [e]
   have := K.famOn (M := M) hm hi (j := k) (by omega)
   exact ⟨_, _, _, _, _, _, rfl, this.1, this.2⟩
 · have hj : j < 4 := (List.getElem?_eq_some_iff.1 hu).1
   rw [Nat.zero_add]
   exact hB.cell ((rwA_get (by omega) hj).trans hu)
theorem ElimO.mk {w W : World} {n mb hb hc : Nat} {HJ : List Value} {stop b : Bool} {m0 m' : Mx} {M : Mm} {fr : List Nat} {Xf : List Blk} {vf : Value} (K : St w ((mb, #[.slice (some ⟨hb, 0, none⟩) n hc, .int .i64 n, .bool b], 67) :: (hb, recA Hd.cs n (M.hd n) HJ, 23) :: (M.rows n ++ Xf)) [M.fam n] W) (hcp : M.caps n) (hn : n ≤ 1000) (hfr : fr.length ≤ n) (ho : OwL 1 iEnc 3 vf (fr.map fun c : Nat => (c : Int)) Xf) (hcc : n ≤ hc ∧ hc ≤ 9223372036854775807)
 (h1 : b = true → elimF n stop n m0 [] = none) (h2 : b = false → elimF n stop n m0 [] = some (m', fr) ∧ M.good n m') : ElimO w n stop m0 (.returned (.tuple #[.pointer (some ⟨mb, 0, none⟩), vf])) W := by
 have K3 : St w (Xf ++ (_ :: _ :: M.rows n)) [M.fam n] W := K.perm List.perm_append_comm
 obtain ⟨Af, cf, hv, hr⟩ := (ho.own iSized K3).rd iSized (by rw [List.length_map]; omega)
 rw [List.length_map] at hv hr
 subst hv
 have hB := K.blk (b := mb) ZMB
 have hH := K.blk (b := hb) ZMB
 refine ⟨mb, some ⟨hb, 0, none⟩, hc, Af, cf, b, fr, m', rfl, K.1, ⟨hB.cell rfl, hB.cell rfl⟩, hr, h1, fun hb0 => ?_⟩
 obtain ⟨g1, g2⟩ := h2 hb0
 refine ⟨g1, fun i k hi hk => (g2 i k hi (by have := hcp.1; omega)).2, ofF_len, hcc.1, ⟨hcc.2, by omega⟩, fun _ => ⟨hb, 0, rfl, hH.lt, fun k hk => ?_⟩⟩
 rw [ofF_len] at hk
 refine ⟨[.slice (some ⟨M.rb k, 0, none⟩) M.N (M.cp k)], ?_, rfl, fun j u hu => ?_⟩
 · have e : (ofF n fun i => ofF (n + 1) fun k => fvQ (m' i k))[k]'(by rw [ofF_len]; exact hk) = ofF (n + 1) fun j => fvQ (m' k j) := by
    have := ofF_get (f := fun i => ofF (n + 1) fun k => fvQ (m' i k)) hk
    exact ZL36
   rw [e]
   exact ⟨_, _, _, rfl, Mm.rdRow K List.mem_cons_self hk (List.mem_cons_of_mem _ (List.mem_cons_of_mem _ (Mm.mem hk))) g2 hcp.1 (hcp.2 k hk) hn⟩
 · have hj : j = 0 := by
    have : j < 1 := (List.getElem?_eq_some_iff.1 hu).1
    omega
   subst hj
   rw [Nat.zero_add, Nat.mul_one, Nat.add_zero]
   exact (hH.cell (hdA_get hk)).trans hu
theorem lelim_any (A : Option Addr) (n cap : Nat) (l : List Rv) (stop : Bool) (w : World) (hl : RdR w w.heap.size A n cap l) (hr : rightL (n : Int) l = true) :
 Calls Tryz.prog 38 #[.slice A n cap, .int .i64 n, .bool stop] w (ElimO w n stop (mxR l)) := by
 have hn40 : n ≤ 40 := by
  unfold rightL at hr
  rw [Bool.and_eq_true, decide_eq_true_eq] at hr
  omega
 have hcap := hl.caps
 have HRow := Lib.hid (show ∀ (k : Nat) x, l[k]? = some x → x.a.length = n ∧ (∀ y ∈ rowL x, y.ok = true) from fun k x hx => by
  unfold rightL at hr
  rw [Bool.and_eq_true, List.all_eq_true] at hr
  have h1 := hr.2 x (List.mem_of_getElem? hx)
  unfold rowF at h1
  rw [Bool.and_eq_true, Bool.and_eq_true, decide_eq_true_eq, List.all_eq_true] at h1
  refine ⟨by omega, fun y hy => ?_⟩
  rcases List.mem_append.1 hy with hy | hy
  · exact h1.2 y hy
  · rw [List.mem_singleton.1 hy]; exact h1.1.2)
 have HL := Lib.hid hl
 obtain ⟨m0, hm0⟩ : ∃ m0, m0 = mxR l := ⟨_, rfl⟩
 rw [← hm0]
 have HM0 := Lib.hid hm0
 have K := St.start w
 have r := K.raw
 clear hl hr hm0
 go_enter Tryz.func38, Tryz.ntmps38
 go_wp2_with (first | (refine ZAL ?_; clear K r; (first | ((fail_if_success revert b0); intro W b0 K r) | ((fail_if_success revert b1); intro W b1 K r) | intro W b K r)) | (refine ZST ?_; clear K r; intro W K r))
 go_loopg [18] n (fun gk s18 wr => ∃ (k : Nat) (M : Mm) (hv : Value) (Xh : List Blk), k ≤ n ∧ gk = n - k ∧ s18 = .int .i64 k ∧ Hid (M.N = n + 1) ∧ Hid (∀ i, i < k → ∃ x, l[i]? = some x ∧ ∀ j, j < n + 1 → (rowL x)[j]? = some (M.V i j).fv) ∧ Hid (∀ i, i < k → M.N ≤ M.cp i ∧ M.cp i ≤ 9223372036854775807) ∧ OwL 1 Hd.cs 23 hv (ofF k (M.hd n)) Xh ∧ St w (Xh ++ ((b0, #[hv, .int .i64 n, .bool false], 67) :: M.rows k)) [M.fam k] wr)
 case atStart => exact ⟨0, ⟨n + 1, fun _ => 0, fun _ => 0, fun _ => [], fun _ _ => Rw.zero⟩, .slice none 0 0, [], Nat.zero_le _, rfl, rfl, Lib.hid rfl, Lib.hid (fun i h => absurd h (by omega)), Lib.hid (fun i h => absurd h (by omega)), OwL.nil, K.fam (fun i h => absurd h.1 (by omega))⟩
 case round =>
  clear K r
  obtain ⟨k, M, hv, Xh, hk, rfl, rfl, HN, HV, HC, ho, K⟩ := hrel
  by_cases hlt : k < n
  · obtain ⟨eb, off, A0, n0, c0, A1, n1, c1, A2, n2, c2, x, hA, hbB, hx, ⟨z0, z1, z2, z3, z4⟩, r0, r1, r2⟩ := HL.out.atR hlt
    subst hA
    have hki : (k : Int) < (n : Int) := by omega
    have hk0 : (0 : Int) ≤ (k : Int) := by omega
    have y0 := (K.1.cell (p := ⟨eb, off + k * 5, none⟩) hbB).trans z0
    have y1 := (K.1.cell (p := ⟨eb, off + k * 5 + 1, none⟩) hbB).trans z1
    have y2 := (K.1.cell (p := ⟨eb, off + k * 5 + 2, none⟩) hbB).trans z2
    have y3 := (K.1.cell (p := ⟨eb, off + k * 5 + 3, none⟩) hbB).trans z3
    have y4 := (K.1.cell (p := ⟨eb, off + k * 5 + 4, none⟩) hbB).trans z4
    have hcap0 := r0.caps
    have hcap1 := r1.caps
    have hcap2 := r2.caps
    obtain ⟨ha1, ha2⟩ := HRow.out k x hx
    have hn0 : n = n0 := by rw [← r0.len]; exact ha1.symm
    subst hn0
    obtain ⟨v, rv, rd, hfv⟩ := rdF_raw r0
    have Hrv := Lib.hid rv
    have Hrd := Lib.hid rd
    have Hfv := Lib.hid hfv
    have Hx := Lib.hid hx
    have Hr1 := Lib.hid r1
    have Hr2 := Lib.hid r2
    have Ho := Lib.hid ho
    clear z0 z1 z2 z3 z4 r0 rv rd hfv hx r1 r2 ha1 ha2 ho
    have r := trivial
    go_upto_region 5 with (first | (apply K.alloc; rfl; rfl; exact row_zero; clear K r; (first | ((fail_if_success revert b0); intro W b0 K) | ((fail_if_success revert b1); intro W b1 K) | intro W b K); have r := K.rawS) | (apply K.storeA; rfl; rfl; rfl; rfl; rfl; (exact ZUP); exact row_size; rfl; rfl; rfl; clear K r; intro W K; have r := K.rawS))
    have K0 := K.drew
    have HS := Lib.hid (fun V (h0 : Hb V b0 #[hv, .int .i64 n, .bool false] 67) (h1 : Hb V b1 #[.slice A0 n c0, .int .i64 x.b.s, .slice A1 n1 c1, .int .i64 x.b.t, .slice A2 n2 c2] 56) => (show V.cell? ⟨b0, 0, none⟩ = some hv ∧ V.cell? ⟨b1, 0, none⟩ = some (.slice A0 n c0) ∧ V.cell? ⟨b1, 1, none⟩ = some (.int .i64 x.b.s) ∧ V.cell? ⟨b1, 2, none⟩ = some (.slice A1 n1 c1) ∧ V.cell? ⟨b1, 3, none⟩ = some (.int .i64 x.b.t) ∧ V.cell? ⟨b1, 4, none⟩ = some (.slice A2 n2 c2) from ⟨h0.cell rfl, h1.cell rfl, h1.cell rfl, h1.cell rfl, h1.cell rfl, h1.cell rfl⟩))
    have HCl := Lib.hid (fun L D W (K : St w L D W) => lclone_own A0 n c0 v w W L D K (Hrv.out.up (flat_lasts _) K.1) (by omega))
    have s0 := HS.out _ (K0.blk (by repeat (first | with_reducible exact List.mem_cons_self | with_reducible apply List.mem_cons_of_mem | with_reducible apply List.mem_append_right))) (K0.blk (by repeat (first | with_reducible exact List.mem_cons_self | with_reducible apply List.mem_cons_of_mem | with_reducible apply List.mem_append_right)))
    clear r K y0 y1 y2 y3 y4
    refine wp_region_T 16 (fun W => W.cell? ⟨b0, 0, none⟩ = some hv ∧ W.cell? ⟨b1, 0, none⟩ = some (.slice A0 n c0) ∧ W.cell? ⟨b1, 1, none⟩ = some (.int .i64 x.b.s) ∧ W.cell? ⟨b1, 2, none⟩ = some (.slice A1 n1 c1) ∧ W.cell? ⟨b1, 3, none⟩ = some (.int .i64 x.b.t) ∧ W.cell? ⟨b1, 4, none⟩ = some (.slice A2 n2 c2)) (by kernel_rfl) s0 (fun hSh => ?_)
    clear s0
    generalize World.drew W = V at K0 hSh ⊢
    refine wpAnyT.tk 0 rfl ?_
    refine wpAnyT.tk 1 rfl ?_
    refine wpAnyT.tk 2 rfl ?_
    refine wpAnyT.tk 3 rfl ?_
    refine wpAnyT.tk 4 rfl ?_
    refine wpAnyT.tk 5 rfl ?_
    refine wpAnyT.tk 6 rfl ?_
    refine wpAnyT.tk 8 rfl ?_
    refine wpAnyT.tk 9 rfl ?_
    refine wpAnyT.two (i := 7) (j := 10) rfl rfl rfl rfl (by kernel_rfl) (fun KK hKK => ?_) (fun KK hKK => ?_)
    · go_simp
      go_at_call 84
      refine (HCl.out _ _ _ K0).mono ?_
      rintro e w5 ⟨v5, X5, rfl, ho5, k5⟩
      go_wp2_with fail
      refine hKK.out _ _ (HS.out _ (k5.blk (by repeat (first | with_reducible exact List.mem_cons_self | with_reducible apply List.mem_cons_of_mem | with_reducible apply List.mem_append_right))) (k5.blk (by repeat (first | with_reducible exact List.mem_cons_self | with_reducible apply List.mem_cons_of_mem | with_reducible apply List.mem_append_right)))) (fun hSh => ?_)
      clear hKK KK
      refine ZPT ?_
      refine wpAnyT.on 10 rfl fun KK hKK => ?_
      refine k5.litOp _ _ rfl _ rfl _ _ (run_litF _ _ _ _ _ _ _ _ _) ?_
      intro g W6 k6
      refine hKK.out _ _ (HS.out _ (k6.blk (by repeat (first | with_reducible exact List.mem_cons_self | with_reducible apply List.mem_cons_of_mem | with_reducible apply List.mem_append_right))) (k6.blk (by repeat (first | with_reducible exact List.mem_cons_self | with_reducible apply List.mem_cons_of_mem | with_reducible apply List.mem_append_right)))) (fun hSh => ?_)
      clear hKK KK
      refine ZPT ?_
      replace k6 := k6.mid
      exact ZL5
    · go_simp
      have k5 := K0.new #[.int .i64 x.b.s, .slice A1 n1 c1, .int .i64 x.b.t, .slice A2 n2 c2] 50
      generalize V.alloc (.cells #[.int .i64 x.b.s, .slice A1 n1 c1, .int .i64 x.b.t, .slice A2 n2 c2] 50) = W5 at k5 ⊢
      generalize V.heap.size = g at k5 ⊢
      refine hKK.out _ _ (HS.out _ (k5.blk (by repeat (first | with_reducible exact List.mem_cons_self | with_reducible apply List.mem_cons_of_mem | with_reducible apply List.mem_append_right))) (k5.blk (by repeat (first | with_reducible exact List.mem_cons_self | with_reducible apply List.mem_cons_of_mem | with_reducible apply List.mem_append_right)))) (fun hSh => ?_)
      clear hKK KK
      refine ZPT ?_
      refine wpAnyT.on 7 rfl fun KK hKK => ?_
      go_simp
      go_at_call 84
      refine (HCl.out _ _ _ k5).mono ?_
      rintro e w6 ⟨v5, X5, rfl, ho5, k6⟩
      go_wp2_with fail
      refine hKK.out _ _ (HS.out _ (k6.blk (by repeat (first | with_reducible exact List.mem_cons_self | with_reducible apply List.mem_cons_of_mem | with_reducible apply List.mem_append_right))) (k6.blk (by repeat (first | with_reducible exact List.mem_cons_self | with_reducible apply List.mem_cons_of_mem | with_reducible apply List.mem_append_right)))) (fun hSh => ?_)
      clear hKK KK
      refine ZPT ?_
      exact ZL5
  · have e : n = k := by omega
    subst e
    have HG := Lib.hid (good_mx HN.out HV.out HRow.out)
    have HCp := Lib.hid (show M.caps n from ⟨HN.out, HC.out⟩)
    rw [← HM0.out] at HG
    clear HV HN HC HL HRow hlt hk HM0
    by_cases hn0 : n = 0
    · subst hn0
      have hXh : hv = .slice none 0 0 ∧ Xh = [] ∨ ∃ g cap, hv = .slice (some ⟨g, 0, none⟩) 0 cap ∧ cap ≤ 9223372036854775807 := by
       rcases ho with ⟨h1, -, h3⟩ | ⟨g, cap, J, h1, h2, h3, h4, -⟩
       · exact Or.inl ⟨h1, h3⟩
       · exact Or.inr ⟨g, cap, h1, h4⟩
      have hB := (K.blk (b := b0) (by repeat (first | with_reducible exact List.mem_cons_self | with_reducible apply List.mem_cons_of_mem | with_reducible apply List.mem_append_right)))
      have hsl : ∃ A cc, hv = .slice A 0 cc ∧ cc ≤ 9223372036854775807 := by
       rcases hXh with ⟨h1, -⟩ | ⟨g, cap, h1, h2⟩
       · exact ⟨none, 0, h1, by omega⟩
       · exact ⟨_, cap, h1, h2⟩
      obtain ⟨A', cc, rfl, hcc⟩ := hsl
      have HE := Lib.hid (⟨b0, A', cc, none, 0, false, [], m0, rfl, K.1, ⟨hB.cell rfl, hB.cell rfl⟩, Rd.nil, (fun h => by cases h), fun _ => ⟨rfl, (fun i k hi => absurd hi (by omega)), ⟨rfl, Nat.zero_le _, ⟨hcc, by omega⟩, fun h => absurd h (by omega)⟩⟩⟩ : ElimO w 0 stop m0 (.returned (.tuple #[.pointer (some ⟨b0, 0, none⟩), .slice none 0 0])) wr)
      clear hB ho hXh K HG HCp
      go_wp2_with fail
      go_loopg [12, 11] 0 (fun gk s12 s11 wq => gk = 0 ∧ s12 = .int .i64 0 ∧ s11 = .slice none 0 0 ∧ wq = wr)
      case atStart => exact ⟨rfl, rfl, rfl, rfl⟩
      case round =>
       obtain ⟨rfl, rfl, rfl, hw⟩ := hrel
       subst hw
       go_wp2
       exact bodyPost_ret (v := .tuple #[.pointer (some ⟨b0, 0, none⟩), .slice none 0 0]) (by simp [results, Tryz.results38, go_sem]) rfl HE.out
    · obtain ⟨hb, hc, HJ, hhv, hXh, hhc⟩ := ho.blk (by omega)
      subst hhv hXh
      have K2 : St w ((b0, #[.slice (some ⟨hb, 0, none⟩) n hc, .int .i64 n, .bool false], 67) :: (hb, recA Hd.cs n (M.hd n) HJ, 23) :: (M.rows n ++ [])) [M.fam n] wr := by
       rw [List.append_nil]
       exact K.perm (List.Perm.swap _ _ _)
      clear K ho
      go_wp2_with fail
      go_loopg [12, 11] n (fun gk s12 s11 wq => ∃ (c : Nat) (b : Bool) (M' : Mm) (mc : Mx) (fr : List Nat) (Xf : List Blk), c ≤ n ∧ gk = n - c ∧ s12 = .int .i64 c ∧ Hid (fr.length ≤ c ∧ M'.caps n) ∧ Hid (b = false → elimF n stop n m0 [] = elimF n stop (n - c) mc fr ∧ M'.good n mc) ∧ Hid (b = true → elimF n stop n m0 [] = none) ∧ OwL 1 iEnc 3 s11 (fr.map fun c : Nat => (c : Int)) Xf ∧ St w ((b0, #[.slice (some ⟨hb, 0, none⟩) n hc, .int .i64 n, .bool b], 67) :: (hb, recA Hd.cs n (M'.hd n) HJ, 23) :: (M'.rows n ++ Xf)) [M'.fam n] wq)
      case atStart => exact ⟨0, false, M, m0, [], [], Nat.zero_le _, rfl, rfl, Lib.hid ⟨Nat.le_refl _, HCp.out⟩, Lib.hid (fun _ => ⟨rfl, HG.out⟩), Lib.hid (fun h => by cases h), OwL.nil, K2⟩
      case round =>
       clear K2 HG HCp
       obtain ⟨c, b, M', mc, fr, Xf, hcn, rfl, rfl, HF, HE, HB, hof, K⟩ := hrel
       have r := K.rawS
       by_cases hlt : c < n
       · have hci : (c : Int) < (n : Int) := by omega
         cases b
         · obtain ⟨he, hg⟩ := HE.out rfl
           have hfl := HF.out.1
           obtain ⟨Af, cf, hs⟩ := hof.shapeL
           rw [List.length_map] at hs
           subst hs
           have hw : IntKind.i64.wrap ((c : Int) - (fr.length : Int)) = ((c - fr.length : Nat) : Int) := by
            rw [show (c : Int) - (fr.length : Int) = ((c - fr.length : Nat) : Int) by omega]
            exact IntWalk.i64_in _ (by omega)
           have HPv := Lib.hid (lpivot_any w wr M' Xf [] n (c - fr.length) c b0 hb hc HJ mc K (Nat.sub_le _ _) hlt (by omega) hg HF.out.2)
           rw [elim_step hlt] at he
           obtain ⟨rr, hrr⟩ : ∃ rr, rr = c - fr.length := ⟨_, rfl⟩
           rw [← hrr] at hw HPv he
           have hrc : rr ≤ c := by omega
           obtain ⟨fl, hfl2⟩ : ∃ fl, fl = fr.length := ⟨_, rfl⟩
           rw [← hfl2] at hw hfl hof ⊢
           have HFl := Lib.hid hfl2
           clear hrr hfl2 HE HB K hg
           by_cases ha : findP mc c (n - rr) rr = n
           · rw [if_pos ha] at he
             have hof2 := Lib.hid hof
             clear hof
             cases stop
             · rw [if_neg (by decide)] at he
               have Hel := Lib.hid he
               clear he
               go_wp2_with (first | (go_at_call 85; refine HPv.out.mono ?_; rintro e W' ⟨fr', b', M2, rfl, K2, hcp2, hfr, hy, hno⟩; (first | rw [decide_eq_true ha] at hfr | rw [decide_eq_false ha] at hfr); subst hfr; have Hcp2 := Lib.hid hcp2; (first | have Hy := Lib.hid (hy rfl) | have Hno := Lib.hid (hno rfl)); clear hcp2 hy hno) | (at_builtin; have hb2 := Hy.out.1; have Hg2 := Lib.hid Hy.out.2; subst hb2; have K3 : St w (Xf ++ (_ :: _ :: M2.rows n)) [M2.fam n] _ := K2.perm List.perm_append_comm; refine K3.app1 hof2.out iSized rfl _ _ 46 rfl _ 8 Tryz.underlying46 int_made rfl rfl (c : Int) _ rfl _ rfl (by exact rfl) (by rw [List.length_map]; have := HFl.out; omega) (by omega) ?_; intro v4 X4 W4 ho4 K4))
               go_roundg (n - (c + 1))
               case rel => exact ⟨c + 1, false, M2, mc, fr ++ [c], X4, hlt, rfl, by go_num, Lib.hid ⟨by rw [List.length_append]; show fr.length + 1 ≤ _; have := HF.out.1; omega, Hcp2.out⟩, Lib.hid (fun _ => ⟨Hel.out, Hg2.out⟩), Lib.hid (fun h => by cases h), by rw [List.map_append]; exact ho4, K4.perm (List.perm_append_comm (l₁ := _ :: _ :: M2.rows n) (l₂ := X4))⟩
               case measure => omega
             · rw [if_pos rfl] at he
               have Hel := Lib.hid he
               clear he
               go_wp2_with (first | (go_at_call 85; refine HPv.out.mono ?_; rintro e W' ⟨fr', b', M2, rfl, K2, hcp2, hfr, hy, hno⟩; (first | rw [decide_eq_true ha] at hfr | rw [decide_eq_false ha] at hfr); subst hfr; have Hcp2 := Lib.hid hcp2; (first | have Hy := Lib.hid (hy rfl) | have Hno := Lib.hid (hno rfl)); clear hcp2 hy hno) | (at_builtin; have hb2 := Hy.out.1; have Hg2 := Lib.hid Hy.out.2; subst hb2; have K3 : St w (Xf ++ (_ :: _ :: M2.rows n)) [M2.fam n] _ := K2.perm List.perm_append_comm; refine K3.app1 hof2.out iSized rfl _ _ 46 rfl _ 8 Tryz.underlying46 int_made rfl rfl (c : Int) _ rfl _ rfl (by exact rfl) (by rw [List.length_map]; have := HFl.out; omega) (by omega) ?_; intro v4 X4 W4 ho4 K4))
               have HOsh := Lib.hid ho4.shapeL
               have HEx := Lib.hid (ElimO.mk (K4.perm (List.perm_append_comm (l₁ := _ :: _ :: M2.rows n) (l₂ := X4)) : St w ((b0, #[.slice (some ⟨hb, 0, none⟩) n hc, .int .i64 n, .bool false], 67) :: (hb, recA Hd.cs n (M2.hd n) HJ, 23) :: (M2.rows n ++ X4)) [M2.fam n] W4) Hcp2.out (by omega) (by rw [List.length_append]; show fr.length + 1 ≤ _; have := HF.out.1; omega) (by rw [List.map_append]; exact ho4) hhc (fun h => by cases h) (fun _ => ⟨Hel.out, Hg2.out⟩))
               clear K4 ho4 Hy Hcp2 Hg2
               obtain ⟨Ao, co, hso⟩ := HOsh.out
               exact ZL62
           · rw [if_neg ha] at he
             have Hel := Lib.hid he
             have Hof := Lib.hid hof
             clear he hof
             go_wp2_with (go_at_call 85; refine HPv.out.mono ?_; rintro e W' ⟨fr', b', M2, rfl, K2, hcp2, hfr, hy, hno⟩; (first | rw [decide_eq_true ha] at hfr | rw [decide_eq_false ha] at hfr); subst hfr; have Hcp2 := Lib.hid hcp2; (first | have Hy := Lib.hid (hy rfl) | have Hno := Lib.hid (hno rfl)); clear hcp2 hy hno)
             go_roundg (n - (c + 1))
             case rel => exact ⟨c + 1, b', M2, _, fr, Xf, hlt, rfl, by go_num, Lib.hid ⟨by have := HF.out.1; omega, Hcp2.out⟩, Lib.hid (fun h => by
              have h1 := Hno.out.1
              rw [h] at h1
              refine ⟨?_, Hno.out.2 h⟩
              rw [Hel.out, if_pos (by cases hp : pivB _ n rr c <;> first | rfl | (rw [hp] at h1; cases h1))]), Lib.hid (fun h => by
              have h1 := Hno.out.1
              rw [h] at h1
              rw [Hel.out, if_neg (by intro hp; rw [hp] at h1; cases h1)]), Hof.out, K2⟩
             case measure => omega
         · have HEx := Lib.hid (ElimO.mk (m' := mc) K HF.out.2 (by omega) (by have := HF.out.1; omega) hof hhc (fun _ => HB.out rfl) (fun h => by cases h))
           obtain ⟨Ao, co, hso⟩ := hof.shapeL
           clear hof K HF HE HB
           exact ZL62
       · have e : c = n := by omega
         have HEx := Lib.hid (ElimO.mk (m' := mc) K HF.out.2 (by omega) (by have := HF.out.1; omega) hof hhc HB.out (fun h => by
          obtain ⟨h1, h2⟩ := HE.out h
          rw [e, Nat.sub_self, elimF] at h1
          exact ⟨h1, h2⟩))
         obtain ⟨Ao, co, hso⟩ := hof.shapeL
         clear hof K HF HE HB
         exact ZL62
end Go.Proofs.YtdlcglndhhndpaaGreat
