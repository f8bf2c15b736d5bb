
/- Walk over Read of the reference of layer 4. Conditions stand in the theorem. -/
import Derived.Test.YtkeajohkpmabcaaGreatDoorE17
import Derived.Test.YtkeajohkpmabcaaGreatDoorO
import Derived.Test.YtkeajohkpmabcaaGreatDoorD7
namespace Go.Proofs.YtkeajohkpmabcaaGreatDoor
open Go.RowKit
set_option linter.unusedVariables false
set_option linter.unusedSimpArgs false

theorem lit_c (w : World) (v : Int) (H : Nat) (hH : w.heap.size = H) : RdI (w.alloc (.cells #[.int .i64 v] 3)) (w.alloc (.cells #[.int .i64 v] 3)).heap.size (some ⟨H, 0, none⟩) 1 1 [v] :=
  Rd.litG iSized (w := w) 3 [v] #[.int .i64 v] 1 _ hH rfl rfl (by omega)
theorem lit_d (w : World) (v : Int) (H : Nat) (hH : w.heap.size = H) : RdI (w.alloc (.cells #[.int .i64 v] 3)).drew (w.alloc (.cells #[.int .i64 v] 3)).drew.heap.size (some ⟨H, 0, none⟩) 1 1 [v] :=
  lit_c w v H hH
theorem lit_a0 (w : World) (v : Int) : RdI (w.alloc (.cells #[.int .i64 v] 3)) (w.alloc (.cells #[.int .i64 v] 3)).heap.size (some ⟨w.heap.size, 0, none⟩) 1 1 [v] :=
  Rd.litG iSized (w := w) 3 [v] #[.int .i64 v] 1 _ rfl rfl rfl (by omega)
theorem lit_a (w : World) (v : Int) : RdI (w.alloc (.cells #[.int .i64 v] 3)).drew (w.alloc (.cells #[.int .i64 v] 3)).drew.heap.size (some ⟨w.heap.size, 0, none⟩) 1 1 [v] :=
  lit_a0 w v
theorem rest_len (l : List UInt8) : (restL l).length ≤ l.length := by
  unfold restL
  cases l with
  | nil => exact Nat.le_refl _
  | cons b l => dsimp only; split <;> simp
set_option maxRecDepth 100000 in
set_option maxHeartbeats 4000000 in
theorem eread_any (s : ByteArray) (w : World) (hs : s.size ≤ 1000) :
    Calls Tryz.prog 23 #[.string s] w (BigE w (readZ s.data.toList) (readE s.data.toList)) := by
  have K := St.start w
  have r := K.raw
  obtain ⟨l, hl⟩ : ∃ l, s.data.toList = l := ⟨_, rfl⟩
  have hsl : l.length ≤ 1000 := by rw [← hl, ← Lib.size_eq]; exact hs
  have hs48 : (s.toList == [48]) = (l == [48]) := by rw [Lib.toList_data, hl]
  rw [hl]
  have Hl := Lib.hid hl
  clear hl
  obtain ⟨Z, hZ⟩ : ∃ Z, readZ l = Z := ⟨_, rfl⟩
  obtain ⟨E, hE⟩ : ∃ E, readE l = E := ⟨_, rfl⟩
  rw [hZ, hE]
  have HB0 := Lib.hid (fun h => show Z = 0 ∧ E = 2 from by have := read_nil (l := l) h; rw [hZ, hE] at this; exact this)
  have HB1 := Lib.hid (fun (t : List UInt8) h h' => show Z = 0 ∧ E = 2 from by have := read_zero (l := l) (t := t) h h'; rw [hZ, hE] at this; exact this)
  go_enter Tryz.func23, Tryz.ntmps23
  go_upto_region 3 with (first | ((first | (apply K.alloc; rfl; rfl; (first | with_reducible exact big_zero | with_reducible exact frac_zero)) | (apply K.box; rfl; rfl; rfl)); clear K r; intro W b K; have r := K.rawS) | (apply K.storeA; rfl; rfl; rfl; rfl; rfl; (repeat (first | with_reducible exact Upd.head _ | with_reducible apply Upd.tail)); (first | with_reducible exact big_size | with_reducible exact frac_size); rfl; rfl; rfl; clear K r; intro W K; have r := K.rawS))
  go_cut [17] from 10 to 16 (fun p wx => p = .bool (negL l) ∧ wx = W)
  case first =>
    have hl := Hl.out
    cases l with
    | nil =>
      have hz : s.size = 0 := by rw [Lib.size_eq, hl]; rfl
      clear hl Hl
      go_wp2
      go_meet
      exact ⟨rfl, rfl⟩
    | cons b t =>
      have hz : 0 < s.size := by rw [Lib.size_eq, hl]; simp
      have hb0 : s[0]'hz = b := by
        have := List.getElem_of_eq hl (i := 0) (by rw [← Lib.size_eq]; exact hz)
        simp only [Array.getElem_toList, List.getElem_cons_zero] at this
        exact this
      by_cases h45 : b = 45
      · have hd : ((s[0]'hz).toNat : Int) = 45 := by rw [hb0, h45]; rfl
        have HX := Lib.hid (show negL (b :: t) = true from by rw [h45]; rfl)
        clear hl Hl hb0 h45
        go_wp2
        go_meet
        exact ⟨by rw [HX.out], rfl⟩
      · have hd : ¬ ((s[0]'hz).toNat : Int) = 45 := by
          rw [hb0]
          intro e
          apply h45
          have : b.toNat = (45 : UInt8).toNat := by have : (45 : UInt8).toNat = 45 := rfl; omega
          exact UInt8.toNat_inj.1 this
        have HX := Lib.hid (show negL (b :: t) = false from beq_eq_false_iff_ne.2 h45)
        clear hl Hl hb0 h45
        go_wp2
        go_meet
        exact ⟨by first | rfl | (rw [HX.out]; simp [hd]) | (rw [HX.out, beq_eq_false_iff_ne.2 hd]), rfl⟩
  case rest =>
  obtain ⟨rfl, hw⟩ := hcut
  replace hw := hw.symm
  subst hw
  go_upto_if 17 with fail
  go_cut [4, 5, 17] from 18 to 19 (fun sg t p wx => ∃ (SG : Int) (T : ByteArray), sg = .int .i64 SG ∧ t = .string T ∧ Hid (T.data.toList = restL l ∧ SG = (if negL l = true then -1 else 1)) ∧ wx = W)
  case first =>
    have hl := Hl.out
    cases hn : negL l
    · have HX := Lib.hid (show s.data.toList = restL l ∧ (1 : Int) = (if negL l = true then -1 else 1) from ⟨by
        rw [hl]
        cases l with
        | nil => rfl
        | cons b t =>
          have h45 : (b == 45) = false := hn
          show b :: t = if (b == 45) = true then t else b :: t
          rw [h45]; rfl, by rw [hn]; rfl⟩)
      clear hl Hl hn
      go_wp2
      go_meet
      exact ⟨1, s, rfl, rfl, HX, rfl⟩
    · obtain ⟨b, t, rfl, h45⟩ : ∃ b t, l = b :: t ∧ (b == 45) = true := by
        cases l with
        | nil => cases hn
        | cons b t => exact ⟨b, t, rfl, hn⟩
      have hz : 0 < s.size := by rw [Lib.size_eq, hl]; simp
      have h1s : (1 : Int) ≤ (s.size : Int) := by omega
      have HX := Lib.hid (show (s.extract 1 s.size).data.toList = restL (b :: t) ∧ (-1 : Int) = (if negL (b :: t) = true then -1 else 1) from ⟨by
        rw [ext_from, hl]
        show t = if (b == 45) = true then t else b :: t
        rw [h45]; rfl, by rw [show negL (b :: t) = true from h45]; rfl⟩)
      clear hl Hl hn h45
      go_wp2
      go_meet
      exact ⟨-1, _, rfl, rfl, HX, rfl⟩
  case rest =>
  obtain ⟨SG, T, rfl, rfl, HX, hw⟩ := hcut
  replace hw := hw.symm
  subst hw
  obtain ⟨hT, hng⟩ := HX.out
  have hSG : SG = 1 ∨ SG = -1 := by
    rw [hng]
    split
    · exact Or.inr rfl
    · exact Or.inl rfl
  clear HX Hl
  cases hd0 : T.data.toList with
  | nil =>
    obtain ⟨rfl, rfl⟩ := HB0.out (by rw [← hT]; exact hd0)
    have h6 : T.toList.isEmpty = true := by rw [Lib.toList_data, hd0]; rfl
    clear hd0 hT hsl hng hSG
    go_wp2_with (first | ((first | (apply K.alloc; rfl; rfl; (first | with_reducible exact big_zero | with_reducible exact frac_zero)) | (apply K.box; rfl; rfl; rfl)); clear K r; intro W b K; have r := K.rawS) | (apply K.storeA; rfl; rfl; rfl; rfl; rfl; (repeat (first | with_reducible exact Upd.head _ | with_reducible apply Upd.tail)); (first | with_reducible exact big_size | with_reducible exact frac_size); rfl; rfl; rfl; clear K r; intro W K; have r := K.rawS))
    exact bodyPost_ret (v := .tuple #[.agg #[.int .i64 0, .slice none 0 0], .int .i64 2]) (by simp [results, Tryz.results23, go_sem, r]) rfl ⟨0, none, 0, 0, [], rfl, Rd.nil, Std.zero, FrA.none, K.1⟩
  | cons x y =>
    have h2 : 0 < T.size := by rw [Lib.size_eq, hd0]; simp
    have h6 : T.toList.isEmpty = false := by rw [Lib.toList_data, hd0]; rfl
    have h3 : T[0]'h2 = x := by
      have := List.getElem_of_eq hd0 (i := 0) (by rw [← Lib.size_eq]; exact h2)
      simp only [Array.getElem_toList, List.getElem_cons_zero] at this
      exact this
    have h0 : restL l ≠ [] := by rw [← hT, hd0]; simp
    by_cases hx : x = 48
    · by_cases h148 : l = [48]
      case neg =>
        obtain ⟨rfl, rfl⟩ := HB1.out y (by rw [← hT, hd0, hx]) h148
        have h4 : ((T[0]'h2).toNat : Int) = 48 := by rw [h3, hx]; rfl
        rw [beq_eq_false_iff_ne.2 h148] at hs48
        clear hd0 hT hsl h148 h3 hx h0 hng hSG
        go_wp2_with (first | ((first | (apply K.alloc; rfl; rfl; (first | with_reducible exact big_zero | with_reducible exact frac_zero)) | (apply K.box; rfl; rfl; rfl)); clear K r; intro W b K; have r := K.rawS) | (apply K.storeA; rfl; rfl; rfl; rfl; rfl; (repeat (first | with_reducible exact Upd.head _ | with_reducible apply Upd.tail)); (first | with_reducible exact big_size | with_reducible exact frac_size); rfl; rfl; rfl; clear K r; intro W K; have r := K.rawS))
        exact bodyPost_ret (v := .tuple #[.agg #[.int .i64 0, .slice none 0 0], .int .i64 2]) (by simp [results, Tryz.results23, go_sem, r]) rfl ⟨0, none, 0, 0, [], rfl, Rd.nil, Std.zero, FrA.none, K.1⟩
      have h4 : ((T[0]'h2).toNat : Int) = 48 := by rw [h3, hx]; rfl
      have h1 : ∀ t, restL l = 48 :: t → l = [48] := fun t _ => h148
      have hs48' : (s.toList == [48]) = true := by rw [hs48, h148]; rfl
      clear hs48 hd0 h3 hx h148
      go_wp2_with (first | ((first | (apply K.alloc; rfl; rfl; (first | with_reducible exact big_zero | with_reducible exact frac_zero)) | (apply K.box; rfl; rfl; rfl)); clear K r; intro W b K; have r := K.rawS) | (apply K.storeA; rfl; rfl; rfl; rfl; rfl; (repeat (first | with_reducible exact Upd.head _ | with_reducible apply Upd.tail)); (first | with_reducible exact big_size | with_reducible exact frac_size); rfl; rfl; rfl; clear K r; intro W K; have r := K.rawS))
      clear h6 hs48'
      have hTs : T.size ≤ 1000 := by rw [Lib.size_eq, hT]; exact Nat.le_trans (rest_len l) hsl
      have hin : ∀ (k : Nat) (c : UInt8), T.data.toList[k]? = some c → ∀ h : k < T.size, T[k]'h = c := fun k c hc h => by
        have h' : k < T.data.toList.length := by rw [← Lib.size_eq]; exact h
        rw [List.getElem?_eq_getElem h'] at hc
        injection hc
      have Hin := Lib.hid hin
      have HL := Lib.hid (Lib.size_eq T)
      have HN := Lib.hid (fun (k : Nat) (c : UInt8) (h : T.data.toList[k]? = some c) (hc : isD c = false) => read_nodig (l := l) (k := k) (c := c) (by rw [← hT]; exact h) hc)
      have HG := Lib.hid (fun h => good_read (form_all (l := l) h0 h1 h))
      rw [← hT] at HG
      rw [hZ, hE] at HN HG
      have Hng := Lib.hid hng
      clear hin h0 h1 hZ hE hT hng
      go_loopg [6] T.size (fun gk s6 wr => ∃ k : Nat, k ≤ T.size ∧ gk = T.size - k ∧ s6 = .int .i64 k ∧ Hid (∀ (j : Nat) c, j < k → T.data.toList[j]? = some c → isD c = true) ∧ wr = W)
      case atStart => exact ⟨0, Nat.zero_le _, rfl, rfl, Lib.hid (fun j c h => absurd h (by omega)), rfl⟩
      case round =>
        obtain ⟨k, hk, rfl, rfl, HA, hw⟩ := hrel
        replace hw := hw.symm
        subst hw
        by_cases hlt : k < T.size
        · obtain ⟨c, hc⟩ : ∃ c, T.data.toList[k]? = some c := ⟨_, List.getElem?_eq_getElem (by rw [← Lib.size_eq]; exact hlt)⟩
          have hi := Hin.out k c hc hlt
          have hki : (k : Int) < (T.size : Int) := by omega
          have hk0 : (0 : Int) ≤ (k : Int) := by omega
          have hcn : ((T[k]'hlt).toNat : Int) = (c.toNat : Int) := by rw [hi]
          by_cases hd : isD c = true
          case neg =>
            obtain ⟨rfl, rfl⟩ := HN.out k c hc (by cases h : isD c with | true => exact absurd h hd | false => rfl)
            by_cases h48 : (c.toNat : Int) < 48
            · clear hd hi HG HN Hin HA hc
              go_wp2_with (first | ((first | (apply K.alloc; rfl; rfl; (first | with_reducible exact big_zero | with_reducible exact frac_zero)) | (apply K.box; rfl; rfl; rfl)); clear K r; intro W b K; have r := K.rawS) | (apply K.storeA; rfl; rfl; rfl; rfl; rfl; (repeat (first | with_reducible exact Upd.head _ | with_reducible apply Upd.tail)); (first | with_reducible exact big_size | with_reducible exact frac_size); rfl; rfl; rfl; clear K r; intro W K; have r := K.rawS))
              exact bodyPost_ret (v := .tuple #[.agg #[.int .i64 0, .slice none 0 0], .int .i64 2]) (by simp [results, Tryz.results23, go_sem, r]) rfl ⟨0, none, 0, 0, [], rfl, Rd.nil, Std.zero, FrA.none, K.1⟩
            · have h57 : (57 : Int) < (c.toNat : Int) := by
                unfold isD at hd
                simp only [Bool.and_eq_true, decide_eq_true_eq] at hd
                omega
              clear hd hi HG HN Hin HA hc
              go_wp2_with (first | ((first | (apply K.alloc; rfl; rfl; (first | with_reducible exact big_zero | with_reducible exact frac_zero)) | (apply K.box; rfl; rfl; rfl)); clear K r; intro W b K; have r := K.rawS) | (apply K.storeA; rfl; rfl; rfl; rfl; rfl; (repeat (first | with_reducible exact Upd.head _ | with_reducible apply Upd.tail)); (first | with_reducible exact big_size | with_reducible exact frac_size); rfl; rfl; rfl; clear K r; intro W K; have r := K.rawS))
              exact bodyPost_ret (v := .tuple #[.agg #[.int .i64 0, .slice none 0 0], .int .i64 2]) (by simp [results, Tryz.results23, go_sem, r]) rfl ⟨0, none, 0, 0, [], rfl, Rd.nil, Std.zero, FrA.none, K.1⟩
          have hcr : 48 ≤ c.toNat ∧ c.toNat ≤ 57 := by
            unfold isD at hd
            simp only [Bool.and_eq_true, decide_eq_true_eq] at hd
            omega
          have HA2 := Lib.hid (show ∀ (j : Nat) c, j < k + 1 → T.data.toList[j]? = some c → isD c = true from fun j c' hj hc' => by
            by_cases e : j = k
            · subst e; rw [hc] at hc'; injection hc' with e; subst e; exact hd
            · exact HA.out j c' (by omega) hc')
          have d1 : ¬ (c.toNat : Int) < 48 := by omega
          have d2 : ¬ (57 : Int) < (c.toNat : Int) := by omega
          clear hd hi HA hc
          go_wp2
          go_roundg (T.size - (k + 1))
          case rel => exact ⟨k + 1, hlt, rfl, by go_num, HA2, rfl⟩
          case measure => omega
        · have ee : k = T.size := by omega
          subst ee
          have hall : ∀ (j : Nat) c, T.data.toList[j]? = some c → isD c = true := fun j c hc => HA.out j c (by
            have := (List.getElem?_eq_some_iff.1 hc).1
            rw [Lib.size_eq]; exact this) hc
          obtain ⟨G1, G2⟩ := HG.out hall
          have HG2 := Lib.hid G2
          have Hall := Lib.hid hall
          have hfit : ∀ u : Nat, (digs u).length ≤ 60 → fits (SG * (u : Int)) = true := by
            intro u hu
            have := digs_len.1 hu
            refine fits_iff.2 ?_
            rcases hSG with e | e <;> rw [e] <;> simp <;> exact this
          have Hfit := Lib.hid hfit
          have HG3 := Lib.hid (G1 SG Hng.out)
          have HSG := Lib.hid hSG
          clear G1 G2 hall HG HN HA hfit Hng hSG
          have hsz := K.1.size
          clear r
          go_wp2
          go_loopg [7, 8] T.size (fun gk s7 s8 wr => ∃ (k : Nat) (A' : Option Addr) (n' c' : Nat), k ≤ T.size ∧ gk = T.size - k ∧ s7 = .slice A' n' c' ∧ s8 = .int .i64 k ∧ RdI wr wr.heap.size A' n' c' (digs (numF (T.data.toList.take k))) ∧ n' ≤ 60 ∧ Hid (FrA w.heap.size A') ∧ Below W.heap.size W wr)
          case atStart => exact ⟨0, none, 0, 0, Nat.zero_le _, rfl, rfl, rfl, by rw [List.take_zero]; exact (show RdI _ _ none 0 0 (digs 0) from by rw [digs_zero]; exact Rd.nil), by omega, Lib.hid FrA.none, Below.refl _ _⟩
          case round =>
            obtain ⟨k, A', n', c', hk, rfl, rfl, rfl, hr, hn60, HF, hbel⟩ := hrel
            have hlen := hr.len
            have hcap := hr.caps
            by_cases hlt : k < T.size
            · obtain ⟨c, hc⟩ : ∃ c, T.data.toList[k]? = some c := ⟨_, List.getElem?_eq_getElem (by rw [← Lib.size_eq]; exact hlt)⟩
              have hD := Hall.out k c hc
              have hi := Hin.out k c hc hlt
              have hst := num_step hc
              obtain ⟨cn, hcn⟩ : ∃ cn, cn = c.toNat := ⟨_, rfl⟩
              have hic : ((T[k]'hlt).toNat : Int) = (cn : Int) := by rw [hi, hcn]
              rw [← hcn] at hst
              have hcr : 48 ≤ cn ∧ cn ≤ 57 := by
                unfold isD at hD
                simp only [Bool.and_eq_true, decide_eq_true_eq] at hD
                omega
              obtain ⟨d, hd⟩ : ∃ d, d = cn - 48 := ⟨_, rfl⟩
              rw [← hd] at hst
              generalize numF (T.data.toList.take k) = u at *
              have Hst := Lib.hid hst
              have hw8 : IntKind.u8.wrap ((cn : Int) - 48) = (d : Int) := by
                rw [show (cn : Int) - 48 = ((d : Nat) : Int) by omega]
                exact u8_small (by omega)
              have hw64 : IntKind.i64.wrap (d : Int) = (d : Int) := IntWalk.i64_in _ (by omega)
              have hki : (k : Int) < (T.size : Int) := by omega
              have hk0 : (0 : Int) ≤ (k : Int) := by omega
              have hulen : (digs u).length ≤ 60 := by omega
              have h10 := digs_ten hulen
              have h1d := digs_ten_lt (show d < 10 by omega)
              have hs2 : w.heap.size ≤ wr.heap.size := Nat.le_trans hsz hbel.size
              have HM := Lib.hid (fun (A2 : Option Addr) (V : World) (h2 : RdI V V.heap.size A2 1 1 [10]) (h : Below wr.heap.size wr V) => (etimes_any A' A2 n' c' 1 1 (digs u) [10] V (hr.up (flat_lasts _) h) h2 (digs_cn u).1 (DgOk.cons.2 ⟨by omega, DgOk.nil⟩) (by omega) (by omega)).mono fun e V2 hd => (show ∃ A4 n4 c4, e = Ending.returned (.slice A4 n4 c4) ∧ RdI V2 V2.heap.size A4 n4 c4 (digs (10 * u)) ∧ Below wr.heap.size wr V2 ∧ Below V.heap.size V V2 from by
                rw [digs_val, show ((u : Int) * val [10]).toNat = 10 * u by simp [val]; omega] at hd
                obtain ⟨A4, n4, c4, he, hr, hf, hb⟩ := hd
                exact ⟨A4, n4, c4, he, hr, h.trans (hb.mono h.size), hb⟩))
              have HTr := Lib.hid (fun (A2 : Option Addr) (V : World) (h2 : RdI V V.heap.size A2 1 1 [(d : Int)]) (h : Below wr.heap.size wr V) => (etrim_any A2 1 1 [(d : Int)] V h2 (by omega)).mono fun e V2 hd => (show ∃ A4 n4 c4, e = Ending.returned (.slice A4 n4 c4) ∧ RdI V2 V2.heap.size A4 n4 c4 (digs d) ∧ Below wr.heap.size wr V2 ∧ Below V.heap.size V V2 from by
                rw [digs_one (d := d) (by omega)] at hd
                obtain ⟨A4, n4, c4, he, hr, hf, hb⟩ := hd
                exact ⟨A4, n4, c4, he, hr, h.trans (hb.mono h.size), hb⟩))
              have HAd := Lib.hid (fun (A4 A5 : Option Addr) (n4 c4 n5 c5 : Nat) (V : World) (h1 : RdI V V.heap.size A4 n4 c4 (digs (10 * u))) (h2 : RdI V V.heap.size A5 n5 c5 (digs d)) (h : Below wr.heap.size wr V) => (eplus_any A4 A5 n4 c4 n5 c5 (digs (10 * u)) (digs d) V h1 h2 (digs_cn _).1 (digs_cn _).1 (by have := h1.len; omega) (by have := h2.len; omega)).mono fun e V2 hd => (show ∃ A6 n6 c6, e = Ending.returned (.slice A6 n6 c6) ∧ RdI V2 V2.heap.size A6 n6 c6 (digs (numF (T.data.toList.take (k + 1)))) ∧ FrA w.heap.size A6 ∧ Below wr.heap.size wr V2 from by
                rw [digs_val, digs_val, show (((10 * u : Nat) : Int) + (d : Int)).toNat = 10 * u + d by omega, ← Hst.out] at hd
                obtain ⟨A6, n6, c6, he, hr, hf, hb⟩ := hd
                exact ⟨A6, n6, c6, he, hr, hf.mono (by have := h.size; omega), h.trans (hb.mono h.size)⟩))
              clear hst hc hD hi hcn hcr hd Hst h10 h1d hs2
              have B0 := Below.refl wr.heap.size wr
              have R1 := lit_a wr 10
              have R2 := lit_a0 wr 10
              have R3 : RdI ((wr.alloc (.cells #[.int .i64 10] 3)).alloc (.cells #[.int .i64 (d : Int)] 3)) ((wr.alloc (.cells #[.int .i64 10] 3)).alloc (.cells #[.int .i64 (d : Int)] 3)).heap.size (some ⟨wr.heap.size, 0, none⟩) 1 1 [10] := (lit_a0 wr 10).up (flat_lasts _) ((Below.refl _ _).alloc (Nat.le_refl _) _)
              have R4 : RdI ((wr.alloc (.cells #[.int .i64 10] 3)).alloc (.cells #[.int .i64 (d : Int)] 3)) ((wr.alloc (.cells #[.int .i64 10] 3)).alloc (.cells #[.int .i64 (d : Int)] 3)).heap.size (some ⟨wr.heap.size + 1, 0, none⟩) 1 1 [(d : Int)] := lit_c _ _ _ (by simp)
              have R5 : RdI ((wr.alloc (.cells #[.int .i64 10] 3)).alloc (.cells #[.int .i64 (d : Int)] 3)).drew ((wr.alloc (.cells #[.int .i64 10] 3)).alloc (.cells #[.int .i64 (d : Int)] 3)).drew.heap.size (some ⟨wr.heap.size, 0, none⟩) 1 1 [10] := R3
              have R6 : RdI ((wr.alloc (.cells #[.int .i64 10] 3)).alloc (.cells #[.int .i64 (d : Int)] 3)).drew ((wr.alloc (.cells #[.int .i64 10] 3)).alloc (.cells #[.int .i64 (d : Int)] 3)).drew.heap.size (some ⟨wr.heap.size + 1, 0, none⟩) 1 1 [(d : Int)] := R4
              have R7 : RdI ((wr.alloc (.cells #[.int .i64 (d : Int)] 3)).alloc (.cells #[.int .i64 10] 3)) ((wr.alloc (.cells #[.int .i64 (d : Int)] 3)).alloc (.cells #[.int .i64 10] 3)).heap.size (some ⟨wr.heap.size, 0, none⟩) 1 1 [(d : Int)] := (lit_a0 wr (d : Int)).up (flat_lasts _) ((Below.refl _ _).alloc (Nat.le_refl _) _)
              have R8 : RdI ((wr.alloc (.cells #[.int .i64 (d : Int)] 3)).alloc (.cells #[.int .i64 10] 3)) ((wr.alloc (.cells #[.int .i64 (d : Int)] 3)).alloc (.cells #[.int .i64 10] 3)).heap.size (some ⟨wr.heap.size + 1, 0, none⟩) 1 1 [10] := lit_c _ _ _ (by simp)
              have R9 : RdI ((wr.alloc (.cells #[.int .i64 (d : Int)] 3)).alloc (.cells #[.int .i64 10] 3)).drew ((wr.alloc (.cells #[.int .i64 (d : Int)] 3)).alloc (.cells #[.int .i64 10] 3)).drew.heap.size (some ⟨wr.heap.size, 0, none⟩) 1 1 [(d : Int)] := R7
              have R10 : RdI ((wr.alloc (.cells #[.int .i64 (d : Int)] 3)).alloc (.cells #[.int .i64 10] 3)).drew ((wr.alloc (.cells #[.int .i64 (d : Int)] 3)).alloc (.cells #[.int .i64 10] 3)).drew.heap.size (some ⟨wr.heap.size + 1, 0, none⟩) 1 1 [10] := R8
              go_upto_region 17 with fail
              go_cut [7] from 55 to 65 (fun p wx => ∃ A6 n6 c6, p = .slice A6 n6 c6 ∧ RdI wx wx.heap.size A6 n6 c6 (digs (numF (T.data.toList.take (k + 1)))) ∧ Hid (FrA w.heap.size A6) ∧ Below wr.heap.size wr wx)
              case first =>
                go_region_held3 (fun V => Below wr.heap.size wr V)
                  ((first | assumption | exact B0.drew | exact Below.alloc (by assumption) (Below.size (by assumption)) _ | exact (by assumption : Below _ _ _).drew))
                  (first
                    | (go_at_call 78; refine (HM.out _ _ (by (first | with_reducible exact lit_a0 _ _ | with_reducible exact lit_a _ _ | with_reducible exact R1 | with_reducible exact R2 | with_reducible exact R3 | with_reducible exact R4 | with_reducible exact R5 | with_reducible exact R6 | with_reducible exact R7 | with_reducible exact R8 | with_reducible exact R9 | with_reducible exact R10 | with_reducible exact R1.up (flat_lasts _) b5 | with_reducible exact R2.up (flat_lasts _) b5 | with_reducible exact R3.up (flat_lasts _) b5 | with_reducible exact R4.up (flat_lasts _) b5 | with_reducible exact R5.up (flat_lasts _) b5 | with_reducible exact R6.up (flat_lasts _) b5 | with_reducible exact R7.up (flat_lasts _) b5 | with_reducible exact R8.up (flat_lasts _) b5 | with_reducible exact R9.up (flat_lasts _) b5 | with_reducible exact R10.up (flat_lasts _) b5)) (by (first | assumption | exact Below.alloc k4 k4.size _ | exact (Below.alloc k4 k4.size _).drew | exact Below.alloc k5 k5.size _ | exact (Below.alloc k5 k5.size _).drew | exact Below.alloc B0 B0.size _ | exact (Below.alloc B0 B0.size _).drew))).mono ?_; rintro e w4 ⟨A4, n4, c4, rfl, hr4, k4, b4⟩)
                    | (go_at_call 84; refine (HTr.out _ _ (by (first | with_reducible exact lit_a0 _ _ | with_reducible exact lit_a _ _ | with_reducible exact R1 | with_reducible exact R2 | with_reducible exact R3 | with_reducible exact R4 | with_reducible exact R5 | with_reducible exact R6 | with_reducible exact R7 | with_reducible exact R8 | with_reducible exact R9 | with_reducible exact R10 | with_reducible exact R1.up (flat_lasts _) b4 | with_reducible exact R2.up (flat_lasts _) b4 | with_reducible exact R3.up (flat_lasts _) b4 | with_reducible exact R4.up (flat_lasts _) b4 | with_reducible exact R5.up (flat_lasts _) b4 | with_reducible exact R6.up (flat_lasts _) b4 | with_reducible exact R7.up (flat_lasts _) b4 | with_reducible exact R8.up (flat_lasts _) b4 | with_reducible exact R9.up (flat_lasts _) b4 | with_reducible exact R10.up (flat_lasts _) b4)) (by (first | assumption | exact Below.alloc k4 k4.size _ | exact (Below.alloc k4 k4.size _).drew | exact Below.alloc k5 k5.size _ | exact (Below.alloc k5 k5.size _).drew | exact Below.alloc B0 B0.size _ | exact (Below.alloc B0 B0.size _).drew))).mono ?_; rintro e w5 ⟨A5, n5, c5, rfl, hr5, k5, b5⟩)
                    | (go_at_call 74; refine (HAd.out _ _ _ _ _ _ _ (by (first | with_reducible exact hr4 | with_reducible exact hr4.up (flat_lasts _) b5 | exact (hr4.up (flat_lasts _) ((Below.refl _ _).alloc (Nat.le_refl _) _).drew).up (flat_lasts _) b5 | exact (hr4.up (flat_lasts _) ((Below.refl _ _).alloc (Nat.le_refl _) _)).up (flat_lasts _) b5 | exact (hr4.up (flat_lasts _) (Below.refl _ _).drew).up (flat_lasts _) b5)) (by (first | with_reducible exact hr5 | with_reducible exact hr5.up (flat_lasts _) b4 | exact (hr5.up (flat_lasts _) ((Below.refl _ _).alloc (Nat.le_refl _) _).drew).up (flat_lasts _) b4 | exact (hr5.up (flat_lasts _) ((Below.refl _ _).alloc (Nat.le_refl _) _)).up (flat_lasts _) b4 | exact (hr5.up (flat_lasts _) (Below.refl _ _).drew).up (flat_lasts _) b4)) (by (first | assumption | exact Below.alloc k4 k4.size _ | exact (Below.alloc k4 k4.size _).drew | exact Below.alloc k5 k5.size _ | exact (Below.alloc k5 k5.size _).drew | exact Below.alloc B0 B0.size _ | exact (Below.alloc B0 B0.size _).drew))).mono ?_; rintro e w6 ⟨A6, n6, c6, rfl, hr6, hF6, k6⟩))
                all_goals
                  go_wp2
                  go_meet
                  exact ⟨A6, n6, c6, rfl, hr6, Lib.hid hF6, k6⟩
              case rest =>
              obtain ⟨A6, n6, c6, rfl, hr6, hF6, k6⟩ := hcut
              have hb36 := hbel.trans (k6.mono hbel.size)
              have hn6 := hr6.len
              clear HM HTr HAd k6 B0 hr R1 R2 R3 R4 R5 R6 R7 R8 R9 R10
              by_cases h60 : n6 ≤ 60
              · have hd6 : decide ((60 : Int) < (n6 : Int)) = false := decide_eq_false (by omega)
                clear hn6
                go_wp2
                go_roundg (T.size - (k + 1))
                case rel => exact ⟨k + 1, A6, n6, c6, hlt, rfl, rfl, by go_num, hr6, h60, hF6, hb36⟩
                case measure => omega
              · have hd6 : decide ((60 : Int) < (n6 : Int)) = true := decide_eq_true (by omega)
                obtain ⟨rfl, rfl⟩ := HG2.out ⟨k + 1, by omega⟩
                replace K := K.keep hb36
                have r := K.rawS
                clear hn6
                go_wp2_with (first | ((first | (apply K.alloc; rfl; rfl; (first | with_reducible exact big_zero | with_reducible exact frac_zero)) | (apply K.box; rfl; rfl; rfl)); clear K r; intro W b K; have r := K.rawS) | (apply K.storeA; rfl; rfl; rfl; rfl; rfl; (repeat (first | with_reducible exact Upd.head _ | with_reducible apply Upd.tail)); (first | with_reducible exact big_size | with_reducible exact frac_size); rfl; rfl; rfl; clear K r; intro W K; have r := K.rawS))
                exact bodyPost_ret (v := .tuple #[.agg #[.int .i64 0, .slice none 0 0], .int .i64 6]) (by simp [results, Tryz.results23, go_sem, r]) rfl ⟨0, none, 0, 0, [], rfl, Rd.nil, Std.zero, FrA.none, K.1⟩
            · have ee : k = T.size := by omega
              subst ee
              have hfull : T.data.toList.take T.size = T.data.toList := List.take_of_length_le (by rw [← Lib.size_eq]; exact Nat.le_refl _)
              rw [hfull] at hr hlen
              obtain ⟨rfl, rfl⟩ := HG3.out (Hfit.out _ (by omega))
              generalize numF T.data.toList = u at *
              have HS := Lib.hid (fun V hl => emade_any SG A' n' c' (digs u) (SG * (u : Int)) V hl (by omega) (digs_cn u).1 (by rcases HSG.out with e | e; exact Or.inl e; exact Or.inr (Or.inl e)) (by rw [digs_val]))
              clear hfull Hall HG2 HG3 Hfit Hin HSG
              go_wp2_with fail
              refine (HS.out _ hr).mono ?_
              rintro e w7 ⟨s7, A7, n7, c7, l7, rfl, hr7, hs7, hf7, hb7⟩
              have hF7 : FrA W.heap.size A7 := hf7.mono hbel.size
              have hG7 := Lib.hid (hF7.mono hsz)
              replace K := K.ret (hbel.trans (hb7.mono hbel.size)) hr7 hF7
              have r := K.rawS
              clear hr7 hF7 hf7 hb7 hbel HF HS hr
              go_wp2_with (first | ((first | (apply K.alloc; rfl; rfl; (first | with_reducible exact big_zero | with_reducible exact frac_zero)) | (apply K.box; rfl; rfl; rfl)); clear K r; intro W b K; have r := K.rawS) | (apply K.storeA; rfl; rfl; rfl; rfl; rfl; (repeat (first | with_reducible exact Upd.head _ | with_reducible apply Upd.tail)); (first | with_reducible exact big_size | with_reducible exact frac_size); rfl; rfl; rfl; clear K r; intro W K; have r := K.rawS))
              have HE := Lib.hid (⟨s7, A7, n7, c7, l7, rfl, (by first | exact Rd.nil | exact K.rda), hs7, hG7.out, K.1⟩ : BigE w _ 0 (.returned (.tuple #[.agg #[.int .i64 s7, .slice A7 n7 c7], .int .i64 0])) W)
              clear hs7
              exact bodyPost_ret (v := .tuple #[.agg #[.int .i64 s7, .slice A7 n7 c7], .int .i64 0]) (by simp [results, Tryz.results23, go_sem, r]) rfl HE.out
    · have h4 : ¬ ((T[0]'h2).toNat : Int) = 48 := by
        rw [h3]
        intro e
        apply hx
        have : x.toNat = (48 : UInt8).toNat := by have : (48 : UInt8).toNat = 48 := rfl; omega
        exact UInt8.toNat_inj.1 this
      have h1 : ∀ t, restL l = 48 :: t → l = [48] := fun t e => by
        rw [← hT, hd0] at e
        injection e with e
        exact absurd e hx
      have h5 : (((T[0]'h2).toNat : Int) == 48) = false := beq_eq_false_iff_ne.2 h4
      clear hs48 hd0 h3 hx
      go_wp2_with (first | ((first | (apply K.alloc; rfl; rfl; (first | with_reducible exact big_zero | with_reducible exact frac_zero)) | (apply K.box; rfl; rfl; rfl)); clear K r; intro W b K; have r := K.rawS) | (apply K.storeA; rfl; rfl; rfl; rfl; rfl; (repeat (first | with_reducible exact Upd.head _ | with_reducible apply Upd.tail)); (first | with_reducible exact big_size | with_reducible exact frac_size); rfl; rfl; rfl; clear K r; intro W K; have r := K.rawS))
      clear h6
      have hTs : T.size ≤ 1000 := by rw [Lib.size_eq, hT]; exact Nat.le_trans (rest_len l) hsl
      have hin : ∀ (k : Nat) (c : UInt8), T.data.toList[k]? = some c → ∀ h : k < T.size, T[k]'h = c := fun k c hc h => by
        have h' : k < T.data.toList.length := by rw [← Lib.size_eq]; exact h
        rw [List.getElem?_eq_getElem h'] at hc
        injection hc
      have Hin := Lib.hid hin
      have HL := Lib.hid (Lib.size_eq T)
      have HN := Lib.hid (fun (k : Nat) (c : UInt8) (h : T.data.toList[k]? = some c) (hc : isD c = false) => read_nodig (l := l) (k := k) (c := c) (by rw [← hT]; exact h) hc)
      have HG := Lib.hid (fun h => good_read (form_all (l := l) h0 h1 h))
      rw [← hT] at HG
      rw [hZ, hE] at HN HG
      have Hng := Lib.hid hng
      clear hin h0 h1 hZ hE hT hng
      go_loopg [6] T.size (fun gk s6 wr => ∃ k : Nat, k ≤ T.size ∧ gk = T.size - k ∧ s6 = .int .i64 k ∧ Hid (∀ (j : Nat) c, j < k → T.data.toList[j]? = some c → isD c = true) ∧ wr = W)
      case atStart => exact ⟨0, Nat.zero_le _, rfl, rfl, Lib.hid (fun j c h => absurd h (by omega)), rfl⟩
      case round =>
        obtain ⟨k, hk, rfl, rfl, HA, hw⟩ := hrel
        replace hw := hw.symm
        subst hw
        by_cases hlt : k < T.size
        · obtain ⟨c, hc⟩ : ∃ c, T.data.toList[k]? = some c := ⟨_, List.getElem?_eq_getElem (by rw [← Lib.size_eq]; exact hlt)⟩
          have hi := Hin.out k c hc hlt
          have hki : (k : Int) < (T.size : Int) := by omega
          have hk0 : (0 : Int) ≤ (k : Int) := by omega
          have hcn : ((T[k]'hlt).toNat : Int) = (c.toNat : Int) := by rw [hi]
          by_cases hd : isD c = true
          case neg =>
            obtain ⟨rfl, rfl⟩ := HN.out k c hc (by cases h : isD c with | true => exact absurd h hd | false => rfl)
            by_cases h48 : (c.toNat : Int) < 48
            · clear hd hi HG HN Hin HA hc
              go_wp2_with (first | ((first | (apply K.alloc; rfl; rfl; (first | with_reducible exact big_zero | with_reducible exact frac_zero)) | (apply K.box; rfl; rfl; rfl)); clear K r; intro W b K; have r := K.rawS) | (apply K.storeA; rfl; rfl; rfl; rfl; rfl; (repeat (first | with_reducible exact Upd.head _ | with_reducible apply Upd.tail)); (first | with_reducible exact big_size | with_reducible exact frac_size); rfl; rfl; rfl; clear K r; intro W K; have r := K.rawS))
              exact bodyPost_ret (v := .tuple #[.agg #[.int .i64 0, .slice none 0 0], .int .i64 2]) (by simp [results, Tryz.results23, go_sem, r]) rfl ⟨0, none, 0, 0, [], rfl, Rd.nil, Std.zero, FrA.none, K.1⟩
            · have h57 : (57 : Int) < (c.toNat : Int) := by
                unfold isD at hd
                simp only [Bool.and_eq_true, decide_eq_true_eq] at hd
                omega
              clear hd hi HG HN Hin HA hc
              go_wp2_with (first | ((first | (apply K.alloc; rfl; rfl; (first | with_reducible exact big_zero | with_reducible exact frac_zero)) | (apply K.box; rfl; rfl; rfl)); clear K r; intro W b K; have r := K.rawS) | (apply K.storeA; rfl; rfl; rfl; rfl; rfl; (repeat (first | with_reducible exact Upd.head _ | with_reducible apply Upd.tail)); (first | with_reducible exact big_size | with_reducible exact frac_size); rfl; rfl; rfl; clear K r; intro W K; have r := K.rawS))
              exact bodyPost_ret (v := .tuple #[.agg #[.int .i64 0, .slice none 0 0], .int .i64 2]) (by simp [results, Tryz.results23, go_sem, r]) rfl ⟨0, none, 0, 0, [], rfl, Rd.nil, Std.zero, FrA.none, K.1⟩
          have hcr : 48 ≤ c.toNat ∧ c.toNat ≤ 57 := by
            unfold isD at hd
            simp only [Bool.and_eq_true, decide_eq_true_eq] at hd
            omega
          have HA2 := Lib.hid (show ∀ (j : Nat) c, j < k + 1 → T.data.toList[j]? = some c → isD c = true from fun j c' hj hc' => by
            by_cases e : j = k
            · subst e; rw [hc] at hc'; injection hc' with e; subst e; exact hd
            · exact HA.out j c' (by omega) hc')
          have d1 : ¬ (c.toNat : Int) < 48 := by omega
          have d2 : ¬ (57 : Int) < (c.toNat : Int) := by omega
          clear hd hi HA hc
          go_wp2
          go_roundg (T.size - (k + 1))
          case rel => exact ⟨k + 1, hlt, rfl, by go_num, HA2, rfl⟩
          case measure => omega
        · have ee : k = T.size := by omega
          subst ee
          have hall : ∀ (j : Nat) c, T.data.toList[j]? = some c → isD c = true := fun j c hc => HA.out j c (by
            have := (List.getElem?_eq_some_iff.1 hc).1
            rw [Lib.size_eq]; exact this) hc
          obtain ⟨G1, G2⟩ := HG.out hall
          have HG2 := Lib.hid G2
          have Hall := Lib.hid hall
          have hfit : ∀ u : Nat, (digs u).length ≤ 60 → fits (SG * (u : Int)) = true := by
            intro u hu
            have := digs_len.1 hu
            refine fits_iff.2 ?_
            rcases hSG with e | e <;> rw [e] <;> simp <;> exact this
          have Hfit := Lib.hid hfit
          have HG3 := Lib.hid (G1 SG Hng.out)
          have HSG := Lib.hid hSG
          clear G1 G2 hall HG HN HA hfit Hng hSG
          have hsz := K.1.size
          clear r
          go_wp2
          go_loopg [7, 8] T.size (fun gk s7 s8 wr => ∃ (k : Nat) (A' : Option Addr) (n' c' : Nat), k ≤ T.size ∧ gk = T.size - k ∧ s7 = .slice A' n' c' ∧ s8 = .int .i64 k ∧ RdI wr wr.heap.size A' n' c' (digs (numF (T.data.toList.take k))) ∧ n' ≤ 60 ∧ Hid (FrA w.heap.size A') ∧ Below W.heap.size W wr)
          case atStart => exact ⟨0, none, 0, 0, Nat.zero_le _, rfl, rfl, rfl, by rw [List.take_zero]; exact (show RdI _ _ none 0 0 (digs 0) from by rw [digs_zero]; exact Rd.nil), by omega, Lib.hid FrA.none, Below.refl _ _⟩
          case round =>
            obtain ⟨k, A', n', c', hk, rfl, rfl, rfl, hr, hn60, HF, hbel⟩ := hrel
            have hlen := hr.len
            have hcap := hr.caps
            by_cases hlt : k < T.size
            · obtain ⟨c, hc⟩ : ∃ c, T.data.toList[k]? = some c := ⟨_, List.getElem?_eq_getElem (by rw [← Lib.size_eq]; exact hlt)⟩
              have hD := Hall.out k c hc
              have hi := Hin.out k c hc hlt
              have hst := num_step hc
              obtain ⟨cn, hcn⟩ : ∃ cn, cn = c.toNat := ⟨_, rfl⟩
              have hic : ((T[k]'hlt).toNat : Int) = (cn : Int) := by rw [hi, hcn]
              rw [← hcn] at hst
              have hcr : 48 ≤ cn ∧ cn ≤ 57 := by
                unfold isD at hD
                simp only [Bool.and_eq_true, decide_eq_true_eq] at hD
                omega
              obtain ⟨d, hd⟩ : ∃ d, d = cn - 48 := ⟨_, rfl⟩
              rw [← hd] at hst
              generalize numF (T.data.toList.take k) = u at *
              have Hst := Lib.hid hst
              have hw8 : IntKind.u8.wrap ((cn : Int) - 48) = (d : Int) := by
                rw [show (cn : Int) - 48 = ((d : Nat) : Int) by omega]
                exact u8_small (by omega)
              have hw64 : IntKind.i64.wrap (d : Int) = (d : Int) := IntWalk.i64_in _ (by omega)
              have hki : (k : Int) < (T.size : Int) := by omega
              have hk0 : (0 : Int) ≤ (k : Int) := by omega
              have hulen : (digs u).length ≤ 60 := by omega
              have h10 := digs_ten hulen
              have h1d := digs_ten_lt (show d < 10 by omega)
              have hs2 : w.heap.size ≤ wr.heap.size := Nat.le_trans hsz hbel.size
              have HM := Lib.hid (fun (A2 : Option Addr) (V : World) (h2 : RdI V V.heap.size A2 1 1 [10]) (h : Below wr.heap.size wr V) => (etimes_any A' A2 n' c' 1 1 (digs u) [10] V (hr.up (flat_lasts _) h) h2 (digs_cn u).1 (DgOk.cons.2 ⟨by omega, DgOk.nil⟩) (by omega) (by omega)).mono fun e V2 hd => (show ∃ A4 n4 c4, e = Ending.returned (.slice A4 n4 c4) ∧ RdI V2 V2.heap.size A4 n4 c4 (digs (10 * u)) ∧ Below wr.heap.size wr V2 ∧ Below V.heap.size V V2 from by
                rw [digs_val, show ((u : Int) * val [10]).toNat = 10 * u by simp [val]; omega] at hd
                obtain ⟨A4, n4, c4, he, hr, hf, hb⟩ := hd
                exact ⟨A4, n4, c4, he, hr, h.trans (hb.mono h.size), hb⟩))
              have HTr := Lib.hid (fun (A2 : Option Addr) (V : World) (h2 : RdI V V.heap.size A2 1 1 [(d : Int)]) (h : Below wr.heap.size wr V) => (etrim_any A2 1 1 [(d : Int)] V h2 (by omega)).mono fun e V2 hd => (show ∃ A4 n4 c4, e = Ending.returned (.slice A4 n4 c4) ∧ RdI V2 V2.heap.size A4 n4 c4 (digs d) ∧ Below wr.heap.size wr V2 ∧ Below V.heap.size V V2 from by
                rw [digs_one (d := d) (by omega)] at hd
                obtain ⟨A4, n4, c4, he, hr, hf, hb⟩ := hd
                exact ⟨A4, n4, c4, he, hr, h.trans (hb.mono h.size), hb⟩))
              have HAd := Lib.hid (fun (A4 A5 : Option Addr) (n4 c4 n5 c5 : Nat) (V : World) (h1 : RdI V V.heap.size A4 n4 c4 (digs (10 * u))) (h2 : RdI V V.heap.size A5 n5 c5 (digs d)) (h : Below wr.heap.size wr V) => (eplus_any A4 A5 n4 c4 n5 c5 (digs (10 * u)) (digs d) V h1 h2 (digs_cn _).1 (digs_cn _).1 (by have := h1.len; omega) (by have := h2.len; omega)).mono fun e V2 hd => (show ∃ A6 n6 c6, e = Ending.returned (.slice A6 n6 c6) ∧ RdI V2 V2.heap.size A6 n6 c6 (digs (numF (T.data.toList.take (k + 1)))) ∧ FrA w.heap.size A6 ∧ Below wr.heap.size wr V2 from by
                rw [digs_val, digs_val, show (((10 * u : Nat) : Int) + (d : Int)).toNat = 10 * u + d by omega, ← Hst.out] at hd
                obtain ⟨A6, n6, c6, he, hr, hf, hb⟩ := hd
                exact ⟨A6, n6, c6, he, hr, hf.mono (by have := h.size; omega), h.trans (hb.mono h.size)⟩))
              clear hst hc hD hi hcn hcr hd Hst h10 h1d hs2
              have B0 := Below.refl wr.heap.size wr
              have R1 := lit_a wr 10
              have R2 := lit_a0 wr 10
              have R3 : RdI ((wr.alloc (.cells #[.int .i64 10] 3)).alloc (.cells #[.int .i64 (d : Int)] 3)) ((wr.alloc (.cells #[.int .i64 10] 3)).alloc (.cells #[.int .i64 (d : Int)] 3)).heap.size (some ⟨wr.heap.size, 0, none⟩) 1 1 [10] := (lit_a0 wr 10).up (flat_lasts _) ((Below.refl _ _).alloc (Nat.le_refl _) _)
              have R4 : RdI ((wr.alloc (.cells #[.int .i64 10] 3)).alloc (.cells #[.int .i64 (d : Int)] 3)) ((wr.alloc (.cells #[.int .i64 10] 3)).alloc (.cells #[.int .i64 (d : Int)] 3)).heap.size (some ⟨wr.heap.size + 1, 0, none⟩) 1 1 [(d : Int)] := lit_c _ _ _ (by simp)
              have R5 : RdI ((wr.alloc (.cells #[.int .i64 10] 3)).alloc (.cells #[.int .i64 (d : Int)] 3)).drew ((wr.alloc (.cells #[.int .i64 10] 3)).alloc (.cells #[.int .i64 (d : Int)] 3)).drew.heap.size (some ⟨wr.heap.size, 0, none⟩) 1 1 [10] := R3
              have R6 : RdI ((wr.alloc (.cells #[.int .i64 10] 3)).alloc (.cells #[.int .i64 (d : Int)] 3)).drew ((wr.alloc (.cells #[.int .i64 10] 3)).alloc (.cells #[.int .i64 (d : Int)] 3)).drew.heap.size (some ⟨wr.heap.size + 1, 0, none⟩) 1 1 [(d : Int)] := R4
              have R7 : RdI ((wr.alloc (.cells #[.int .i64 (d : Int)] 3)).alloc (.cells #[.int .i64 10] 3)) ((wr.alloc (.cells #[.int .i64 (d : Int)] 3)).alloc (.cells #[.int .i64 10] 3)).heap.size (some ⟨wr.heap.size, 0, none⟩) 1 1 [(d : Int)] := (lit_a0 wr (d : Int)).up (flat_lasts _) ((Below.refl _ _).alloc (Nat.le_refl _) _)
              have R8 : RdI ((wr.alloc (.cells #[.int .i64 (d : Int)] 3)).alloc (.cells #[.int .i64 10] 3)) ((wr.alloc (.cells #[.int .i64 (d : Int)] 3)).alloc (.cells #[.int .i64 10] 3)).heap.size (some ⟨wr.heap.size + 1, 0, none⟩) 1 1 [10] := lit_c _ _ _ (by simp)
              have R9 : RdI ((wr.alloc (.cells #[.int .i64 (d : Int)] 3)).alloc (.cells #[.int .i64 10] 3)).drew ((wr.alloc (.cells #[.int .i64 (d : Int)] 3)).alloc (.cells #[.int .i64 10] 3)).drew.heap.size (some ⟨wr.heap.size, 0, none⟩) 1 1 [(d : Int)] := R7
              have R10 : RdI ((wr.alloc (.cells #[.int .i64 (d : Int)] 3)).alloc (.cells #[.int .i64 10] 3)).drew ((wr.alloc (.cells #[.int .i64 (d : Int)] 3)).alloc (.cells #[.int .i64 10] 3)).drew.heap.size (some ⟨wr.heap.size + 1, 0, none⟩) 1 1 [10] := R8
              go_upto_region 17 with fail
              go_cut [7] from 55 to 65 (fun p wx => ∃ A6 n6 c6, p = .slice A6 n6 c6 ∧ RdI wx wx.heap.size A6 n6 c6 (digs (numF (T.data.toList.take (k + 1)))) ∧ Hid (FrA w.heap.size A6) ∧ Below wr.heap.size wr wx)
              case first =>
                go_region_held3 (fun V => Below wr.heap.size wr V)
                  ((first | assumption | exact B0.drew | exact Below.alloc (by assumption) (Below.size (by assumption)) _ | exact (by assumption : Below _ _ _).drew))
                  (first
                    | (go_at_call 78; refine (HM.out _ _ (by (first | with_reducible exact lit_a0 _ _ | with_reducible exact lit_a _ _ | with_reducible exact R1 | with_reducible exact R2 | with_reducible exact R3 | with_reducible exact R4 | with_reducible exact R5 | with_reducible exact R6 | with_reducible exact R7 | with_reducible exact R8 | with_reducible exact R9 | with_reducible exact R10 | with_reducible exact R1.up (flat_lasts _) b5 | with_reducible exact R2.up (flat_lasts _) b5 | with_reducible exact R3.up (flat_lasts _) b5 | with_reducible exact R4.up (flat_lasts _) b5 | with_reducible exact R5.up (flat_lasts _) b5 | with_reducible exact R6.up (flat_lasts _) b5 | with_reducible exact R7.up (flat_lasts _) b5 | with_reducible exact R8.up (flat_lasts _) b5 | with_reducible exact R9.up (flat_lasts _) b5 | with_reducible exact R10.up (flat_lasts _) b5)) (by (first | assumption | exact Below.alloc k4 k4.size _ | exact (Below.alloc k4 k4.size _).drew | exact Below.alloc k5 k5.size _ | exact (Below.alloc k5 k5.size _).drew | exact Below.alloc B0 B0.size _ | exact (Below.alloc B0 B0.size _).drew))).mono ?_; rintro e w4 ⟨A4, n4, c4, rfl, hr4, k4, b4⟩)
                    | (go_at_call 84; refine (HTr.out _ _ (by (first | with_reducible exact lit_a0 _ _ | with_reducible exact lit_a _ _ | with_reducible exact R1 | with_reducible exact R2 | with_reducible exact R3 | with_reducible exact R4 | with_reducible exact R5 | with_reducible exact R6 | with_reducible exact R7 | with_reducible exact R8 | with_reducible exact R9 | with_reducible exact R10 | with_reducible exact R1.up (flat_lasts _) b4 | with_reducible exact R2.up (flat_lasts _) b4 | with_reducible exact R3.up (flat_lasts _) b4 | with_reducible exact R4.up (flat_lasts _) b4 | with_reducible exact R5.up (flat_lasts _) b4 | with_reducible exact R6.up (flat_lasts _) b4 | with_reducible exact R7.up (flat_lasts _) b4 | with_reducible exact R8.up (flat_lasts _) b4 | with_reducible exact R9.up (flat_lasts _) b4 | with_reducible exact R10.up (flat_lasts _) b4)) (by (first | assumption | exact Below.alloc k4 k4.size _ | exact (Below.alloc k4 k4.size _).drew | exact Below.alloc k5 k5.size _ | exact (Below.alloc k5 k5.size _).drew | exact Below.alloc B0 B0.size _ | exact (Below.alloc B0 B0.size _).drew))).mono ?_; rintro e w5 ⟨A5, n5, c5, rfl, hr5, k5, b5⟩)
                    | (go_at_call 74; refine (HAd.out _ _ _ _ _ _ _ (by (first | with_reducible exact hr4 | with_reducible exact hr4.up (flat_lasts _) b5 | exact (hr4.up (flat_lasts _) ((Below.refl _ _).alloc (Nat.le_refl _) _).drew).up (flat_lasts _) b5 | exact (hr4.up (flat_lasts _) ((Below.refl _ _).alloc (Nat.le_refl _) _)).up (flat_lasts _) b5 | exact (hr4.up (flat_lasts _) (Below.refl _ _).drew).up (flat_lasts _) b5)) (by (first | with_reducible exact hr5 | with_reducible exact hr5.up (flat_lasts _) b4 | exact (hr5.up (flat_lasts _) ((Below.refl _ _).alloc (Nat.le_refl _) _).drew).up (flat_lasts _) b4 | exact (hr5.up (flat_lasts _) ((Below.refl _ _).alloc (Nat.le_refl _) _)).up (flat_lasts _) b4 | exact (hr5.up (flat_lasts _) (Below.refl _ _).drew).up (flat_lasts _) b4)) (by (first | assumption | exact Below.alloc k4 k4.size _ | exact (Below.alloc k4 k4.size _).drew | exact Below.alloc k5 k5.size _ | exact (Below.alloc k5 k5.size _).drew | exact Below.alloc B0 B0.size _ | exact (Below.alloc B0 B0.size _).drew))).mono ?_; rintro e w6 ⟨A6, n6, c6, rfl, hr6, hF6, k6⟩))
                all_goals
                  go_wp2
                  go_meet
                  exact ⟨A6, n6, c6, rfl, hr6, Lib.hid hF6, k6⟩
              case rest =>
              obtain ⟨A6, n6, c6, rfl, hr6, hF6, k6⟩ := hcut
              have hb36 := hbel.trans (k6.mono hbel.size)
              have hn6 := hr6.len
              clear HM HTr HAd k6 B0 hr R1 R2 R3 R4 R5 R6 R7 R8 R9 R10
              by_cases h60 : n6 ≤ 60
              · have hd6 : decide ((60 : Int) < (n6 : Int)) = false := decide_eq_false (by omega)
                clear hn6
                go_wp2
                go_roundg (T.size - (k + 1))
                case rel => exact ⟨k + 1, A6, n6, c6, hlt, rfl, rfl, by go_num, hr6, h60, hF6, hb36⟩
                case measure => omega
              · have hd6 : decide ((60 : Int) < (n6 : Int)) = true := decide_eq_true (by omega)
                obtain ⟨rfl, rfl⟩ := HG2.out ⟨k + 1, by omega⟩
                replace K := K.keep hb36
                have r := K.rawS
                clear hn6
                go_wp2_with (first | ((first | (apply K.alloc; rfl; rfl; (first | with_reducible exact big_zero | with_reducible exact frac_zero)) | (apply K.box; rfl; rfl; rfl)); clear K r; intro W b K; have r := K.rawS) | (apply K.storeA; rfl; rfl; rfl; rfl; rfl; (repeat (first | with_reducible exact Upd.head _ | with_reducible apply Upd.tail)); (first | with_reducible exact big_size | with_reducible exact frac_size); rfl; rfl; rfl; clear K r; intro W K; have r := K.rawS))
                exact bodyPost_ret (v := .tuple #[.agg #[.int .i64 0, .slice none 0 0], .int .i64 6]) (by simp [results, Tryz.results23, go_sem, r]) rfl ⟨0, none, 0, 0, [], rfl, Rd.nil, Std.zero, FrA.none, K.1⟩
            · have ee : k = T.size := by omega
              subst ee
              have hfull : T.data.toList.take T.size = T.data.toList := List.take_of_length_le (by rw [← Lib.size_eq]; exact Nat.le_refl _)
              rw [hfull] at hr hlen
              obtain ⟨rfl, rfl⟩ := HG3.out (Hfit.out _ (by omega))
              generalize numF T.data.toList = u at *
              have HS := Lib.hid (fun V hl => emade_any SG A' n' c' (digs u) (SG * (u : Int)) V hl (by omega) (digs_cn u).1 (by rcases HSG.out with e | e; exact Or.inl e; exact Or.inr (Or.inl e)) (by rw [digs_val]))
              clear hfull Hall HG2 HG3 Hfit Hin HSG
              go_wp2_with fail
              refine (HS.out _ hr).mono ?_
              rintro e w7 ⟨s7, A7, n7, c7, l7, rfl, hr7, hs7, hf7, hb7⟩
              have hF7 : FrA W.heap.size A7 := hf7.mono hbel.size
              have hG7 := Lib.hid (hF7.mono hsz)
              replace K := K.ret (hbel.trans (hb7.mono hbel.size)) hr7 hF7
              have r := K.rawS
              clear hr7 hF7 hf7 hb7 hbel HF HS hr
              go_wp2_with (first | ((first | (apply K.alloc; rfl; rfl; (first | with_reducible exact big_zero | with_reducible exact frac_zero)) | (apply K.box; rfl; rfl; rfl)); clear K r; intro W b K; have r := K.rawS) | (apply K.storeA; rfl; rfl; rfl; rfl; rfl; (repeat (first | with_reducible exact Upd.head _ | with_reducible apply Upd.tail)); (first | with_reducible exact big_size | with_reducible exact frac_size); rfl; rfl; rfl; clear K r; intro W K; have r := K.rawS))
              have HE := Lib.hid (⟨s7, A7, n7, c7, l7, rfl, (by first | exact Rd.nil | exact K.rda), hs7, hG7.out, K.1⟩ : BigE w _ 0 (.returned (.tuple #[.agg #[.int .i64 s7, .slice A7 n7 c7], .int .i64 0])) W)
              clear hs7
              exact bodyPost_ret (v := .tuple #[.agg #[.int .i64 s7, .slice A7 n7 c7], .int .i64 0]) (by simp [results, Tryz.results23, go_sem, r]) rfl HE.out
end Go.Proofs.YtkeajohkpmabcaaGreatDoor
