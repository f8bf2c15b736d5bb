/- Texts laid together: each begins with what it shows, and the conditions stand in its theorems. -/
import Derived.Test.YtkeajohkpmabcaaGreatDoorO
import Derived.Test.YtkeajohkpmabcaaGreatDoorF
import Derived.Deep.QuietTactic
import Derived.BigQuiet
import Derived.Lib.IndexMore
import Derived.Lib.Index
import Derived.Test.YtkeajohkpmabcaaGreatDoorSc
/- Words for the fractions' laws: regions that read and call, by a class of worlds; the text of a big integer. Conditions stand in each theorem. -/
namespace Go.Proofs.YtkeajohkpmabcaaGreatDoor
open Go.RowKit
set_option linter.unusedVariables false
set_option linter.unusedSimpArgs false

theorem St.pack2 {w W : World} {L : List Blk} {D : List Hl} (K : St w L D W) (F : World → Prop) (hF : ∀ W, St w L D W → F W) : ∃ KS : World → Prop, KS W ∧ (∀ W W', KS W → Below W.heap.size W W' → KS W') ∧ (∀ W, KS W → F W) ∧ ∀ W, KS W → St w L D W :=
  ⟨St w L D, K, fun W W' h hb => h.keep hb, hF, fun _ h => h⟩
theorem wp_region_cls {P : Program} {C : World → Prop} {id : Nat} {Q : Exit → Act → World → Prop} {a : Act} {w : World} {l : List Oper} (hm : P.follows .mixedOrders = true) (hB : Region.lexB .any l.toArray = true) (hC : C w.drew)
    (h : wpQuiet P l.toArray C (fun a' => ∀ w', C w' → Q .normal a' w') l a) : (Code.region id l.toArray true).wp P Q a w :=
  wp_region_quiet (C := C) hm hB hC (by simpa using h)
/-- a class of worlds, by a letter each -/
theorem cls_st (KS : World → Prop) (w : World) (h : KS w) (hd : ∀ W, KS W → KS W.drew) : ∃ (ι : Type) (f : ι → World), Nonempty ι ∧ (∃ n, w.drew = f n) ∧ (∀ n, KS (f n)) ∧ ∀ w', KS w' → ∃ n, w' = f n :=
  ⟨{w' : World // KS w'}, Subtype.val, ⟨⟨w, h⟩⟩, ⟨⟨w.drew, hd w h⟩, rfl⟩, fun n => n.2, fun w' h => ⟨⟨w', h⟩, rfl⟩⟩
theorem nTextV (x : Int) (s : Int) (A : Option Addr) (n cap : Nat) (l : List Int) (W : World) (hl : RdI W W.heap.size A n cap l) (h1 : Std s l x) (f1 : fits x = true) (ht : Tab W) : Calls Tryz.prog 31 #[.agg #[.int .i64 s, .slice A n cap]] W fun e w' => e = .returned (.string ⟨(Lib.itoa x).toArray⟩) ∧ Below W.heap.size W w' := by
  have h := btext_any s A n cap l W hl ht
  have e : textB s l = ⟨(Lib.itoa x).toArray⟩ := by
    unfold textB
    rw [if_pos (h1.right f1), h1.val]
  rw [e] at h
  exact h
end Go.Proofs.YtkeajohkpmabcaaGreatDoor

/- Walks over Floor and Text of package frac. Conditions stand in each theorem. -/
namespace Go.Proofs.YtkeajohkpmabcaaGreatDoor
open Go.RowKit
set_option linter.unusedVariables false
set_option linter.unusedSimpArgs false

/-- the integral part -/
def floorZ (ok : Bool) (q : Rat) : Int := if ok = true then fq q.num q.den else 0
set_option maxRecDepth 100000 in
set_option maxHeartbeats 2000000 in
theorem fFloor_any (s1 t1 : Int) (A1 B1 : Option Addr) (n1 c1 m1 d1 : Nat) (l1 k1 : List Int) (w : World) (r1 : RdI w w.heap.size A1 n1 c1 l1) (q1 : RdI w w.heap.size B1 m1 d1 k1) : Calls Tryz.prog 61 #[.agg #[.int .i64 s1, .slice A1 n1 c1, .int .i64 t1, .slice B1 m1 d1]] w (BigR w (floorZ (rightF s1 l1 t1 k1) (ratF s1 l1 t1 k1))) := by
  have K := ((St.start w).oldRd r1).oldRd q1
  have r := K.raw
  have HR1 := Lib.hid (fun W h g => fRight_any s1 t1 A1 B1 n1 c1 m1 d1 l1 k1 W h g)
  cases h1 : rightF s1 l1 t1 k1
  · rw [h1] at HR1
    have e0 : floorZ false (ratF s1 l1 t1 k1) = 0 := rfl
    rw [e0]
    clear h1 e0
    go_enter Tryz.func61, Tryz.ntmps61
    go_wp2_with (first | ((first | (apply K.alloc; rfl; rfl; (first | with_reducible exact big_zero | with_reducible exact frac_zero)) | (apply K.box; rfl; rfl; rfl)); clear K r; (first | ((fail_if_success revert b0); intro W b0 K) | ((fail_if_success revert b1); intro W b1 K) | ((fail_if_success revert b2); intro W b2 K) | ((fail_if_success revert b3); intro W b3 K) | ((fail_if_success revert b4); intro W b4 K) | ((fail_if_success revert b5); intro W b5 K) | ((fail_if_success revert b6); intro W b6 K) | ((fail_if_success revert b7); intro W b7 K)); have r := K.rawS) | (apply K.storeA; rfl; rfl; rfl; rfl; rfl; (repeat (first | with_reducible exact Upd.head _ | with_reducible apply Upd.tail)); (first | with_reducible exact big_size | with_reducible exact frac_size); rfl; rfl; rfl; clear K r; intro W K; have r := K.rawS))
    refine (HR1.out _ (by first | exact Rd.nil | exact K.rda) (by first | exact Rd.nil | exact K.rda)).mono ?_
    rintro e W' ⟨rfl, hb⟩
    replace K := K.keep hb
    clear r
    have r := K.rawS
    clear hb
    go_wp2_with (first | ((first | (apply K.alloc; rfl; rfl; (first | with_reducible exact big_zero | with_reducible exact frac_zero)) | (apply K.box; rfl; rfl; rfl)); clear K r; (first | ((fail_if_success revert b0); intro W b0 K) | ((fail_if_success revert b1); intro W b1 K) | ((fail_if_success revert b2); intro W b2 K) | ((fail_if_success revert b3); intro W b3 K) | ((fail_if_success revert b4); intro W b4 K) | ((fail_if_success revert b5); intro W b5 K) | ((fail_if_success revert b6); intro W b6 K) | ((fail_if_success revert b7); intro W b7 K)); have r := K.rawS) | (apply K.storeA; rfl; rfl; rfl; rfl; rfl; (repeat (first | with_reducible exact Upd.head _ | with_reducible apply Upd.tail)); (first | with_reducible exact big_size | with_reducible exact frac_size); rfl; rfl; rfl; clear K r; intro W K; have r := K.rawS))
    exact bodyPost_ret (v := .agg #[.int .i64 0, .slice none 0 0]) (by simp [results, Tryz.results61, go_sem, r]) rfl ⟨0, none, 0, 0, [], rfl, Rd.nil, Std.zero, FrA.none, K.1⟩
  rw [h1] at HR1
  obtain ⟨⟨S1, T1⟩, F1⟩ := rightF_std h1
  have a1 := fitsF_num F1
  have a2 := fitsF_den F1
  have e0 : floorZ true (ratF s1 l1 t1 k1) = fq (ratF s1 l1 t1 k1).num (ratF s1 l1 t1 k1).den := rfl
  rw [e0]
  generalize ratF s1 l1 t1 k1 = x at *
  have hd : (x.den : Int) ≠ 0 := by have := x.den_nz; omega
  have HD := Lib.hid (fun W hl hm => nDiv x.num x.den s1 A1 n1 c1 l1 t1 B1 m1 d1 k1 W hl hm S1 T1 a1 a2 hd)
  generalize fq x.num x.den = Z at *
  clear h1 e0 S1 T1 F1 a1 a2 hd r1 q1
  go_enter Tryz.func61, Tryz.ntmps61
  go_wp2_with (first | ((first | (apply K.alloc; rfl; rfl; (first | with_reducible exact big_zero | with_reducible exact frac_zero)) | (apply K.box; rfl; rfl; rfl)); clear K r; (first | ((fail_if_success revert b0); intro W b0 K) | ((fail_if_success revert b1); intro W b1 K) | ((fail_if_success revert b2); intro W b2 K) | ((fail_if_success revert b3); intro W b3 K) | ((fail_if_success revert b4); intro W b4 K) | ((fail_if_success revert b5); intro W b5 K) | ((fail_if_success revert b6); intro W b6 K) | ((fail_if_success revert b7); intro W b7 K)); have r := K.rawS) | (apply K.storeA; rfl; rfl; rfl; rfl; rfl; (repeat (first | with_reducible exact Upd.head _ | with_reducible apply Upd.tail)); (first | with_reducible exact big_size | with_reducible exact frac_size); rfl; rfl; rfl; clear K r; intro W K; have r := K.rawS))
  refine (HR1.out _ (by first | exact Rd.nil | exact K.rda) (by first | exact Rd.nil | exact K.rda)).mono ?_
  rintro e W' ⟨rfl, hb⟩
  replace K := K.keep hb
  clear r
  have r := K.rawS
  clear hb
  go_wp2_with (first | ((first | (apply K.alloc; rfl; rfl; (first | with_reducible exact big_zero | with_reducible exact frac_zero)) | (apply K.box; rfl; rfl; rfl)); clear K r; (first | ((fail_if_success revert b0); intro W b0 K) | ((fail_if_success revert b1); intro W b1 K) | ((fail_if_success revert b2); intro W b2 K) | ((fail_if_success revert b3); intro W b3 K) | ((fail_if_success revert b4); intro W b4 K) | ((fail_if_success revert b5); intro W b5 K) | ((fail_if_success revert b6); intro W b6 K) | ((fail_if_success revert b7); intro W b7 K)); have r := K.rawS) | (apply K.storeA; rfl; rfl; rfl; rfl; rfl; (repeat (first | with_reducible exact Upd.head _ | with_reducible apply Upd.tail)); (first | with_reducible exact big_size | with_reducible exact frac_size); rfl; rfl; rfl; clear K r; intro W K; have r := K.rawS))
  refine (HD.out _ (by first | exact Rd.nil | exact K.rda) (by first | exact Rd.nil | exact K.rda)).mono ?_
  rintro e W' ⟨s3, A3, n3, c3, l3, s4, A4, n4, c4, l4, rfl, ⟨hra, hs3, hfa⟩, ⟨hrb, hs4, hfb⟩, hb⟩
  have hf3 := Lib.hid (hfa.mono K.1.size)
  have hf4 := Lib.hid (hfb.mono K.1.size)
  replace K := K.ret2 hb hra hrb hfa hfb
  clear r
  have r := K.rawS
  clear hra hrb hfa hfb hb
  go_wp2_with (first | ((first | (apply K.alloc; rfl; rfl; (first | with_reducible exact big_zero | with_reducible exact frac_zero)) | (apply K.box; rfl; rfl; rfl)); clear K r; (first | ((fail_if_success revert b0); intro W b0 K) | ((fail_if_success revert b1); intro W b1 K) | ((fail_if_success revert b2); intro W b2 K) | ((fail_if_success revert b3); intro W b3 K) | ((fail_if_success revert b4); intro W b4 K) | ((fail_if_success revert b5); intro W b5 K) | ((fail_if_success revert b6); intro W b6 K) | ((fail_if_success revert b7); intro W b7 K)); have r := K.rawS) | (apply K.storeA; rfl; rfl; rfl; rfl; rfl; (repeat (first | with_reducible exact Upd.head _ | with_reducible apply Upd.tail)); (first | with_reducible exact big_size | with_reducible exact frac_size); rfl; rfl; rfl; clear K r; intro W K; have r := K.rawS))
  have HE := Lib.hid (⟨s3, A3, n3, c3, l3, rfl, (by first | exact Rd.nil | exact K.rda), hs3, hf3.out, K.1⟩ : BigR w Z (.returned (.agg #[.int .i64 s3, .slice A3 n3 c3])) W)
  clear hs3 hs4
  exact bodyPost_ret (v := .agg #[.int .i64 s3, .slice A3 n3 c3]) (by simp [results, Tryz.results61, go_sem, r]) rfl HE.out
/-- the text of a fraction -/
def textQ (q : Rat) : List UInt8 := Lib.itoa q.num ++ 47 :: Lib.itoa q.den
def textF (ok : Bool) (q : Rat) : ByteArray := if ok = true then ⟨(textQ q).toArray⟩ else ⟨#[]⟩
theorem itoa_len {z : Int} (h : fits z = true) : (Lib.itoa z).length ≤ 363 := by
  have hd := dec_fits h
  unfold Lib.itoa
  split
  · rw [List.length_cons]; omega
  · rw [show z.toNat = z.natAbs by omega]; omega
theorem textQ_join (q : Rat) : ((⟨(Lib.itoa q.num).toArray⟩ : ByteArray) ++ (⟨#[47]⟩ : ByteArray)) ++ (⟨(Lib.itoa q.den).toArray⟩ : ByteArray) = ⟨(textQ q).toArray⟩ := by
  apply ByteArray.ext
  rw [ByteArray.data_append, ByteArray.data_append]
  unfold textQ
  simp
set_option maxRecDepth 100000 in
set_option maxHeartbeats 2000000 in
theorem fText_any (s1 t1 : Int) (A1 B1 : Option Addr) (n1 c1 m1 d1 : Nat) (l1 k1 : List Int) (w : World) (r1 : RdI w w.heap.size A1 n1 c1 l1) (q1 : RdI w w.heap.size B1 m1 d1 k1) (ht : Tab w) : Calls Tryz.prog 58 #[.agg #[.int .i64 s1, .slice A1 n1 c1, .int .i64 t1, .slice B1 m1 d1]] w fun e w' => e = .returned (.string (textF (rightF s1 l1 t1 k1) (ratF s1 l1 t1 k1))) ∧ Below w.heap.size w w' := by
  have K := ((St.start w).oldRd r1).oldRd q1
  have r := K.raw
  have HT := Lib.hid ht
  have HR1 := Lib.hid (fun W h g => fRight_any s1 t1 A1 B1 n1 c1 m1 d1 l1 k1 W h g)
  cases h1 : rightF s1 l1 t1 k1
  · rw [h1] at HR1
    have e0 : textF false (ratF s1 l1 t1 k1) = ⟨#[]⟩ := rfl
    rw [e0]
    clear h1 e0
    go_enter Tryz.func58, Tryz.ntmps58
    go_wp2_with (first | ((first | (apply K.alloc; rfl; rfl; (first | with_reducible exact big_zero | with_reducible exact frac_zero)) | (apply K.box; rfl; rfl; rfl)); clear K r; (first | ((fail_if_success revert b0); intro W b0 K) | ((fail_if_success revert b1); intro W b1 K) | ((fail_if_success revert b2); intro W b2 K) | ((fail_if_success revert b3); intro W b3 K) | ((fail_if_success revert b4); intro W b4 K) | ((fail_if_success revert b5); intro W b5 K) | ((fail_if_success revert b6); intro W b6 K) | ((fail_if_success revert b7); intro W b7 K)); have r := K.rawS) | (apply K.storeA; rfl; rfl; rfl; rfl; rfl; (repeat (first | with_reducible exact Upd.head _ | with_reducible apply Upd.tail)); (first | with_reducible exact big_size | with_reducible exact frac_size); rfl; rfl; rfl; clear K r; intro W K; have r := K.rawS))
    refine (HR1.out _ (by first | exact Rd.nil | exact K.rda) (by first | exact Rd.nil | exact K.rda)).mono ?_
    rintro e W' ⟨rfl, hb⟩
    replace K := K.keep hb
    clear r
    have r := K.rawS
    clear hb
    go_wp2
    go_ret
    exact ⟨rfl, K.1⟩
  rw [h1] at HR1
  obtain ⟨⟨S1, T1⟩, F1⟩ := rightF_std h1
  have a1 := fitsF_num F1
  have a2 := fitsF_den F1
  have e0 : textF true (ratF s1 l1 t1 k1) = ⟨(textQ (ratF s1 l1 t1 k1)).toArray⟩ := rfl
  rw [e0]
  generalize ratF s1 l1 t1 k1 = x at *
  have hj := textQ_join x
  have z1 := itoa_len a1
  have z2 := itoa_len a2
  have y1 : (⟨(Lib.itoa x.num).toArray⟩ : ByteArray).size = (Lib.itoa x.num).length := by rw [Lib.size_eq]
  have y2 : (⟨(Lib.itoa x.den).toArray⟩ : ByteArray).size = (Lib.itoa x.den).length := by rw [Lib.size_eq]
  clear ht r1 q1 h1 e0
  go_enter Tryz.func58, Tryz.ntmps58
  go_wp2_with (first | ((first | (apply K.alloc; rfl; rfl; (first | with_reducible exact big_zero | with_reducible exact frac_zero)) | (apply K.box; rfl; rfl; rfl)); clear K r; (first | ((fail_if_success revert b0); intro W b0 K) | ((fail_if_success revert b1); intro W b1 K) | ((fail_if_success revert b2); intro W b2 K) | ((fail_if_success revert b3); intro W b3 K) | ((fail_if_success revert b4); intro W b4 K) | ((fail_if_success revert b5); intro W b5 K) | ((fail_if_success revert b6); intro W b6 K) | ((fail_if_success revert b7); intro W b7 K)); have r := K.rawS) | (apply K.storeA; rfl; rfl; rfl; rfl; rfl; (repeat (first | with_reducible exact Upd.head _ | with_reducible apply Upd.tail)); (first | with_reducible exact big_size | with_reducible exact frac_size); rfl; rfl; rfl; clear K r; intro W K; have r := K.rawS))
  refine (HR1.out _ (by first | exact Rd.nil | exact K.rda) (by first | exact Rd.nil | exact K.rda)).mono ?_
  rintro e W' ⟨rfl, hb⟩
  replace K := K.keep hb
  clear r
  have r := K.rawS
  clear hb
  go_wp2_with (first | ((first | (apply K.alloc; rfl; rfl; (first | with_reducible exact big_zero | with_reducible exact frac_zero)) | (apply K.box; rfl; rfl; rfl)); clear K r; (first | ((fail_if_success revert b0); intro W b0 K) | ((fail_if_success revert b1); intro W b1 K) | ((fail_if_success revert b2); intro W b2 K) | ((fail_if_success revert b3); intro W b3 K) | ((fail_if_success revert b4); intro W b4 K) | ((fail_if_success revert b5); intro W b5 K) | ((fail_if_success revert b6); intro W b6 K) | ((fail_if_success revert b7); intro W b7 K)); have r := K.rawS) | (apply K.storeA; rfl; rfl; rfl; rfl; rfl; (repeat (first | with_reducible exact Upd.head _ | with_reducible apply Upd.tail)); (first | with_reducible exact big_size | with_reducible exact frac_size); rfl; rfl; rfl; clear K r; intro W K; have r := K.rawS))
  obtain ⟨KS, X0, XK, XF, XS⟩ := K.pack2 (fun W => ((W.cell? ⟨b0, 0, none⟩ = some (.int .i64 s1) ∧ W.cell? ⟨b0, 1, none⟩ = some (.slice A1 n1 c1) ∧ W.cell? ⟨b0, 2, none⟩ = some (.int .i64 t1) ∧ W.cell? ⟨b0, 3, none⟩ = some (.slice B1 m1 d1)))) (fun W K => by
    have r := K.raw
    simp only [Raw, RawC, and_true, true_and, Nat.zero_add, Nat.reduceAdd] at r
    simp only [r, and_self])
  obtain ⟨ι, f, hne, hfw, hfk, hfc⟩ := cls_st KS _ X0 (fun W h => XK W W.drew h (Below.refl _ _).drew)
  have QA := Lib.hid (fun q => (nTextV x.num _ _ _ _ _ (f q) ((XS _ (hfk q)).rd (by repeat (first | with_reducible exact List.mem_cons_self | with_reducible apply List.mem_cons_of_mem))) S1 a1 (HT.out.on (XS _ (hfk q)).1)).mono fun e w'' ⟨he, hb⟩ => (⟨he, hfc _ (XK _ _ (hfk q) hb)⟩ : e = Ending.returned (.string ⟨(Lib.itoa x.num).toArray⟩) ∧ ∃ s, w'' = f s))
  have QB := Lib.hid (fun q => (nTextV x.den _ _ _ _ _ (f q) ((XS _ (hfk q)).rd (by repeat (first | with_reducible exact List.mem_cons_self | with_reducible apply List.mem_cons_of_mem))) T1 a2 (HT.out.on (XS _ (hfk q)).1)).mono fun e w'' ⟨he, hb⟩ => (⟨he, hfc _ (XK _ _ (hfk q) hb)⟩ : e = Ending.returned (.string ⟨(Lib.itoa x.den).toArray⟩) ∧ ∃ s, w'' = f s))
  have u1 : (⟨(Lib.itoa x.num).toArray⟩ : ByteArray).size ≤ 363 := by omega
  have u2 : (⟨(Lib.itoa x.den).toArray⟩ : ByteArray).size ≤ 363 := by omega
  have u3 : ((⟨(Lib.itoa x.num).toArray⟩ : ByteArray) ++ (⟨#[47]⟩ : ByteArray)).size = (⟨(Lib.itoa x.num).toArray⟩ : ByteArray).size + 1 := by
    rw [ByteArray.size_append]; rfl
  clear z1 z2 y1 y2
  generalize (⟨(Lib.itoa x.num).toArray⟩ : ByteArray) = TA at *
  generalize (⟨(Lib.itoa x.den).toArray⟩ : ByteArray) = TB at *
  have v1 : ¬ (9223372036854775807 < TA.size + 1) := by omega
  have v2 : ¬ (9223372036854775807 < (TA ++ (⟨#[47]⟩ : ByteArray)).size + TB.size) := by omega
  have v3 : ¬ (9223372036854775807 < TA.size + 1 + TB.size) := by omega
  have HJ := Lib.hid hj
  have c0 := fun n => (XF _ (hfk n)).1
  have c1' := fun n => (XF _ (hfk n)).2.1
  have c2' := fun n => (XF _ (hfk n)).2.2.1
  have c3 := fun n => (XF _ (hfk n)).2.2.2
  have XSt := Lib.hid (fun n => XS _ (hfk n))
  have Hfw := Lib.hid hfw
  clear XF XK XS K r hfk hfc hfw X0 hj u1 u2 u3 S1 T1 F1 a1 a2
  refine wp_region_cls (C := fun w' => ∃ n, w' = f n) (by kernel_rfl) (by kernel_rfl) Hfw.out ?_
  repeat (first
    | go_big_quiet_skip
    | (go_big_quiet_want; go_big_quiet_op; first | go_big_quiet_on | go_big_quiet_call ((go_at_call 31; first | with_reducible exact QA.out _ | with_reducible exact QB.out _))))
  refine wpQuiet_nil ?_
  rintro _ ⟨nq, rfl⟩
  have K := XSt.out nq
  clear QA QB v1 v2 v3 c0 c1' c2' c3
  go_wp2
  go_ret
  exact ⟨by rw [← HJ.out]; rfl, K.1⟩
end Go.Proofs.YtkeajohkpmabcaaGreatDoor
/- Plain law: the text of a fraction, cut at the slash. No condition. -/
namespace Go.Proofs.YtkeajohkpmabcaaGreatDoor
open Go.RowKit
set_option linter.unusedVariables false
set_option linter.unusedSimpArgs false

theorem itoa_noslash (z : Int) : ∀ b ∈ Lib.itoa z, b ≠ 47 := by
  have hd : ∀ v : Nat, ∀ b ∈ Lib.decDigits v, b ≠ 47 := fun v b hb h => by
    have h1 := List.all_eq_true.1 (dec_num v).2 b hb
    subst h
    exact absurd h1 (by decide)
  intro b hb
  unfold Lib.itoa at hb
  split at hb
  · rcases List.mem_cons.1 hb with rfl | hb
    · decide
    · exact hd _ b hb
  · exact hd _ b hb
theorem index_slash : ∀ (A B : List UInt8), (∀ b ∈ A, b ≠ 47) → Lib.index (A ++ 47 :: B) [47] = (A.length : Int)
  | [], B, _ => by
    rw [List.nil_append, Lib.index]
    simp [List.isPrefixOf]
  | b :: A, B, h => by
    have h1 := index_slash A B (fun c hc => h c (List.mem_cons_of_mem _ hc))
    have h2 : b ≠ 47 := h b List.mem_cons_self
    have h3 : List.isPrefixOf [47] (b :: (A ++ 47 :: B)) = false := by
      simp only [List.isPrefixOf, Bool.and_true]
      exact beq_eq_false_iff_ne.2 (Ne.symm h2)
    rw [List.cons_append, Lib.index, h3, h1, if_neg (by simp), if_neg (by simp), List.length_cons]
    omega
theorem cut_text (q : Rat) : Lib.cut (textQ q) [47] = (Lib.itoa q.num, Lib.itoa q.den, true) := by
  have h := index_slash (Lib.itoa q.num) (Lib.itoa q.den) (itoa_noslash _)
  unfold Lib.cut textQ
  rw [h, if_pos (by omega)]
  simp
theorem textQ_inj {p q : Rat} (h : textQ p = textQ q) : p = q := by
  have h1 := cut_text p
  rw [h, cut_text q] at h1
  injection h1 with e1 e2
  injection e2 with e2 e3
  have a1 := itoa_inj e1
  have a2 := itoa_inj e2
  exact Rat.ext a1.symm (by omega)
/-- what reading leaves: a fraction with this text, if there is one -/
def ReadO (L : List UInt8) (o : Option Rat) : Prop := (∀ q, o = some q → fitsF q = true ∧ textQ q = L) ∧ (o = none → ∀ q, fitsF q = true → textQ q ≠ L)
def readC (o : Option Rat) : Int := if o.isSome = true then 0 else 2
theorem ReadO.unique {L : List UInt8} {o o' : Option Rat} (h : ReadO L o) (h' : ReadO L o') : o = o' := by
  cases o with
  | none =>
    cases o' with
    | none => rfl
    | some q => exact absurd (h'.1 q rfl).2 (h.2 rfl q (h'.1 q rfl).1)
  | some p =>
    cases o' with
    | none => exact absurd (h.1 p rfl).2 (h'.2 rfl p (h.1 p rfl).1)
    | some q => rw [textQ_inj ((h.1 p rfl).2.trans (h'.1 q rfl).2.symm)]
theorem ReadO.of_text {q : Rat} (h : fitsF q = true) : ReadO (textQ q) (some q) := ⟨fun p hp => by injection hp with hp; subst hp; exact ⟨h, rfl⟩, fun h => by cases h⟩
/-- there is none, where a part is no number -/
theorem ReadO.no {L : List UInt8} (h : ∀ q, fitsF q = true → textQ q = L → False) : ReadO L none := ⟨fun q h => by (cases h), fun _ q h1 h2 => h q h1 h2⟩
theorem text_parts {L : List UInt8} {q : Rat} (hf : fitsF q = true) (h : textQ q = L) : (readE (Lib.cut L [47]).1 = 0 ∧ readZ (Lib.cut L [47]).1 = q.num) ∧ (readE (Lib.cut L [47]).2.1 = 0 ∧ readZ (Lib.cut L [47]).2.1 = q.den) := by
  rw [← h, cut_text]
  have h1 := read_text (fitsF_num hf)
  have h2 := read_text (fitsF_den hf)
  exact ⟨⟨h1.2, h1.1⟩, h2.2, h2.1⟩
theorem cut_len (L : List UInt8) : (Lib.cut L [47]).1.length ≤ L.length ∧ (Lib.cut L [47]).2.1.length ≤ L.length := by
  unfold Lib.cut
  split
  · exact ⟨by simp only [List.length_take]; omega, by simp only [List.length_drop]; omega⟩
  · exact ⟨Nat.le_refl _, Nat.zero_le _⟩
end Go.Proofs.YtkeajohkpmabcaaGreatDoor

/- Walk over Read of package frac. Conditions stand in the theorem. -/
namespace Go.Proofs.YtkeajohkpmabcaaGreatDoor
open Go.RowKit
set_option linter.unusedVariables false
set_option linter.unusedSimpArgs false

/-- the two variables of the library that the texts of fractions lean on -/
def TabM (w : World) : Prop := Tab w ∧ ∃ m, ∀ W, Below w.heap.size w W → W.cell? ⟨0, 0, none⟩ = some (.int .i64 m)
theorem TabM.on {w W : World} (h : TabM w) (hb : Below w.heap.size w W) : TabM W := by
  obtain ⟨h1, m, h2⟩ := h
  exact ⟨h1.on hb, m, fun W' hb' => h2 W' (hb.trans (hb'.mono hb.size))⟩
theorem cutF (s : ByteArray) (w : World) (hs : s.size ≤ 1000) (ht : TabM w) : Calls Tryz.prog 97 #[.string s, .string ⟨#[47]⟩] w fun e w' => ∃ (X Y : ByteArray) (b : Bool), e = .returned (.tuple #[.string X, .string Y, .bool b]) ∧ X.data.toList = (Lib.cut s.data.toList [47]).1 ∧ Y.data.toList = (Lib.cut s.data.toList [47]).2.1 ∧ Below w.heap.size w w' := by
  obtain ⟨-, m, h⟩ := ht
  refine (Tryz.strings_Cut s ⟨#[47]⟩ m w (by omega) (h w (Below.refl _ _))).mono fun e w' ⟨he, n, hw⟩ => ?_
  subst hw
  exact ⟨_, _, _, he, rfl, rfl, below_drewN (Below.refl _ _) n⟩
def ReadF (w : World) (L : List UInt8) (e : Ending) (w' : World) : Prop := ∃ o, ReadO L o ∧ FrE w o (readC o) e w'
set_option maxRecDepth 100000 in
set_option maxHeartbeats 4000000 in
theorem fRead_any (s : ByteArray) (w : World) (hs : s.size ≤ 1000) (ht : TabM w) : Calls Tryz.prog 50 #[.string s] w (ReadF w s.data.toList) := by
  have K := St.start w
  have r := K.raw
  have HT := Lib.hid ht
  have HL := Lib.hid (cut_len s.data.toList)
  have hsl : s.data.toList.length ≤ 1000 := by rw [← Lib.size_eq]; exact hs
  have HC := Lib.hid (fun W => cutF s W hs)
  have HC := Lib.hid (fun W (h : Below w.heap.size w W) => cutF s W hs (ht.on h))
  have HPn := Lib.hid (fun q (h1 : fitsF q = true) (h2 : textQ q = s.data.toList) => text_parts h1 h2)
  have f1 := read_fits (Lib.cut s.data.toList [47]).1
  have f2 := read_fits (Lib.cut s.data.toList [47]).2.1
  obtain ⟨E1, hE1⟩ : ∃ E, readE (Lib.cut s.data.toList [47]).1 = E := ⟨_, rfl⟩
  obtain ⟨E2, hE2⟩ : ∃ E, readE (Lib.cut s.data.toList [47]).2.1 = E := ⟨_, rfl⟩
  obtain ⟨Z1, hZ1⟩ : ∃ E, readZ (Lib.cut s.data.toList [47]).1 = E := ⟨_, rfl⟩
  obtain ⟨Z2, hZ2⟩ : ∃ E, readZ (Lib.cut s.data.toList [47]).2.1 = E := ⟨_, rfl⟩
  have HB := Lib.hid (fun (X : ByteArray) (hX : X.data.toList = (Lib.cut s.data.toList [47]).1) => (show ∀ W, Calls Tryz.prog 22 #[.string X] W (BigE W Z1 E1) from fun W => by
    have := bread_any X W (by rw [Lib.size_eq, hX]; exact Nat.le_trans HL.out.1 hsl)
    rw [hX, hZ1, hE1] at this; exact this))
  have HB2 := Lib.hid (fun (X : ByteArray) (hX : X.data.toList = (Lib.cut s.data.toList [47]).2.1) => (show ∀ W, Calls Tryz.prog 22 #[.string X] W (BigE W Z2 E2) from fun W => by
    have := bread_any X W (by rw [Lib.size_eq, hX]; exact Nat.le_trans HL.out.2 hsl)
    rw [hX, hZ2, hE2] at this; exact this))
  rw [hE1, hE2, hZ1, hZ2] at HPn
  rw [hZ1] at f1
  rw [hZ2] at f2
  clear hE1 hE2 hZ1 hZ2 HL hsl ht
  go_enter Tryz.func50, Tryz.ntmps50
  go_wp2_with (first | ((first | (apply K.alloc; rfl; rfl; (first | with_reducible exact big_zero | with_reducible exact frac_zero)) | (apply K.box; rfl; rfl; rfl)); clear K r; (first | ((fail_if_success revert b0); intro W b0 K) | ((fail_if_success revert b1); intro W b1 K) | ((fail_if_success revert b2); intro W b2 K) | ((fail_if_success revert b3); intro W b3 K) | ((fail_if_success revert b4); intro W b4 K) | ((fail_if_success revert b5); intro W b5 K) | ((fail_if_success revert b6); intro W b6 K) | ((fail_if_success revert b7); intro W b7 K)); have r := K.rawS) | (apply K.storeA; rfl; rfl; rfl; rfl; rfl; (repeat (first | with_reducible exact Upd.head _ | with_reducible apply Upd.tail)); (first | with_reducible exact big_size | with_reducible exact frac_size); rfl; rfl; rfl; clear K r; intro W K; have r := K.rawS))
  refine (HC.out _ K.1).mono ?_
  rintro e w1 ⟨X, Y, b, rfl, hX, hY, hb⟩
  replace K := K.keep hb
  clear r
  have r := K.rawS
  clear hb
  have HP := Lib.hid (HB.out X hX)
  have HQ := Lib.hid (HB2.out Y hY)
  clear hX hY HB HB2 HC
  go_wp2_with (first | ((first | (apply K.alloc; rfl; rfl; (first | with_reducible exact big_zero | with_reducible exact frac_zero)) | (apply K.box; rfl; rfl; rfl)); clear K r; (first | ((fail_if_success revert b0); intro W b0 K) | ((fail_if_success revert b1); intro W b1 K) | ((fail_if_success revert b2); intro W b2 K) | ((fail_if_success revert b3); intro W b3 K) | ((fail_if_success revert b4); intro W b4 K) | ((fail_if_success revert b5); intro W b5 K) | ((fail_if_success revert b6); intro W b6 K) | ((fail_if_success revert b7); intro W b7 K)); have r := K.rawS) | (apply K.storeA; rfl; rfl; rfl; rfl; rfl; (repeat (first | with_reducible exact Upd.head _ | with_reducible apply Upd.tail)); (first | with_reducible exact big_size | with_reducible exact frac_size); rfl; rfl; rfl; clear K r; intro W K; have r := K.rawS))
  refine (HP.out _).mono ?_
  rintro e W' ⟨s3, A3, n3, c3, l3, rfl, hr, hs3, hf, hb⟩
  have hf3 := Lib.hid (hf.mono K.1.size)
  replace K := K.ret hb hr hf
  clear r
  have r := K.rawS
  clear hr hf hb
  go_wp2_with (first | ((first | (apply K.alloc; rfl; rfl; (first | with_reducible exact big_zero | with_reducible exact frac_zero)) | (apply K.box; rfl; rfl; rfl)); clear K r; (first | ((fail_if_success revert b0); intro W b0 K) | ((fail_if_success revert b1); intro W b1 K) | ((fail_if_success revert b2); intro W b2 K) | ((fail_if_success revert b3); intro W b3 K) | ((fail_if_success revert b4); intro W b4 K) | ((fail_if_success revert b5); intro W b5 K) | ((fail_if_success revert b6); intro W b6 K) | ((fail_if_success revert b7); intro W b7 K)); have r := K.rawS) | (apply K.storeA; rfl; rfl; rfl; rfl; rfl; (repeat (first | with_reducible exact Upd.head _ | with_reducible apply Upd.tail)); (first | with_reducible exact big_size | with_reducible exact frac_size); rfl; rfl; rfl; clear K r; intro W K; have r := K.rawS))
  refine (HQ.out _).mono ?_
  rintro e W' ⟨s4, A4, n4, c4, l4, rfl, hr, hs4, hf, hb⟩
  have hf4 := Lib.hid (hf.mono K.1.size)
  replace K := K.ret hb hr hf
  clear r
  have r := K.rawS
  clear hr hf hb
  clear HP HQ
  by_cases e1 : E1 = 0
  case neg =>
    have h1 : (E1 == 0) = false := beq_eq_false_iff_ne.2 e1
    have HN := Lib.hid (ReadO.no (L := s.data.toList) fun q a b => e1 (HPn.out q a b).1.1)
    clear e1 HPn f1 f2 hs3 hs4
    go_wp2_with (first | ((first | (apply K.alloc; rfl; rfl; (first | with_reducible exact big_zero | with_reducible exact frac_zero)) | (apply K.box; rfl; rfl; rfl)); clear K r; (first | ((fail_if_success revert b0); intro W b0 K) | ((fail_if_success revert b1); intro W b1 K) | ((fail_if_success revert b2); intro W b2 K) | ((fail_if_success revert b3); intro W b3 K) | ((fail_if_success revert b4); intro W b4 K) | ((fail_if_success revert b5); intro W b5 K) | ((fail_if_success revert b6); intro W b6 K) | ((fail_if_success revert b7); intro W b7 K)); have r := K.rawS) | (apply K.storeA; rfl; rfl; rfl; rfl; rfl; (repeat (first | with_reducible exact Upd.head _ | with_reducible apply Upd.tail)); (first | with_reducible exact big_size | with_reducible exact frac_size); rfl; rfl; rfl; clear K r; intro W K; have r := K.rawS))
    exact bodyPost_ret (v := .tuple #[.agg #[.int .i64 0, .slice none 0 0, .int .i64 0, .slice none 0 0], .int .i64 2]) (by simp [results, Tryz.results50, go_sem, r]) rfl ⟨none, HN.out, 0, none, 0, 0, [], 0, none, 0, 0, [], rfl, ⟨Rd.nil, Rd.nil⟩, ⟨rfl, rfl, rfl, rfl⟩, ⟨FrA.none, FrA.none⟩, K.1⟩
  subst e1
  by_cases e2 : E2 = 0
  case neg =>
    have h1 : (E2 == 0) = false := beq_eq_false_iff_ne.2 e2
    have HN := Lib.hid (ReadO.no (L := s.data.toList) fun q a b => e2 (HPn.out q a b).2.1)
    clear e2 HPn f1 f2 hs3 hs4
    go_wp2_with (first | ((first | (apply K.alloc; rfl; rfl; (first | with_reducible exact big_zero | with_reducible exact frac_zero)) | (apply K.box; rfl; rfl; rfl)); clear K r; (first | ((fail_if_success revert b0); intro W b0 K) | ((fail_if_success revert b1); intro W b1 K) | ((fail_if_success revert b2); intro W b2 K) | ((fail_if_success revert b3); intro W b3 K) | ((fail_if_success revert b4); intro W b4 K) | ((fail_if_success revert b5); intro W b5 K) | ((fail_if_success revert b6); intro W b6 K) | ((fail_if_success revert b7); intro W b7 K)); have r := K.rawS) | (apply K.storeA; rfl; rfl; rfl; rfl; rfl; (repeat (first | with_reducible exact Upd.head _ | with_reducible apply Upd.tail)); (first | with_reducible exact big_size | with_reducible exact frac_size); rfl; rfl; rfl; clear K r; intro W K; have r := K.rawS))
    exact bodyPost_ret (v := .tuple #[.agg #[.int .i64 0, .slice none 0 0, .int .i64 0, .slice none 0 0], .int .i64 2]) (by simp [results, Tryz.results50, go_sem, r]) rfl ⟨none, HN.out, 0, none, 0, 0, [], 0, none, 0, 0, [], rfl, ⟨Rd.nil, Rd.nil⟩, ⟨rfl, rfl, rfl, rfl⟩, ⟨FrA.none, FrA.none⟩, K.1⟩
  subst e2
  go_wp2_with (first | ((first | (apply K.alloc; rfl; rfl; (first | with_reducible exact big_zero | with_reducible exact frac_zero)) | (apply K.box; rfl; rfl; rfl)); clear K r; (first | ((fail_if_success revert b0); intro W b0 K) | ((fail_if_success revert b1); intro W b1 K) | ((fail_if_success revert b2); intro W b2 K) | ((fail_if_success revert b3); intro W b3 K) | ((fail_if_success revert b4); intro W b4 K) | ((fail_if_success revert b5); intro W b5 K) | ((fail_if_success revert b6); intro W b6 K) | ((fail_if_success revert b7); intro W b7 K)); have r := K.rawS) | (apply K.storeA; rfl; rfl; rfl; rfl; rfl; (repeat (first | with_reducible exact Upd.head _ | with_reducible apply Upd.tail)); (first | with_reducible exact big_size | with_reducible exact frac_size); rfl; rfl; rfl; clear K r; intro W K; have r := K.rawS))
  refine (fRight_any s3 s4 A3 A4 n3 c3 n4 c4 l3 l4 _ (by first | exact Rd.nil | exact K.rda) (by first | exact Rd.nil | exact K.rda)).mono ?_
  rintro e W' ⟨rfl, hb⟩
  replace K := K.keep hb
  clear r
  have r := K.rawS
  clear hb
  cases h1 : rightF s3 l3 s4 l4
  · have HN := Lib.hid (ReadO.no (L := s.data.toList) fun q a b => by
      obtain ⟨⟨-, p1⟩, -, p2⟩ := HPn.out q a b
      have : rightF s3 l3 s4 l4 = true := StdF.right (q := q) ⟨by rw [← p1]; exact hs3, by rw [← p2]; exact hs4⟩ a
      rw [h1] at this
      cases this)
    clear h1 HPn f1 f2 hs3 hs4
    go_wp2_with (first | ((first | (apply K.alloc; rfl; rfl; (first | with_reducible exact big_zero | with_reducible exact frac_zero)) | (apply K.box; rfl; rfl; rfl)); clear K r; (first | ((fail_if_success revert b0); intro W b0 K) | ((fail_if_success revert b1); intro W b1 K) | ((fail_if_success revert b2); intro W b2 K) | ((fail_if_success revert b3); intro W b3 K) | ((fail_if_success revert b4); intro W b4 K) | ((fail_if_success revert b5); intro W b5 K) | ((fail_if_success revert b6); intro W b6 K) | ((fail_if_success revert b7); intro W b7 K)); have r := K.rawS) | (apply K.storeA; rfl; rfl; rfl; rfl; rfl; (repeat (first | with_reducible exact Upd.head _ | with_reducible apply Upd.tail)); (first | with_reducible exact big_size | with_reducible exact frac_size); rfl; rfl; rfl; clear K r; intro W K; have r := K.rawS))
    exact bodyPost_ret (v := .tuple #[.agg #[.int .i64 0, .slice none 0 0, .int .i64 0, .slice none 0 0], .int .i64 2]) (by simp [results, Tryz.results50, go_sem, r]) rfl ⟨none, HN.out, 0, none, 0, 0, [], 0, none, 0, 0, [], rfl, ⟨Rd.nil, Rd.nil⟩, ⟨rfl, rfl, rfl, rfl⟩, ⟨FrA.none, FrA.none⟩, K.1⟩
  obtain ⟨S, F⟩ := rightF_std h1
  have HX := Lib.hid (fun W a b t => fText_any s3 s4 A3 A4 n3 c3 n4 c4 l3 l4 W a b t)
  have e0 : textF (rightF s3 l3 s4 l4) (ratF s3 l3 s4 l4) = ⟨(textQ (ratF s3 l3 s4 l4)).toArray⟩ := by unfold textF; rw [if_pos h1]
  rw [e0] at HX
  have HV := Lib.hid (show ∀ q, fitsF q = true → textQ q = s.data.toList → ratF s3 l3 s4 l4 = q from fun q a b => by
    obtain ⟨⟨-, p1⟩, -, p2⟩ := HPn.out q a b
    exact StdF.rat ⟨by rw [← p1]; exact hs3, by rw [← p2]; exact hs4⟩)
  obtain ⟨T, hT⟩ : ∃ T : ByteArray, T = ⟨(textQ (ratF s3 l3 s4 l4)).toArray⟩ := ⟨_, rfl⟩
  rw [← hT] at HX
  have hTl : T.data.toList = textQ (ratF s3 l3 s4 l4) := by rw [hT]
  generalize ratF s3 l3 s4 l4 = q0 at *
  clear h1 e0 hT HPn f1 f2 hs3 hs4
  go_wp2_with fail
  refine (HX.out _ (by first | exact Rd.nil | exact K.rda) (by first | exact Rd.nil | exact K.rda) (HT.out.1.on K.1)).mono ?_
  rintro e W' ⟨rfl, hb⟩
  replace K := K.keep hb
  clear r
  have r := K.rawS
  clear hb
  by_cases hq : textQ q0 = s.data.toList
  · have hTs : T = s := ByteArray.ext (Array.toList_inj.1 (hTl.trans hq))
    have HO := Lib.hid (show ReadO s.data.toList (some q0) from by rw [← hq]; exact ReadO.of_text F)
    subst hTs
    clear HX HV hTl hq
    go_wp2_with (first | ((first | (apply K.alloc; rfl; rfl; (first | with_reducible exact big_zero | with_reducible exact frac_zero)) | (apply K.box; rfl; rfl; rfl)); clear K r; (first | ((fail_if_success revert b0); intro W b0 K) | ((fail_if_success revert b1); intro W b1 K) | ((fail_if_success revert b2); intro W b2 K) | ((fail_if_success revert b3); intro W b3 K) | ((fail_if_success revert b4); intro W b4 K) | ((fail_if_success revert b5); intro W b5 K) | ((fail_if_success revert b6); intro W b6 K) | ((fail_if_success revert b7); intro W b7 K)); have r := K.rawS) | (apply K.storeA; rfl; rfl; rfl; rfl; rfl; (repeat (first | with_reducible exact Upd.head _ | with_reducible apply Upd.tail)); (first | with_reducible exact big_size | with_reducible exact frac_size); rfl; rfl; rfl; clear K r; intro W K; have r := K.rawS))
    have HE := Lib.hid (⟨some q0, HO.out, s3, A3, n3, c3, l3, s4, A4, n4, c4, l4, rfl, ⟨(by first | exact Rd.nil | exact K.rda), (by first | exact Rd.nil | exact K.rda)⟩, S, ⟨hf3.out, hf4.out⟩, K.1⟩ : ReadF w T.data.toList (.returned (.tuple #[.agg #[.int .i64 s3, .slice A3 n3 c3, .int .i64 s4, .slice A4 n4 c4], .int .i64 0])) W)
    exact bodyPost_ret (v := .tuple #[.agg #[.int .i64 s3, .slice A3 n3 c3, .int .i64 s4, .slice A4 n4 c4], .int .i64 0]) (by simp [results, Tryz.results50, go_sem, r]) rfl HE.out
  · have hTs : (T.toList == s.toList) = false := by
      rw [Lib.toList_data, Lib.toList_data, hTl]
      exact beq_eq_false_iff_ne.2 hq
    have HN := Lib.hid (ReadO.no (L := s.data.toList) fun q a b => hq (by rw [HV.out q a b]; exact b))
    clear HX HV hTl hq S F
    go_wp2_with (first | ((first | (apply K.alloc; rfl; rfl; (first | with_reducible exact big_zero | with_reducible exact frac_zero)) | (apply K.box; rfl; rfl; rfl)); clear K r; (first | ((fail_if_success revert b0); intro W b0 K) | ((fail_if_success revert b1); intro W b1 K) | ((fail_if_success revert b2); intro W b2 K) | ((fail_if_success revert b3); intro W b3 K) | ((fail_if_success revert b4); intro W b4 K) | ((fail_if_success revert b5); intro W b5 K) | ((fail_if_success revert b6); intro W b6 K) | ((fail_if_success revert b7); intro W b7 K)); have r := K.rawS) | (apply K.storeA; rfl; rfl; rfl; rfl; rfl; (repeat (first | with_reducible exact Upd.head _ | with_reducible apply Upd.tail)); (first | with_reducible exact big_size | with_reducible exact frac_size); rfl; rfl; rfl; clear K r; intro W K; have r := K.rawS))
    exact bodyPost_ret (v := .tuple #[.agg #[.int .i64 0, .slice none 0 0, .int .i64 0, .slice none 0 0], .int .i64 2]) (by simp [results, Tryz.results50, go_sem, r]) rfl ⟨none, HN.out, 0, none, 0, 0, [], 0, none, 0, 0, [], rfl, ⟨Rd.nil, Rd.nil⟩, ⟨rfl, rfl, rfl, rfl⟩, ⟨FrA.none, FrA.none⟩, K.1⟩
end Go.Proofs.YtkeajohkpmabcaaGreatDoor
