
/- Walks over Floor and Text of the reference of layer 5. Conditions stand in each theorem. -/
import Derived.Test.YtkeajohkpmabcaaGreatDoorF10
import Derived.Test.YtkeajohkpmabcaaGreatDoorE17
import Derived.Test.YtkeajohkpmabcaaGreatDoorT
namespace Go.Proofs.YtkeajohkpmabcaaGreatDoor
open Go.RowKit
set_option linter.unusedVariables false
set_option linter.unusedSimpArgs false

theorem uTextV (x : Int) (s : Int) (A : Option Addr) (n cap : Nat) (l : List Int) (W : World) (hl : RdI W W.heap.size A n cap l) (h1 : Std s l x) (f1 : fits x = true) : Calls Tryz.prog 32 #[.agg #[.int .i64 s, .slice A n cap]] W fun e w' => e = .returned (.string ⟨(Lib.itoa x).toArray⟩) ∧ Below W.heap.size W w' := by
  have h := etext_any s A n cap l W hl
  have e : textB s l = ⟨(Lib.itoa x).toArray⟩ := by unfold textB; rw [if_pos (h1.right f1), h1.val]
  rw [e] at h
  exact h
set_option maxRecDepth 100000 in
set_option maxHeartbeats 2000000 in
theorem gFloor_any (s1 t1 : Int) (A1 B1 : Option Addr) (n1 c1 m1 d1 : Nat) (l1 k1 : List Int) (w : World) (r1 : RdI w w.heap.size A1 n1 c1 l1) (q1 : RdI w w.heap.size B1 m1 d1 k1) : Calls Tryz.prog 62 #[.agg #[.int .i64 s1, .slice A1 n1 c1, .int .i64 t1, .slice B1 m1 d1]] w (BigR w (floorZ (rightF s1 l1 t1 k1) (ratF s1 l1 t1 k1))) := by
  have K := ((St.start w).oldRd r1).oldRd q1
  have r := K.raw
  have HR1 := Lib.hid (fun W h g => gRight_any s1 t1 A1 B1 n1 c1 m1 d1 l1 k1 W h g)
  cases h1 : rightF s1 l1 t1 k1
  · rw [h1] at HR1
    have e0 : floorZ false (ratF s1 l1 t1 k1) = 0 := rfl
    rw [e0]
    clear h1 e0
    go_enter Tryz.func62, Tryz.ntmps62
    go_wp2_with (first | ((first | (apply K.alloc; rfl; rfl; (first | with_reducible exact big_zero | with_reducible exact frac_zero)) | (apply K.box; rfl; rfl; rfl)); clear K r; (first | (have := b6; clear this; intro W b7 K) | (have := b5; clear this; intro W b6 K) | (have := b4; clear this; intro W b5 K) | (have := b3; clear this; intro W b4 K) | (have := b2; clear this; intro W b3 K) | (have := b1; clear this; intro W b2 K) | (have := b0; clear this; intro W b1 K) | intro W b0 K); have r := K.rawS) | (apply K.storeA; rfl; rfl; rfl; rfl; rfl; (repeat (first | with_reducible exact Upd.head _ | with_reducible apply Upd.tail)); (first | with_reducible exact big_size | with_reducible exact frac_size); rfl; rfl; rfl; clear K r; intro W K; have r := K.rawS))
    refine (HR1.out _ (by first | exact Rd.nil | exact K.rda) (by first | exact Rd.nil | exact K.rda)).mono ?_
    rintro e W' ⟨rfl, hb⟩
    replace K := K.keep hb
    clear r
    have r := K.rawS
    clear hb
    go_wp2_with (first | ((first | (apply K.alloc; rfl; rfl; (first | with_reducible exact big_zero | with_reducible exact frac_zero)) | (apply K.box; rfl; rfl; rfl)); clear K r; (first | (have := b6; clear this; intro W b7 K) | (have := b5; clear this; intro W b6 K) | (have := b4; clear this; intro W b5 K) | (have := b3; clear this; intro W b4 K) | (have := b2; clear this; intro W b3 K) | (have := b1; clear this; intro W b2 K) | (have := b0; clear this; intro W b1 K) | intro W b0 K); have r := K.rawS) | (apply K.storeA; rfl; rfl; rfl; rfl; rfl; (repeat (first | with_reducible exact Upd.head _ | with_reducible apply Upd.tail)); (first | with_reducible exact big_size | with_reducible exact frac_size); rfl; rfl; rfl; clear K r; intro W K; have r := K.rawS))
    exact bodyPost_ret (v := .agg #[.int .i64 0, .slice none 0 0]) (by simp [results, Tryz.results62, go_sem, r]) rfl ⟨0, none, 0, 0, [], rfl, Rd.nil, Std.zero, FrA.none, K.1⟩
  rw [h1] at HR1
  obtain ⟨⟨S1, T1⟩, F1⟩ := rightF_std h1
  have a1 := fitsF_num F1
  have a2 := fitsF_den F1
  have e0 : floorZ true (ratF s1 l1 t1 k1) = fq (ratF s1 l1 t1 k1).num (ratF s1 l1 t1 k1).den := rfl
  rw [e0]
  generalize ratF s1 l1 t1 k1 = x at *
  have hd : (x.den : Int) ≠ 0 := by have := x.den_nz; omega
  have HD := Lib.hid (fun W hl hm => uDiv x.num x.den s1 A1 n1 c1 l1 t1 B1 m1 d1 k1 W hl hm S1 T1 a1 a2 hd)
  generalize fq x.num x.den = Z at *
  clear h1 e0 S1 T1 F1 a1 a2 hd r1 q1
  go_enter Tryz.func62, Tryz.ntmps62
  go_wp2_with (first | ((first | (apply K.alloc; rfl; rfl; (first | with_reducible exact big_zero | with_reducible exact frac_zero)) | (apply K.box; rfl; rfl; rfl)); clear K r; (first | (have := b6; clear this; intro W b7 K) | (have := b5; clear this; intro W b6 K) | (have := b4; clear this; intro W b5 K) | (have := b3; clear this; intro W b4 K) | (have := b2; clear this; intro W b3 K) | (have := b1; clear this; intro W b2 K) | (have := b0; clear this; intro W b1 K) | intro W b0 K); have r := K.rawS) | (apply K.storeA; rfl; rfl; rfl; rfl; rfl; (repeat (first | with_reducible exact Upd.head _ | with_reducible apply Upd.tail)); (first | with_reducible exact big_size | with_reducible exact frac_size); rfl; rfl; rfl; clear K r; intro W K; have r := K.rawS))
  refine (HR1.out _ (by first | exact Rd.nil | exact K.rda) (by first | exact Rd.nil | exact K.rda)).mono ?_
  rintro e W' ⟨rfl, hb⟩
  replace K := K.keep hb
  clear r
  have r := K.rawS
  clear hb
  go_wp2_with (first | ((first | (apply K.alloc; rfl; rfl; (first | with_reducible exact big_zero | with_reducible exact frac_zero)) | (apply K.box; rfl; rfl; rfl)); clear K r; (first | (have := b6; clear this; intro W b7 K) | (have := b5; clear this; intro W b6 K) | (have := b4; clear this; intro W b5 K) | (have := b3; clear this; intro W b4 K) | (have := b2; clear this; intro W b3 K) | (have := b1; clear this; intro W b2 K) | (have := b0; clear this; intro W b1 K) | intro W b0 K); have r := K.rawS) | (apply K.storeA; rfl; rfl; rfl; rfl; rfl; (repeat (first | with_reducible exact Upd.head _ | with_reducible apply Upd.tail)); (first | with_reducible exact big_size | with_reducible exact frac_size); rfl; rfl; rfl; clear K r; intro W K; have r := K.rawS))
  refine (HD.out _ (by first | exact Rd.nil | exact K.rda) (by first | exact Rd.nil | exact K.rda)).mono ?_
  rintro e W' ⟨s3, A3, n3, c3, l3, s4, A4, n4, c4, l4, rfl, ⟨hra, hs3, hfa⟩, ⟨hrb, hs4, hfb⟩, hb⟩
  have hf3 := Lib.hid (hfa.mono K.1.size)
  have hf4 := Lib.hid (hfb.mono K.1.size)
  replace K := K.ret2 hb hra hrb hfa hfb
  clear r
  have r := K.rawS
  clear hra hrb hfa hfb hb
  go_wp2_with (first | ((first | (apply K.alloc; rfl; rfl; (first | with_reducible exact big_zero | with_reducible exact frac_zero)) | (apply K.box; rfl; rfl; rfl)); clear K r; (first | (have := b6; clear this; intro W b7 K) | (have := b5; clear this; intro W b6 K) | (have := b4; clear this; intro W b5 K) | (have := b3; clear this; intro W b4 K) | (have := b2; clear this; intro W b3 K) | (have := b1; clear this; intro W b2 K) | (have := b0; clear this; intro W b1 K) | intro W b0 K); have r := K.rawS) | (apply K.storeA; rfl; rfl; rfl; rfl; rfl; (repeat (first | with_reducible exact Upd.head _ | with_reducible apply Upd.tail)); (first | with_reducible exact big_size | with_reducible exact frac_size); rfl; rfl; rfl; clear K r; intro W K; have r := K.rawS))
  have HE := Lib.hid (⟨s3, A3, n3, c3, l3, rfl, (by first | exact Rd.nil | exact K.rda), hs3, hf3.out, K.1⟩ : BigR w Z (.returned (.agg #[.int .i64 s3, .slice A3 n3 c3])) W)
  clear hs3 hs4
  exact bodyPost_ret (v := .agg #[.int .i64 s3, .slice A3 n3 c3]) (by simp [results, Tryz.results62, go_sem, r]) rfl HE.out
set_option maxRecDepth 100000 in
set_option maxHeartbeats 2000000 in
theorem gText_any (s1 t1 : Int) (A1 B1 : Option Addr) (n1 c1 m1 d1 : Nat) (l1 k1 : List Int) (w : World) (r1 : RdI w w.heap.size A1 n1 c1 l1) (q1 : RdI w w.heap.size B1 m1 d1 k1) : Calls Tryz.prog 59 #[.agg #[.int .i64 s1, .slice A1 n1 c1, .int .i64 t1, .slice B1 m1 d1]] w fun e w' => e = .returned (.string (textF (rightF s1 l1 t1 k1) (ratF s1 l1 t1 k1))) ∧ Below w.heap.size w w' := by
  have K := ((St.start w).oldRd r1).oldRd q1
  have r := K.raw
  have HR1 := Lib.hid (fun W h g => gRight_any s1 t1 A1 B1 n1 c1 m1 d1 l1 k1 W h g)
  cases h1 : rightF s1 l1 t1 k1
  · rw [h1] at HR1
    have e0 : textF false (ratF s1 l1 t1 k1) = ⟨#[]⟩ := rfl
    rw [e0]
    clear h1 e0
    go_enter Tryz.func59, Tryz.ntmps59
    go_wp2_with (first | ((first | (apply K.alloc; rfl; rfl; (first | with_reducible exact big_zero | with_reducible exact frac_zero)) | (apply K.box; rfl; rfl; rfl)); clear K r; (first | (have := b6; clear this; intro W b7 K) | (have := b5; clear this; intro W b6 K) | (have := b4; clear this; intro W b5 K) | (have := b3; clear this; intro W b4 K) | (have := b2; clear this; intro W b3 K) | (have := b1; clear this; intro W b2 K) | (have := b0; clear this; intro W b1 K) | intro W b0 K); have r := K.rawS) | (apply K.storeA; rfl; rfl; rfl; rfl; rfl; (repeat (first | with_reducible exact Upd.head _ | with_reducible apply Upd.tail)); (first | with_reducible exact big_size | with_reducible exact frac_size); rfl; rfl; rfl; clear K r; intro W K; have r := K.rawS))
    refine (HR1.out _ (by first | exact Rd.nil | exact K.rda) (by first | exact Rd.nil | exact K.rda)).mono ?_
    rintro e W' ⟨rfl, hb⟩
    replace K := K.keep hb
    clear r
    have r := K.rawS
    clear hb
    go_wp2
    go_ret
    exact ⟨rfl, K.1⟩
  rw [h1] at HR1
  obtain ⟨⟨S1, T1⟩, F1⟩ := rightF_std h1
  have a1 := fitsF_num F1
  have a2 := fitsF_den F1
  have e0 : textF true (ratF s1 l1 t1 k1) = ⟨(textQ (ratF s1 l1 t1 k1)).toArray⟩ := rfl
  rw [e0]
  generalize ratF s1 l1 t1 k1 = x at *
  have hj := textQ_join x
  have z1 := itoa_len a1
  have z2 := itoa_len a2
  have y1 : (⟨(Lib.itoa x.num).toArray⟩ : ByteArray).size = (Lib.itoa x.num).length := by rw [Lib.size_eq]
  have y2 : (⟨(Lib.itoa x.den).toArray⟩ : ByteArray).size = (Lib.itoa x.den).length := by rw [Lib.size_eq]
  clear r1 q1 h1 e0
  go_enter Tryz.func59, Tryz.ntmps59
  go_wp2_with (first | ((first | (apply K.alloc; rfl; rfl; (first | with_reducible exact big_zero | with_reducible exact frac_zero)) | (apply K.box; rfl; rfl; rfl)); clear K r; (first | (have := b6; clear this; intro W b7 K) | (have := b5; clear this; intro W b6 K) | (have := b4; clear this; intro W b5 K) | (have := b3; clear this; intro W b4 K) | (have := b2; clear this; intro W b3 K) | (have := b1; clear this; intro W b2 K) | (have := b0; clear this; intro W b1 K) | intro W b0 K); have r := K.rawS) | (apply K.storeA; rfl; rfl; rfl; rfl; rfl; (repeat (first | with_reducible exact Upd.head _ | with_reducible apply Upd.tail)); (first | with_reducible exact big_size | with_reducible exact frac_size); rfl; rfl; rfl; clear K r; intro W K; have r := K.rawS))
  refine (HR1.out _ (by first | exact Rd.nil | exact K.rda) (by first | exact Rd.nil | exact K.rda)).mono ?_
  rintro e W' ⟨rfl, hb⟩
  replace K := K.keep hb
  clear r
  have r := K.rawS
  clear hb
  go_wp2_with (first | ((first | (apply K.alloc; rfl; rfl; (first | with_reducible exact big_zero | with_reducible exact frac_zero)) | (apply K.box; rfl; rfl; rfl)); clear K r; (first | (have := b6; clear this; intro W b7 K) | (have := b5; clear this; intro W b6 K) | (have := b4; clear this; intro W b5 K) | (have := b3; clear this; intro W b4 K) | (have := b2; clear this; intro W b3 K) | (have := b1; clear this; intro W b2 K) | (have := b0; clear this; intro W b1 K) | intro W b0 K); have r := K.rawS) | (apply K.storeA; rfl; rfl; rfl; rfl; rfl; (repeat (first | with_reducible exact Upd.head _ | with_reducible apply Upd.tail)); (first | with_reducible exact big_size | with_reducible exact frac_size); rfl; rfl; rfl; clear K r; intro W K; have r := K.rawS))
  obtain ⟨KS, X0, XK, XF, XS⟩ := K.pack2 (fun W => ((W.cell? ⟨b0, 0, none⟩ = some (.int .i64 s1) ∧ W.cell? ⟨b0, 1, none⟩ = some (.slice A1 n1 c1) ∧ W.cell? ⟨b0, 2, none⟩ = some (.int .i64 t1) ∧ W.cell? ⟨b0, 3, none⟩ = some (.slice B1 m1 d1)))) (fun W K => by
    have r := K.raw
    simp only [Raw, RawC, and_true, true_and, Nat.zero_add, Nat.reduceAdd] at r
    simp only [r, and_self])
  obtain ⟨ι, f, hne, hfw, hfk, hfc⟩ := cls_st KS _ X0 (fun W h => XK W W.drew h (Below.refl _ _).drew)
  have QA := Lib.hid (fun q => (uTextV x.num _ _ _ _ _ (f q) ((XS _ (hfk q)).rd (by repeat (first | with_reducible exact List.mem_cons_self | with_reducible apply List.mem_cons_of_mem))) S1 a1).mono fun e w'' ⟨he, hb⟩ => (⟨he, hfc _ (XK _ _ (hfk q) hb)⟩ : e = Ending.returned (.string ⟨(Lib.itoa x.num).toArray⟩) ∧ ∃ s, w'' = f s))
  have QB := Lib.hid (fun q => (uTextV x.den _ _ _ _ _ (f q) ((XS _ (hfk q)).rd (by repeat (first | with_reducible exact List.mem_cons_self | with_reducible apply List.mem_cons_of_mem))) T1 a2).mono fun e w'' ⟨he, hb⟩ => (⟨he, hfc _ (XK _ _ (hfk q) hb)⟩ : e = Ending.returned (.string ⟨(Lib.itoa x.den).toArray⟩) ∧ ∃ s, w'' = f s))
  have u1 : (⟨(Lib.itoa x.num).toArray⟩ : ByteArray).size ≤ 363 := by omega
  have u2 : (⟨(Lib.itoa x.den).toArray⟩ : ByteArray).size ≤ 363 := by omega
  have u3 : ((⟨(Lib.itoa x.num).toArray⟩ : ByteArray) ++ (⟨#[47]⟩ : ByteArray)).size = (⟨(Lib.itoa x.num).toArray⟩ : ByteArray).size + 1 := by
    rw [ByteArray.size_append]; rfl
  clear z1 z2 y1 y2
  generalize (⟨(Lib.itoa x.num).toArray⟩ : ByteArray) = TA at *
  generalize (⟨(Lib.itoa x.den).toArray⟩ : ByteArray) = TB at *
  have v1 : ¬ (9223372036854775807 < TA.size + 1) := by omega
  have v2 : ¬ (9223372036854775807 < (TA ++ (⟨#[47]⟩ : ByteArray)).size + TB.size) := by omega
  have v3 : ¬ (9223372036854775807 < TA.size + 1 + TB.size) := by omega
  have HJ := Lib.hid hj
  have c0 := fun n => (XF _ (hfk n)).1
  have c1' := fun n => (XF _ (hfk n)).2.1
  have c2' := fun n => (XF _ (hfk n)).2.2.1
  have c3 := fun n => (XF _ (hfk n)).2.2.2
  have XSt := Lib.hid (fun n => XS _ (hfk n))
  have Hfw := Lib.hid hfw
  clear XF XK XS K r hfk hfc hfw X0 hj u1 u2 u3 S1 T1 F1 a1 a2
  refine wp_region_cls (C := fun w' => ∃ n, w' = f n) (by kernel_rfl) (by kernel_rfl) Hfw.out ?_
  repeat (first
    | go_big_quiet_skip
    | (go_big_quiet_want; go_big_quiet_op; first | go_big_quiet_on | go_big_quiet_call ((go_at_call 32; first | with_reducible exact QA.out _ | with_reducible exact QB.out _))))
  refine wpQuiet_nil ?_
  rintro _ ⟨nq, rfl⟩
  have K := XSt.out nq
  clear QA QB v1 v2 v3 c0 c1' c2' c3
  go_wp2
  go_ret
  exact ⟨by rw [← HJ.out]; rfl, K.1⟩
end Go.Proofs.YtkeajohkpmabcaaGreatDoor
