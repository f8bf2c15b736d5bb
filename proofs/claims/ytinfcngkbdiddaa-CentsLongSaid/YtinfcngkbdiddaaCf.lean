
/- Walk over Floor of package frac. Conditions stand in the theorem. -/
import Derived.Test.YtinfcngkbdiddaaF
namespace Go.Proofs.Ytinfcngkbdiddaa
open Go.RowKit
set_option linter.unusedVariables false
set_option linter.unusedSimpArgs false

/-- two results that a callee has made -/
theorem St.ret2 {w W W' : World} {L : List Blk} {D : List Hl} (h : St w L D W) (hb : Below W.heap.size W W') {A A' : Option Addr} {n cap n' cap' : Nat} {l m : List Int} (hl : RdI W' W'.heap.size A n cap l) (hm : RdI W' W'.heap.size A' n' cap' m) (hA : FrA W.heap.size A) (hA' : FrA W.heap.size A') :
    St w L (⟨rdP A' n' cap' m, rdS A' n'⟩ :: ⟨rdP A n cap l, rdS A n⟩ :: D) W' := by
  have h1 := h.ret hb hl hA
  have h2 := h.ret hb hm hA'
  exact h1.add (h2.2.2.2 _ List.mem_cons_self)
/-- the integral part -/
def floorZ (ok : Bool) (q : Rat) : Int := if ok = true then fq q.num q.den else 0
set_option maxRecDepth 100000 in
set_option maxHeartbeats 2000000 in
theorem fFloor_any (s1 t1 : Int) (A1 B1 : Option Addr) (n1 c1 m1 d1 : Nat) (l1 k1 : List Int) (w : World) (r1 : RdI w w.heap.size A1 n1 c1 l1) (q1 : RdI w w.heap.size B1 m1 d1 k1) : Calls Try.prog 26 #[.agg #[.int .i64 s1, .slice A1 n1 c1, .int .i64 t1, .slice B1 m1 d1]] w (BigR w (floorZ (rightF s1 l1 t1 k1) (ratF s1 l1 t1 k1))) := by
  have K := ((St.start w).oldRd r1).oldRd q1
  have r := K.raw
  have HR1 := Lib.hid (fun W h g => fRight_any s1 t1 A1 B1 n1 c1 m1 d1 l1 k1 W h g)
  cases h1 : rightF s1 l1 t1 k1
  · rw [h1] at HR1
    have e0 : floorZ false (ratF s1 l1 t1 k1) = 0 := rfl
    rw [e0]
    clear h1 e0
    go_enter Try.func26, Try.ntmps26
    go_wp2_with (first | ((first | (apply K.alloc; rfl; rfl; (first | with_reducible exact big_zero | with_reducible exact frac_zero)) | (apply K.box; rfl; rfl; rfl)); clear K r; intro W b K; have r := K.rawS) | (apply K.storeA; rfl; rfl; rfl; rfl; rfl; (repeat (first | with_reducible exact Upd.head _ | with_reducible apply Upd.tail)); (first | with_reducible exact big_size | with_reducible exact frac_size); rfl; rfl; rfl; clear K r; intro W K; have r := K.rawS))
    refine (HR1.out _ (by first | exact Rd.nil | exact K.rda) (by first | exact Rd.nil | exact K.rda)).mono ?_
    rintro e W' ⟨rfl, hb⟩
    replace K := K.keep hb
    clear r
    have r := K.rawS
    clear hb
    go_wp2_with (first | ((first | (apply K.alloc; rfl; rfl; (first | with_reducible exact big_zero | with_reducible exact frac_zero)) | (apply K.box; rfl; rfl; rfl)); clear K r; intro W b K; have r := K.rawS) | (apply K.storeA; rfl; rfl; rfl; rfl; rfl; (repeat (first | with_reducible exact Upd.head _ | with_reducible apply Upd.tail)); (first | with_reducible exact big_size | with_reducible exact frac_size); rfl; rfl; rfl; clear K r; intro W K; have r := K.rawS))
    exact bodyPost_ret (v := .agg #[.int .i64 0, .slice none 0 0]) (by simp [results, Try.results26, go_sem, r]) rfl ⟨0, none, 0, 0, [], rfl, Rd.nil, Std.zero, FrA.none, K.1⟩
  rw [h1] at HR1
  obtain ⟨⟨S1, T1⟩, F1⟩ := rightF_std h1
  have a1 := fitsF_num F1
  have a2 := fitsF_den F1
  have e0 : floorZ true (ratF s1 l1 t1 k1) = fq (ratF s1 l1 t1 k1).num (ratF s1 l1 t1 k1).den := rfl
  rw [e0]
  generalize ratF s1 l1 t1 k1 = x at *
  have hd : (x.den : Int) ≠ 0 := by have := x.den_nz; omega
  have HD := Lib.hid (fun W hl hm => vDiv x.num x.den s1 A1 n1 c1 l1 t1 B1 m1 d1 k1 W hl hm S1 T1 a1 a2 hd)
  generalize fq x.num x.den = Z at *
  clear h1 e0 S1 T1 F1 a1 a2 hd r1 q1
  go_enter Try.func26, Try.ntmps26
  go_wp2_with (first | ((first | (apply K.alloc; rfl; rfl; (first | with_reducible exact big_zero | with_reducible exact frac_zero)) | (apply K.box; rfl; rfl; rfl)); clear K r; intro W b K; have r := K.rawS) | (apply K.storeA; rfl; rfl; rfl; rfl; rfl; (repeat (first | with_reducible exact Upd.head _ | with_reducible apply Upd.tail)); (first | with_reducible exact big_size | with_reducible exact frac_size); rfl; rfl; rfl; clear K r; intro W K; have r := K.rawS))
  refine (HR1.out _ (by first | exact Rd.nil | exact K.rda) (by first | exact Rd.nil | exact K.rda)).mono ?_
  rintro e W' ⟨rfl, hb⟩
  replace K := K.keep hb
  clear r
  have r := K.rawS
  clear hb
  go_wp2_with (first | ((first | (apply K.alloc; rfl; rfl; (first | with_reducible exact big_zero | with_reducible exact frac_zero)) | (apply K.box; rfl; rfl; rfl)); clear K r; intro W b K; have r := K.rawS) | (apply K.storeA; rfl; rfl; rfl; rfl; rfl; (repeat (first | with_reducible exact Upd.head _ | with_reducible apply Upd.tail)); (first | with_reducible exact big_size | with_reducible exact frac_size); rfl; rfl; rfl; clear K r; intro W K; have r := K.rawS))
  refine (HD.out _ (by first | exact Rd.nil | exact K.rda) (by first | exact Rd.nil | exact K.rda)).mono ?_
  rintro e W' ⟨s3, A3, n3, c3, l3, s4, A4, n4, c4, l4, rfl, ⟨hra, hs3, hfa⟩, ⟨hrb, hs4, hfb⟩, hb⟩
  have hf3 := Lib.hid (hfa.mono K.1.size)
  have hf4 := Lib.hid (hfb.mono K.1.size)
  replace K := K.ret2 hb hra hrb hfa hfb
  clear r
  have r := K.rawS
  clear hra hrb hfa hfb hb
  go_wp2_with (first | ((first | (apply K.alloc; rfl; rfl; (first | with_reducible exact big_zero | with_reducible exact frac_zero)) | (apply K.box; rfl; rfl; rfl)); clear K r; intro W b K; have r := K.rawS) | (apply K.storeA; rfl; rfl; rfl; rfl; rfl; (repeat (first | with_reducible exact Upd.head _ | with_reducible apply Upd.tail)); (first | with_reducible exact big_size | with_reducible exact frac_size); rfl; rfl; rfl; clear K r; intro W K; have r := K.rawS))
  have HE := Lib.hid (⟨s3, A3, n3, c3, l3, rfl, (by first | exact Rd.nil | exact K.rda), hs3, hf3.out, K.1⟩ : BigR w Z (.returned (.agg #[.int .i64 s3, .slice A3 n3 c3])) W)
  clear hs3 hs4
  exact bodyPost_ret (v := .agg #[.int .i64 s3, .slice A3 n3 c3]) (by simp [results, Try.results26, go_sem, r]) rfl HE.out
end Go.Proofs.Ytinfcngkbdiddaa
