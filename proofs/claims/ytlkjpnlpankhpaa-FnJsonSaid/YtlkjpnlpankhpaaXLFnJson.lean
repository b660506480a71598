/- What is proved here: the law FnJson answers true. Conditions: none. -/
import Derived.Test.YtlkjpnlpankhpaaXDn
import Derived.Test.YtlkjpnlpankhpaaXJl
import Derived.Test.YtlkjpnlpankhpaaXGe
import Derived.Test.YtlkjpnlpankhpaaXTp
namespace Go.Proofs.Ytlkjpnlpankhpaa.X
open Go.RowKit Go.Sort
set_option linter.unusedVariables false
set_option linter.unusedSimpArgs false
open Ty
theorem jsonSize_b (x : J) : 0 ≤ jsonSize x ∧ jsonSize x ≤ 400 := by
  by_cases h : sizeN 6 x ≤ 400
  · rw [show jsonSize x = sizeN 6 x from if_pos h]
    obtain ⟨h2, h3⟩ := depth_size 6 x h
    omega
  · rw [show jsonSize x = 0 from if_neg h]
    omega
theorem sumZ_nn0 {α : Type} (f : α → Int) (hf : ∀ x, 0 ≤ f x) : ∀ l : List α, 0 ≤ sumZ f l
  | [] => Int.le_refl _
  | x :: l => by
    have h1 := sumZ_nn0 f hf l
    have h2 := hf x
    simp only [sumZ]
    omega
theorem sumZ_cat0 {α : Type} (f : α → Int) (l m : List α) : sumZ f (l ++ m) = sumZ f l + sumZ f m := by
  induction l with
  | nil => simp [sumZ]
  | cons x l ih => simp only [List.cons_append, sumZ, ih]; omega
theorem sumZ_take_le {α : Type} (f : α → Int) (hf : ∀ x, 0 ≤ f x) (l : List α) (k : Nat) : 0 ≤ sumZ f (l.take k) ∧ sumZ f (l.take k) ≤ sumZ f l := by
  have h1 := sumZ_cat0 f (l.take k) (l.drop k)
  rw [List.take_append_drop] at h1
  have h2 := sumZ_nn0 f hf (l.drop k)
  exact ⟨sumZ_nn0 f hf _, by omega⟩
theorem sumZ_step {α : Type} (f : α → Int) (l : List α) (k : Nat) (hk : k < l.length) : sumZ f (l.take (k + 1)) = sumZ f (l.take k) + f l[k] := by
  rw [List.take_succ_eq_append_getElem hk, sumZ_cat0]
  simp [sumZ]
set_option maxHeartbeats 16000000 in
set_option maxRecDepth 100000 in
theorem laws_FnJson {w : World} (A0 : Option Addr) (c0 : Nat) (bs : List Int) (hv0 : bs.length ≤ c0) (hk0 : u8.C w A0 bs) :
    Calls Try.prog 3 #[.slice A0 bs.length c0] w fun e w' => e = .returned (.bool true) ∧ Below w.heap.size w w' := by
  have hm := hk0.1
  have HBS := Hd.mk hk0; clear hk0
  have hB := Hd.mk (Below.refl w.heap.size w)
  go_enter Try.func3, Try.ntmps3
  go_wp2_with fail
  refine (laws_big _ _ bs w hm).mono ?_
  rintro e w1 ⟨rfl, rfl⟩
  by_cases hbig : (1048576 : Int) < bs.length
  · have hbb : decide ((1048576 : Int) < bs.length) = true := decide_eq_true hbig
    rw [hbb]
    go_wp2_with fail
    go_ret
    exact ⟨rfl, Below.refl _ _⟩
  have hbb : decide ((1048576 : Int) < bs.length) = false := decide_eq_false hbig
  rw [hbb]
  have hbs : bs.length ≤ 1048576 := by omega
  clear hbig hbb
  go_wp2_with fail
  refine (spec_DrawJsonSame _ _ bs _ (C_below HBS.out hB.out) hbs).mono ?_
  rintro e w1 ⟨a, b, cs, cs2, rfl, hK, hK2, _, _, hX⟩
  have hB := Hd.mk (below_then hB.out hX)
  have hz_ := hX.size
  clear hX
  have z1 := Hd.mk hz_; clear hz_
  obtain ⟨A3, c3, A4, c4, rfl, _, ⟨_, hC3⟩, _⟩ := tJ_K.1 hK
  obtain ⟨B3, e3, B4, e4, rfl, _⟩ := tJ_K.1 hK2
  have HKA := Hd.mk hK; have HKB := Hd.mk hK2
  have hm3 := hC3.1
  have HC3 := Hd.mk hC3
  clear hK hK2 hC3
  have h1B := Hd.mk (Below.refl w1.heap.size w1)
  obtain ⟨sm, hsm⟩ : ∃ z, z = jsonSame a b := ⟨_, rfl⟩
  obtain ⟨ok, hok⟩ : ∃ z, z = jsonOk a := ⟨_, rfl⟩
  obtain ⟨n, hn⟩ : ∃ z, z = jsonSize a := ⟨_, rfl⟩
  obtain ⟨d, hd⟩ : ∃ z, z = jsonDepth a := ⟨_, rfl⟩
  have hnb : 0 ≤ n ∧ n ≤ 400 := by rw [hn]; exact jsonSize_b a
  have HSM := Hd.mk hsm; have HOK := Hd.mk hok; have HN := Hd.mk hn; have HD := Hd.mk hd
  clear hsm hok hn hd
  have HEQ := Hd.mk (fun h : sm = true => jsonSame_eq (HSM.out.symm.trans h))
  have hss : (sm != sm) = false := by cases sm <;> rfl
  have hoo : (ok != ok) = false := by cases ok <;> rfl
  have hnn : (n != n) = false := by simp
  have hdd : (d != d) = false := by simp
  go_wp2_with fail
  apply calls_gen; intro W2 hW
  have hz_ : w1.heap.size + 2 ≤ W2.heap.size := by rw [hW]; simp
  have hE : Below w1.heap.size w1 W2 := by rw [hW]; (repeat (first | with_reducible refine below_alloc ?_ _ | with_reducible refine below_drew ?_)); exact Below.refl _ _
  have hB := Hd.mk (below_then hB.out hE)
  have h1B := Hd.mk (below_then h1B.out hE)
  have b0 := Hd.mk (show Blk W2 (w1.heap.size) #[Value.int IntKind.i64 a.kind, Value.int IntKind.i64 a.n, Value.string a.s, Value.slice A3 a.list.length c3, Value.slice A4 a.names.length c4] 27 by rw [hW]; first | exact ((Blk.new _ _ _).alloc _) | (simpa using ((Blk.new _ _ _).alloc _)))
  have b1 := Hd.mk (show Blk W2 (w1.heap.size + 1) #[Value.int IntKind.i64 b.kind, Value.int IntKind.i64 b.n, Value.string b.s, Value.slice B3 b.list.length e3, Value.slice B4 b.names.length e4] 27 by rw [hW]; first | exact (Blk.new1 _ _ _ _) | (simpa using (Blk.new1 _ _ _ _)))
  clear hW hE
  have z2 := Hd.mk hz_; clear hz_
  refine (impl_JsonSame a b _ _ _ (Ty.K_below _ h1B.out HKA.out) (Ty.K_below _ h1B.out HKB.out)).mono ?_
  rintro e w3 ⟨rfl, hX⟩
  have b0 := Hd.mk (b0.out.below hX)
  have b1 := Hd.mk (b1.out.below hX)
  have hB := Hd.mk (below_then hB.out hX)
  have hz_ := hX.size
  have h1B := Hd.mk (below_then h1B.out hX)
  clear hX
  have z3 := Hd.mk hz_; clear hz_
  rw [← HSM.out]
  have fb0_0 : w3.cell? ⟨w1.heap.size, 0, none⟩ = some (Value.int IntKind.i64 a.kind) := b0.out.cell 0 rfl
  have fb0_1 : w3.cell? ⟨w1.heap.size, 1, none⟩ = some (Value.int IntKind.i64 a.n) := b0.out.cell 1 rfl
  have fb0_2 : w3.cell? ⟨w1.heap.size, 2, none⟩ = some (Value.string a.s) := b0.out.cell 2 rfl
  have fb0_3 : w3.cell? ⟨w1.heap.size, 3, none⟩ = some (Value.slice A3 a.list.length c3) := b0.out.cell 3 rfl
  have fb0_4 : w3.cell? ⟨w1.heap.size, 4, none⟩ = some (Value.slice A4 a.names.length c4) := b0.out.cell 4 rfl
  have fb0_z := b0.out.frozen
  have fb1_0 : w3.cell? ⟨w1.heap.size + 1, 0, none⟩ = some (Value.int IntKind.i64 b.kind) := b1.out.cell 0 rfl
  have fb1_1 : w3.cell? ⟨w1.heap.size + 1, 1, none⟩ = some (Value.int IntKind.i64 b.n) := b1.out.cell 1 rfl
  have fb1_2 : w3.cell? ⟨w1.heap.size + 1, 2, none⟩ = some (Value.string b.s) := b1.out.cell 2 rfl
  have fb1_3 : w3.cell? ⟨w1.heap.size + 1, 3, none⟩ = some (Value.slice B3 b.list.length e3) := b1.out.cell 3 rfl
  have fb1_4 : w3.cell? ⟨w1.heap.size + 1, 4, none⟩ = some (Value.slice B4 b.names.length e4) := b1.out.cell 4 rfl
  have fb1_z := b1.out.frozen
  go_wp2_with fail
  clear fb0_0 fb0_1 fb0_2 fb0_3 fb0_4 fb0_z fb1_0 fb1_1 fb1_2 fb1_3 fb1_4 fb1_z
  have fb0_0 : w3.cell? ⟨w1.heap.size, 0, none⟩ = some (Value.int IntKind.i64 a.kind) := b0.out.cell 0 rfl
  have fb0_1 : w3.cell? ⟨w1.heap.size, 1, none⟩ = some (Value.int IntKind.i64 a.n) := b0.out.cell 1 rfl
  have fb0_2 : w3.cell? ⟨w1.heap.size, 2, none⟩ = some (Value.string a.s) := b0.out.cell 2 rfl
  have fb0_3 : w3.cell? ⟨w1.heap.size, 3, none⟩ = some (Value.slice A3 a.list.length c3) := b0.out.cell 3 rfl
  have fb0_4 : w3.cell? ⟨w1.heap.size, 4, none⟩ = some (Value.slice A4 a.names.length c4) := b0.out.cell 4 rfl
  have fb0_z := b0.out.frozen
  have fb1_0 : w3.cell? ⟨w1.heap.size + 1, 0, none⟩ = some (Value.int IntKind.i64 b.kind) := b1.out.cell 0 rfl
  have fb1_1 : w3.cell? ⟨w1.heap.size + 1, 1, none⟩ = some (Value.int IntKind.i64 b.n) := b1.out.cell 1 rfl
  have fb1_2 : w3.cell? ⟨w1.heap.size + 1, 2, none⟩ = some (Value.string b.s) := b1.out.cell 2 rfl
  have fb1_3 : w3.cell? ⟨w1.heap.size + 1, 3, none⟩ = some (Value.slice B3 b.list.length e3) := b1.out.cell 3 rfl
  have fb1_4 : w3.cell? ⟨w1.heap.size + 1, 4, none⟩ = some (Value.slice B4 b.names.length e4) := b1.out.cell 4 rfl
  have fb1_z := b1.out.frozen
  have rfb0_0 := cell_regrown fb0_0
  have rfb0_1 := cell_regrown fb0_1
  have rfb0_2 := cell_regrown fb0_2
  have rfb0_3 := cell_regrown fb0_3
  have rfb0_4 := cell_regrown fb0_4
  have rfb1_0 := cell_regrown fb1_0
  have rfb1_1 := cell_regrown fb1_1
  have rfb1_2 := cell_regrown fb1_2
  have rfb1_3 := cell_regrown fb1_3
  have rfb1_4 := cell_regrown fb1_4
  refine region_mix [(true, 0), (true, 1), (true, 2), (false, 3), (true, 4), (true, 5), (true, 6), (true, 7), (true, 8), (false, 9), (true, 10), (true, 11), (true, 12), (true, 13), (true, 15), (false, 14), (false, 16), (true, 17), (true, 18), (true, 19), (true, 20), (true, 21), (true, 23), (false, 22), (false, 24), (true, 25), (true, 26)] (by kernel_rfl) (by kernel_rfl) (fun _ _ _ _ _ h => h) ?_
  (repeat (first | (refine mix_z rfl (by rfl) ?_; go_big_quiet_skip; refine wpQuiet_nil ?_) | (refine mix_q rfl ?_; first | (go_big_quiet_skip; refine wpQuiet_nil ?_) | (go_big_quiet_want; go_big_quiet_op; go_big_quiet_on; refine wpQuiet_nil ?_))))
  have hS := Hd.mk (Below.refl w3.heap.size w3)
  refine mix_b rfl ?_ (by rfl)
  go_wp2_with fail
  clear fb0_0 fb0_1 fb0_2 fb0_3 fb0_4 fb0_z fb1_0 fb1_1 fb1_2 fb1_3 fb1_4 fb1_z
  apply calls_gen; intro W4 hW
  have hz_ : w3.heap.size ≤ W4.heap.size := by rw [hW]; simp
  have hE : Below w3.heap.size w3 W4 := by rw [hW]; (repeat (first | with_reducible refine below_alloc ?_ _ | with_reducible refine below_drew ?_)); exact Below.refl _ _
  have hB := Hd.mk (below_then hB.out hE)
  have h1B := Hd.mk (below_then h1B.out hE)
  replace hS := Hd.mk (below_then hS.out hE)
  have b0 := Hd.mk (b0.out.below hE)
  have b1 := Hd.mk (b1.out.below hE)
  clear hW hE
  have z4 := Hd.mk hz_; clear hz_
  refine (spec_JsonSame a b _ _ _ (Ty.K_below _ h1B.out HKA.out) (Ty.K_below _ h1B.out HKB.out)).mono ?_
  rintro e w5 ⟨rfl, hX⟩
  have b0 := Hd.mk (b0.out.below hX)
  have b1 := Hd.mk (b1.out.below hX)
  have hB := Hd.mk (below_then hB.out hX)
  replace hS := Hd.mk (below_then hS.out hX)
  have hz_ := hX.size
  have h1B := Hd.mk (below_then h1B.out hX)
  clear hX
  have z5 := Hd.mk hz_; clear hz_
  rw [← HSM.out]
  go_wp2_with fail
  refine ⟨cls_below hS.out, ?_⟩
  (repeat (first | (refine mix_z rfl (by rfl) ?_; go_big_quiet_skip; refine wpQuiet_nil ?_) | (refine mix_q rfl ?_; first | (go_big_quiet_skip; refine wpQuiet_nil ?_) | (go_big_quiet_want; go_big_quiet_op; go_big_quiet_on; refine wpQuiet_nil ?_))))
  refine mix_b rfl ?_ (by rfl)
  go_wp2_with fail
  apply calls_gen; intro W6 hW
  have hz_ : w5.heap.size ≤ W6.heap.size := by rw [hW]; simp
  have hE : Below w5.heap.size w5 W6 := by rw [hW]; (repeat (first | with_reducible refine below_alloc ?_ _ | with_reducible refine below_drew ?_)); exact Below.refl _ _
  have hB := Hd.mk (below_then hB.out hE)
  have h1B := Hd.mk (below_then h1B.out hE)
  replace hS := Hd.mk (below_then hS.out hE)
  have b0 := Hd.mk (b0.out.below hE)
  have b1 := Hd.mk (b1.out.below hE)
  clear hW hE
  have z6 := Hd.mk hz_; clear hz_
  refine (impl_JsonSame b a _ _ _ (Ty.K_below _ h1B.out HKB.out) (Ty.K_below _ h1B.out HKA.out)).mono ?_
  rintro e w7 ⟨rfl, hX⟩
  have b0 := Hd.mk (b0.out.below hX)
  have b1 := Hd.mk (b1.out.below hX)
  have hB := Hd.mk (below_then hB.out hX)
  replace hS := Hd.mk (below_then hS.out hX)
  have hz_ := hX.size
  have h1B := Hd.mk (below_then h1B.out hX)
  clear hX
  have z7 := Hd.mk hz_; clear hz_
  rw [jsonSame_symm b a, ← HSM.out]
  go_wp2_with fail
  refine ⟨cls_below hS.out, ?_⟩
  (repeat (first | (refine mix_z rfl (by rfl) ?_; go_big_quiet_skip; refine wpQuiet_nil ?_) | (refine mix_q rfl ?_; first | (go_big_quiet_skip; refine wpQuiet_nil ?_) | (go_big_quiet_want; go_big_quiet_op; go_big_quiet_on; refine wpQuiet_nil ?_))))
  refine mix_b rfl ?_ (by rfl)
  go_wp2_with fail
  apply calls_gen; intro W8 hW
  have hz_ : w7.heap.size ≤ W8.heap.size := by rw [hW]; simp
  have hE : Below w7.heap.size w7 W8 := by rw [hW]; (repeat (first | with_reducible refine below_alloc ?_ _ | with_reducible refine below_drew ?_)); exact Below.refl _ _
  have hB := Hd.mk (below_then hB.out hE)
  have h1B := Hd.mk (below_then h1B.out hE)
  replace hS := Hd.mk (below_then hS.out hE)
  have b0 := Hd.mk (b0.out.below hE)
  have b1 := Hd.mk (b1.out.below hE)
  clear hW hE
  have z8 := Hd.mk hz_; clear hz_
  refine (impl_JsonOk a _ _ (Ty.K_below _ h1B.out HKA.out)).mono ?_
  rintro e w9 ⟨rfl, hX⟩
  have b0 := Hd.mk (b0.out.below hX)
  have b1 := Hd.mk (b1.out.below hX)
  have hB := Hd.mk (below_then hB.out hX)
  replace hS := Hd.mk (below_then hS.out hX)
  have hz_ := hX.size
  have h1B := Hd.mk (below_then h1B.out hX)
  clear hX
  have z9 := Hd.mk hz_; clear hz_
  rw [← HOK.out]
  go_wp2_with fail
  refine ⟨cls_below hS.out, ?_⟩
  (repeat (first | (refine mix_z rfl (by rfl) ?_; go_big_quiet_skip; refine wpQuiet_nil ?_) | (refine mix_q rfl ?_; first | (go_big_quiet_skip; refine wpQuiet_nil ?_) | (go_big_quiet_want; go_big_quiet_op; go_big_quiet_on; refine wpQuiet_nil ?_))))
  refine mix_b rfl ?_ (by rfl)
  go_wp2_with fail
  apply calls_gen; intro W10 hW
  have hz_ : w9.heap.size ≤ W10.heap.size := by rw [hW]; simp
  have hE : Below w9.heap.size w9 W10 := by rw [hW]; (repeat (first | with_reducible refine below_alloc ?_ _ | with_reducible refine below_drew ?_)); exact Below.refl _ _
  have hB := Hd.mk (below_then hB.out hE)
  have h1B := Hd.mk (below_then h1B.out hE)
  replace hS := Hd.mk (below_then hS.out hE)
  have b0 := Hd.mk (b0.out.below hE)
  have b1 := Hd.mk (b1.out.below hE)
  clear hW hE
  have z10 := Hd.mk hz_; clear hz_
  refine (spec_JsonOk a _ _ (Ty.K_below _ h1B.out HKA.out)).mono ?_
  rintro e w11 ⟨rfl, hX⟩
  have b0 := Hd.mk (b0.out.below hX)
  have b1 := Hd.mk (b1.out.below hX)
  have hB := Hd.mk (below_then hB.out hX)
  replace hS := Hd.mk (below_then hS.out hX)
  have hz_ := hX.size
  have h1B := Hd.mk (below_then h1B.out hX)
  clear hX
  have z11 := Hd.mk hz_; clear hz_
  rw [← HOK.out]
  go_wp2_with fail
  refine ⟨cls_below hS.out, ?_⟩
  (repeat (first | (refine mix_z rfl (by rfl) ?_; go_big_quiet_skip; refine wpQuiet_nil ?_) | (refine mix_q rfl ?_; first | (go_big_quiet_skip; refine wpQuiet_nil ?_) | (go_big_quiet_want; go_big_quiet_op; go_big_quiet_on; refine wpQuiet_nil ?_))))
  refine mix_b rfl ?_ (by rfl)
  go_wp2_with fail
  apply calls_gen; intro W12 hW
  have hz_ : w11.heap.size ≤ W12.heap.size := by rw [hW]; simp
  have hE : Below w11.heap.size w11 W12 := by rw [hW]; (repeat (first | with_reducible refine below_alloc ?_ _ | with_reducible refine below_drew ?_)); exact Below.refl _ _
  have hB := Hd.mk (below_then hB.out hE)
  have h1B := Hd.mk (below_then h1B.out hE)
  replace hS := Hd.mk (below_then hS.out hE)
  have b0 := Hd.mk (b0.out.below hE)
  have b1 := Hd.mk (b1.out.below hE)
  clear hW hE
  have z12 := Hd.mk hz_; clear hz_
  refine (impl_JsonSame a a _ _ _ (Ty.K_below _ h1B.out HKA.out) (Ty.K_below _ h1B.out HKA.out)).mono ?_
  rintro e w13 ⟨rfl, hX⟩
  have b0 := Hd.mk (b0.out.below hX)
  have b1 := Hd.mk (b1.out.below hX)
  have hB := Hd.mk (below_then hB.out hX)
  replace hS := Hd.mk (below_then hS.out hX)
  have hz_ := hX.size
  have h1B := Hd.mk (below_then h1B.out hX)
  clear hX
  have z13 := Hd.mk hz_; clear hz_
  rw [jsonSame_self, ← HOK.out]
  go_wp2_with fail
  refine ⟨cls_below hS.out, ?_⟩
  (repeat (first | (refine mix_z rfl (by rfl) ?_; go_big_quiet_skip; refine wpQuiet_nil ?_) | (refine mix_q rfl ?_; first | (go_big_quiet_skip; refine wpQuiet_nil ?_) | (go_big_quiet_want; go_big_quiet_op; go_big_quiet_on; refine wpQuiet_nil ?_))))
  refine mix_b rfl ?_ (by rfl)
  go_wp2_with fail
  apply calls_gen; intro W14 hW
  have hz_ : w13.heap.size ≤ W14.heap.size := by rw [hW]; simp
  have hE : Below w13.heap.size w13 W14 := by rw [hW]; (repeat (first | with_reducible refine below_alloc ?_ _ | with_reducible refine below_drew ?_)); exact Below.refl _ _
  have hB := Hd.mk (below_then hB.out hE)
  have h1B := Hd.mk (below_then h1B.out hE)
  replace hS := Hd.mk (below_then hS.out hE)
  have b0 := Hd.mk (b0.out.below hE)
  have b1 := Hd.mk (b1.out.below hE)
  clear hW hE
  have z14 := Hd.mk hz_; clear hz_
  refine (spec_JsonOk a _ _ (Ty.K_below _ h1B.out HKA.out)).mono ?_
  rintro e w15 ⟨rfl, hX⟩
  have b0 := Hd.mk (b0.out.below hX)
  have b1 := Hd.mk (b1.out.below hX)
  have hB := Hd.mk (below_then hB.out hX)
  replace hS := Hd.mk (below_then hS.out hX)
  have hz_ := hX.size
  have h1B := Hd.mk (below_then h1B.out hX)
  clear hX
  have z15 := Hd.mk hz_; clear hz_
  rw [← HOK.out]
  go_wp2_with fail
  refine ⟨cls_below hS.out, ?_⟩
  (repeat (first | (refine mix_z rfl (by rfl) ?_; go_big_quiet_skip; refine wpQuiet_nil ?_) | (refine mix_q rfl ?_; first | (go_big_quiet_skip; refine wpQuiet_nil ?_) | (go_big_quiet_want; go_big_quiet_op; go_big_quiet_on; refine wpQuiet_nil ?_))))
  refine mix_nil ?_
  clear hS rfb0_0 rfb0_1 rfb0_2 rfb0_3 rfb0_4 rfb1_0 rfb1_1 rfb1_2 rfb1_3 rfb1_4
  have fb0_0 : w15.cell? ⟨w1.heap.size, 0, none⟩ = some (Value.int IntKind.i64 a.kind) := b0.out.cell 0 rfl
  have fb0_1 : w15.cell? ⟨w1.heap.size, 1, none⟩ = some (Value.int IntKind.i64 a.n) := b0.out.cell 1 rfl
  have fb0_2 : w15.cell? ⟨w1.heap.size, 2, none⟩ = some (Value.string a.s) := b0.out.cell 2 rfl
  have fb0_3 : w15.cell? ⟨w1.heap.size, 3, none⟩ = some (Value.slice A3 a.list.length c3) := b0.out.cell 3 rfl
  have fb0_4 : w15.cell? ⟨w1.heap.size, 4, none⟩ = some (Value.slice A4 a.names.length c4) := b0.out.cell 4 rfl
  have fb0_z := b0.out.frozen
  have fb1_0 : w15.cell? ⟨w1.heap.size + 1, 0, none⟩ = some (Value.int IntKind.i64 b.kind) := b1.out.cell 0 rfl
  have fb1_1 : w15.cell? ⟨w1.heap.size + 1, 1, none⟩ = some (Value.int IntKind.i64 b.n) := b1.out.cell 1 rfl
  have fb1_2 : w15.cell? ⟨w1.heap.size + 1, 2, none⟩ = some (Value.string b.s) := b1.out.cell 2 rfl
  have fb1_3 : w15.cell? ⟨w1.heap.size + 1, 3, none⟩ = some (Value.slice B3 b.list.length e3) := b1.out.cell 3 rfl
  have fb1_4 : w15.cell? ⟨w1.heap.size + 1, 4, none⟩ = some (Value.slice B4 b.names.length e4) := b1.out.cell 4 rfl
  have fb1_z := b1.out.frozen
  go_wp2_with fail
  clear fb0_0 fb0_1 fb0_2 fb0_3 fb0_4 fb0_z fb1_0 fb1_1 fb1_2 fb1_3 fb1_4 fb1_z
  have fb0_0 : w15.cell? ⟨w1.heap.size, 0, none⟩ = some (Value.int IntKind.i64 a.kind) := b0.out.cell 0 rfl
  have fb0_1 : w15.cell? ⟨w1.heap.size, 1, none⟩ = some (Value.int IntKind.i64 a.n) := b0.out.cell 1 rfl
  have fb0_2 : w15.cell? ⟨w1.heap.size, 2, none⟩ = some (Value.string a.s) := b0.out.cell 2 rfl
  have fb0_3 : w15.cell? ⟨w1.heap.size, 3, none⟩ = some (Value.slice A3 a.list.length c3) := b0.out.cell 3 rfl
  have fb0_4 : w15.cell? ⟨w1.heap.size, 4, none⟩ = some (Value.slice A4 a.names.length c4) := b0.out.cell 4 rfl
  have fb0_z := b0.out.frozen
  have fb1_0 : w15.cell? ⟨w1.heap.size + 1, 0, none⟩ = some (Value.int IntKind.i64 b.kind) := b1.out.cell 0 rfl
  have fb1_1 : w15.cell? ⟨w1.heap.size + 1, 1, none⟩ = some (Value.int IntKind.i64 b.n) := b1.out.cell 1 rfl
  have fb1_2 : w15.cell? ⟨w1.heap.size + 1, 2, none⟩ = some (Value.string b.s) := b1.out.cell 2 rfl
  have fb1_3 : w15.cell? ⟨w1.heap.size + 1, 3, none⟩ = some (Value.slice B3 b.list.length e3) := b1.out.cell 3 rfl
  have fb1_4 : w15.cell? ⟨w1.heap.size + 1, 4, none⟩ = some (Value.slice B4 b.names.length e4) := b1.out.cell 4 rfl
  have fb1_z := b1.out.frozen
  have rfb0_0 := cell_regrown fb0_0
  have rfb0_1 := cell_regrown fb0_1
  have rfb0_2 := cell_regrown fb0_2
  have rfb0_3 := cell_regrown fb0_3
  have rfb0_4 := cell_regrown fb0_4
  have rfb1_0 := cell_regrown fb1_0
  have rfb1_1 := cell_regrown fb1_1
  have rfb1_2 := cell_regrown fb1_2
  have rfb1_3 := cell_regrown fb1_3
  have rfb1_4 := cell_regrown fb1_4
  refine region_mix [(true, 0), (true, 2), (false, 1), (false, 3), (true, 4), (true, 5)] (by kernel_rfl) (by kernel_rfl) (fun _ _ _ _ _ h => h) ?_
  (repeat (first | (refine mix_z rfl (by rfl) ?_; go_big_quiet_skip; refine wpQuiet_nil ?_) | (refine mix_q rfl ?_; first | (go_big_quiet_skip; refine wpQuiet_nil ?_) | (go_big_quiet_want; go_big_quiet_op; go_big_quiet_on; refine wpQuiet_nil ?_))))
  have hS := Hd.mk (Below.refl w15.heap.size w15)
  refine mix_b rfl ?_ (by rfl)
  go_wp2_with fail
  clear fb0_0 fb0_1 fb0_2 fb0_3 fb0_4 fb0_z fb1_0 fb1_1 fb1_2 fb1_3 fb1_4 fb1_z
  apply calls_gen; intro W16 hW
  have hz_ : w15.heap.size ≤ W16.heap.size := by rw [hW]; simp
  have hE : Below w15.heap.size w15 W16 := by rw [hW]; (repeat (first | with_reducible refine below_alloc ?_ _ | with_reducible refine below_drew ?_)); exact Below.refl _ _
  have hB := Hd.mk (below_then hB.out hE)
  have h1B := Hd.mk (below_then h1B.out hE)
  replace hS := Hd.mk (below_then hS.out hE)
  have b0 := Hd.mk (b0.out.below hE)
  have b1 := Hd.mk (b1.out.below hE)
  clear hW hE
  have z16 := Hd.mk hz_; clear hz_
  refine (impl_JsonSize a _ _ (Ty.K_below _ h1B.out HKA.out)).mono ?_
  rintro e w17 ⟨rfl, hX⟩
  have b0 := Hd.mk (b0.out.below hX)
  have b1 := Hd.mk (b1.out.below hX)
  have hB := Hd.mk (below_then hB.out hX)
  replace hS := Hd.mk (below_then hS.out hX)
  have hz_ := hX.size
  have h1B := Hd.mk (below_then h1B.out hX)
  clear hX
  have z17 := Hd.mk hz_; clear hz_
  rw [← HN.out]
  go_wp2_with fail
  refine ⟨cls_below hS.out, ?_⟩
  (repeat (first | (refine mix_z rfl (by rfl) ?_; go_big_quiet_skip; refine wpQuiet_nil ?_) | (refine mix_q rfl ?_; first | (go_big_quiet_skip; refine wpQuiet_nil ?_) | (go_big_quiet_want; go_big_quiet_op; go_big_quiet_on; refine wpQuiet_nil ?_))))
  refine mix_b rfl ?_ (by rfl)
  go_wp2_with fail
  apply calls_gen; intro W18 hW
  have hz_ : w17.heap.size ≤ W18.heap.size := by rw [hW]; simp
  have hE : Below w17.heap.size w17 W18 := by rw [hW]; (repeat (first | with_reducible refine below_alloc ?_ _ | with_reducible refine below_drew ?_)); exact Below.refl _ _
  have hB := Hd.mk (below_then hB.out hE)
  have h1B := Hd.mk (below_then h1B.out hE)
  replace hS := Hd.mk (below_then hS.out hE)
  have b0 := Hd.mk (b0.out.below hE)
  have b1 := Hd.mk (b1.out.below hE)
  clear hW hE
  have z18 := Hd.mk hz_; clear hz_
  refine (impl_JsonDepth a _ _ (Ty.K_below _ h1B.out HKA.out)).mono ?_
  rintro e w19 ⟨rfl, hX⟩
  have b0 := Hd.mk (b0.out.below hX)
  have b1 := Hd.mk (b1.out.below hX)
  have hB := Hd.mk (below_then hB.out hX)
  replace hS := Hd.mk (below_then hS.out hX)
  have hz_ := hX.size
  have h1B := Hd.mk (below_then h1B.out hX)
  clear hX
  have z19 := Hd.mk hz_; clear hz_
  rw [← HD.out]
  go_wp2_with fail
  refine ⟨cls_below hS.out, ?_⟩
  (repeat (first | (refine mix_z rfl (by rfl) ?_; go_big_quiet_skip; refine wpQuiet_nil ?_) | (refine mix_q rfl ?_; first | (go_big_quiet_skip; refine wpQuiet_nil ?_) | (go_big_quiet_want; go_big_quiet_op; go_big_quiet_on; refine wpQuiet_nil ?_))))
  refine mix_nil ?_
  clear hS rfb0_0 rfb0_1 rfb0_2 rfb0_3 rfb0_4 rfb1_0 rfb1_1 rfb1_2 rfb1_3 rfb1_4
  have fb0_0 : w19.cell? ⟨w1.heap.size, 0, none⟩ = some (Value.int IntKind.i64 a.kind) := b0.out.cell 0 rfl
  have fb0_1 : w19.cell? ⟨w1.heap.size, 1, none⟩ = some (Value.int IntKind.i64 a.n) := b0.out.cell 1 rfl
  have fb0_2 : w19.cell? ⟨w1.heap.size, 2, none⟩ = some (Value.string a.s) := b0.out.cell 2 rfl
  have fb0_3 : w19.cell? ⟨w1.heap.size, 3, none⟩ = some (Value.slice A3 a.list.length c3) := b0.out.cell 3 rfl
  have fb0_4 : w19.cell? ⟨w1.heap.size, 4, none⟩ = some (Value.slice A4 a.names.length c4) := b0.out.cell 4 rfl
  have fb0_z := b0.out.frozen
  have fb1_0 : w19.cell? ⟨w1.heap.size + 1, 0, none⟩ = some (Value.int IntKind.i64 b.kind) := b1.out.cell 0 rfl
  have fb1_1 : w19.cell? ⟨w1.heap.size + 1, 1, none⟩ = some (Value.int IntKind.i64 b.n) := b1.out.cell 1 rfl
  have fb1_2 : w19.cell? ⟨w1.heap.size + 1, 2, none⟩ = some (Value.string b.s) := b1.out.cell 2 rfl
  have fb1_3 : w19.cell? ⟨w1.heap.size + 1, 3, none⟩ = some (Value.slice B3 b.list.length e3) := b1.out.cell 3 rfl
  have fb1_4 : w19.cell? ⟨w1.heap.size + 1, 4, none⟩ = some (Value.slice B4 b.names.length e4) := b1.out.cell 4 rfl
  have fb1_z := b1.out.frozen
  go_wp2_with fail
  clear fb0_0 fb0_1 fb0_2 fb0_3 fb0_4 fb0_z fb1_0 fb1_1 fb1_2 fb1_3 fb1_4 fb1_z
  apply calls_gen; intro W20 hW
  have hz_ : w19.heap.size ≤ W20.heap.size := by rw [hW]; simp
  have hE : Below w19.heap.size w19 W20 := by rw [hW]; (repeat (first | with_reducible refine below_alloc ?_ _ | with_reducible refine below_drew ?_)); exact Below.refl _ _
  have hB := Hd.mk (below_then hB.out hE)
  have h1B := Hd.mk (below_then h1B.out hE)
  have b0 := Hd.mk (b0.out.below hE)
  have b1 := Hd.mk (b1.out.below hE)
  clear hW hE
  have z20 := Hd.mk hz_; clear hz_
  refine (spec_JsonSize a _ _ (Ty.K_below _ h1B.out HKA.out)).mono ?_
  rintro e w21 ⟨rfl, hX⟩
  have b0 := Hd.mk (b0.out.below hX)
  have b1 := Hd.mk (b1.out.below hX)
  have hB := Hd.mk (below_then hB.out hX)
  have hz_ := hX.size
  have h1B := Hd.mk (below_then h1B.out hX)
  clear hX
  have z21 := Hd.mk hz_; clear hz_
  rw [← HN.out]
  have fb0_0 : w21.cell? ⟨w1.heap.size, 0, none⟩ = some (Value.int IntKind.i64 a.kind) := b0.out.cell 0 rfl
  have fb0_1 : w21.cell? ⟨w1.heap.size, 1, none⟩ = some (Value.int IntKind.i64 a.n) := b0.out.cell 1 rfl
  have fb0_2 : w21.cell? ⟨w1.heap.size, 2, none⟩ = some (Value.string a.s) := b0.out.cell 2 rfl
  have fb0_3 : w21.cell? ⟨w1.heap.size, 3, none⟩ = some (Value.slice A3 a.list.length c3) := b0.out.cell 3 rfl
  have fb0_4 : w21.cell? ⟨w1.heap.size, 4, none⟩ = some (Value.slice A4 a.names.length c4) := b0.out.cell 4 rfl
  have fb0_z := b0.out.frozen
  have fb1_0 : w21.cell? ⟨w1.heap.size + 1, 0, none⟩ = some (Value.int IntKind.i64 b.kind) := b1.out.cell 0 rfl
  have fb1_1 : w21.cell? ⟨w1.heap.size + 1, 1, none⟩ = some (Value.int IntKind.i64 b.n) := b1.out.cell 1 rfl
  have fb1_2 : w21.cell? ⟨w1.heap.size + 1, 2, none⟩ = some (Value.string b.s) := b1.out.cell 2 rfl
  have fb1_3 : w21.cell? ⟨w1.heap.size + 1, 3, none⟩ = some (Value.slice B3 b.list.length e3) := b1.out.cell 3 rfl
  have fb1_4 : w21.cell? ⟨w1.heap.size + 1, 4, none⟩ = some (Value.slice B4 b.names.length e4) := b1.out.cell 4 rfl
  have fb1_z := b1.out.frozen
  go_wp2_with fail
  clear fb0_0 fb0_1 fb0_2 fb0_3 fb0_4 fb0_z fb1_0 fb1_1 fb1_2 fb1_3 fb1_4 fb1_z
  apply calls_gen; intro W22 hW
  have hz_ : w21.heap.size ≤ W22.heap.size := by rw [hW]; simp
  have hE : Below w21.heap.size w21 W22 := by rw [hW]; (repeat (first | with_reducible refine below_alloc ?_ _ | with_reducible refine below_drew ?_)); exact Below.refl _ _
  have hB := Hd.mk (below_then hB.out hE)
  have h1B := Hd.mk (below_then h1B.out hE)
  have b0 := Hd.mk (b0.out.below hE)
  have b1 := Hd.mk (b1.out.below hE)
  clear hW hE
  have z22 := Hd.mk hz_; clear hz_
  refine (spec_JsonDepth a _ _ (Ty.K_below _ h1B.out HKA.out)).mono ?_
  rintro e w23 ⟨rfl, hX⟩
  have b0 := Hd.mk (b0.out.below hX)
  have b1 := Hd.mk (b1.out.below hX)
  have hB := Hd.mk (below_then hB.out hX)
  have hz_ := hX.size
  have h1B := Hd.mk (below_then h1B.out hX)
  clear hX
  have z23 := Hd.mk hz_; clear hz_
  rw [← HD.out]
  cases sm
  · clear HEQ
    have fb0_0 : w23.cell? ⟨w1.heap.size, 0, none⟩ = some (Value.int IntKind.i64 a.kind) := b0.out.cell 0 rfl
    have fb0_1 : w23.cell? ⟨w1.heap.size, 1, none⟩ = some (Value.int IntKind.i64 a.n) := b0.out.cell 1 rfl
    have fb0_2 : w23.cell? ⟨w1.heap.size, 2, none⟩ = some (Value.string a.s) := b0.out.cell 2 rfl
    have fb0_3 : w23.cell? ⟨w1.heap.size, 3, none⟩ = some (Value.slice A3 a.list.length c3) := b0.out.cell 3 rfl
    have fb0_4 : w23.cell? ⟨w1.heap.size, 4, none⟩ = some (Value.slice A4 a.names.length c4) := b0.out.cell 4 rfl
    have fb0_z := b0.out.frozen
    have fb1_0 : w23.cell? ⟨w1.heap.size + 1, 0, none⟩ = some (Value.int IntKind.i64 b.kind) := b1.out.cell 0 rfl
    have fb1_1 : w23.cell? ⟨w1.heap.size + 1, 1, none⟩ = some (Value.int IntKind.i64 b.n) := b1.out.cell 1 rfl
    have fb1_2 : w23.cell? ⟨w1.heap.size + 1, 2, none⟩ = some (Value.string b.s) := b1.out.cell 2 rfl
    have fb1_3 : w23.cell? ⟨w1.heap.size + 1, 3, none⟩ = some (Value.slice B3 b.list.length e3) := b1.out.cell 3 rfl
    have fb1_4 : w23.cell? ⟨w1.heap.size + 1, 4, none⟩ = some (Value.slice B4 b.names.length e4) := b1.out.cell 4 rfl
    have fb1_z := b1.out.frozen
    go_wp2_with fail
    clear fb0_0 fb0_1 fb0_2 fb0_3 fb0_4 fb0_z fb1_0 fb1_1 fb1_2 fb1_3 fb1_4 fb1_z
    apply calls_gen; intro W24 hW
    have hz_ : w23.heap.size ≤ W24.heap.size := by rw [hW]; simp
    have hE : Below w23.heap.size w23 W24 := by rw [hW]; (repeat (first | with_reducible refine below_alloc ?_ _ | with_reducible refine below_drew ?_)); exact Below.refl _ _
    have hB := Hd.mk (below_then hB.out hE)
    have h1B := Hd.mk (below_then h1B.out hE)
    have b0 := Hd.mk (b0.out.below hE)
    have b1 := Hd.mk (b1.out.below hE)
    clear hW hE
    have z24 := Hd.mk hz_; clear hz_
    refine (spec_JsonOk a _ _ (Ty.K_below _ h1B.out HKA.out)).mono ?_
    rintro e w25 ⟨rfl, hX⟩
    have b0 := Hd.mk (b0.out.below hX)
    have b1 := Hd.mk (b1.out.below hX)
    have hB := Hd.mk (below_then hB.out hX)
    have hz_ := hX.size
    have h1B := Hd.mk (below_then h1B.out hX)
    clear hX
    have z25 := Hd.mk hz_; clear hz_
    rw [← HOK.out]
    cases ok
    · obtain ⟨q1, q2⟩ := jsonSize_no HOK.out.symm
      rw [← HN.out] at q1; rw [← HD.out] at q2
      clear hnn hdd
      obtain rfl := q1; obtain rfl := q2
      have fb0_0 : w25.cell? ⟨w1.heap.size, 0, none⟩ = some (Value.int IntKind.i64 a.kind) := b0.out.cell 0 rfl
      have fb0_1 : w25.cell? ⟨w1.heap.size, 1, none⟩ = some (Value.int IntKind.i64 a.n) := b0.out.cell 1 rfl
      have fb0_2 : w25.cell? ⟨w1.heap.size, 2, none⟩ = some (Value.string a.s) := b0.out.cell 2 rfl
      have fb0_3 : w25.cell? ⟨w1.heap.size, 3, none⟩ = some (Value.slice A3 a.list.length c3) := b0.out.cell 3 rfl
      have fb0_4 : w25.cell? ⟨w1.heap.size, 4, none⟩ = some (Value.slice A4 a.names.length c4) := b0.out.cell 4 rfl
      have fb0_z := b0.out.frozen
      have fb1_0 : w25.cell? ⟨w1.heap.size + 1, 0, none⟩ = some (Value.int IntKind.i64 b.kind) := b1.out.cell 0 rfl
      have fb1_1 : w25.cell? ⟨w1.heap.size + 1, 1, none⟩ = some (Value.int IntKind.i64 b.n) := b1.out.cell 1 rfl
      have fb1_2 : w25.cell? ⟨w1.heap.size + 1, 2, none⟩ = some (Value.string b.s) := b1.out.cell 2 rfl
      have fb1_3 : w25.cell? ⟨w1.heap.size + 1, 3, none⟩ = some (Value.slice B3 b.list.length e3) := b1.out.cell 3 rfl
      have fb1_4 : w25.cell? ⟨w1.heap.size + 1, 4, none⟩ = some (Value.slice B4 b.names.length e4) := b1.out.cell 4 rfl
      have fb1_z := b1.out.frozen
      go_wp2_with fail
      clear fb0_0 fb0_1 fb0_2 fb0_3 fb0_4 fb0_z fb1_0 fb1_1 fb1_2 fb1_3 fb1_4 fb1_z
      go_ret
      exact ⟨by rfl, hB.out⟩
    · have HSUM := Hd.mk (jsonSize_sum HOK.out.symm); rw [← HN.out] at HSUM
      have hdl := jsonDepth_le HOK.out.symm
      rw [← HN.out, ← HD.out] at hdl
      obtain ⟨hd1, hd2⟩ := hdl
      have fb0_0 : w25.cell? ⟨w1.heap.size, 0, none⟩ = some (Value.int IntKind.i64 a.kind) := b0.out.cell 0 rfl
      have fb0_1 : w25.cell? ⟨w1.heap.size, 1, none⟩ = some (Value.int IntKind.i64 a.n) := b0.out.cell 1 rfl
      have fb0_2 : w25.cell? ⟨w1.heap.size, 2, none⟩ = some (Value.string a.s) := b0.out.cell 2 rfl
      have fb0_3 : w25.cell? ⟨w1.heap.size, 3, none⟩ = some (Value.slice A3 a.list.length c3) := b0.out.cell 3 rfl
      have fb0_4 : w25.cell? ⟨w1.heap.size, 4, none⟩ = some (Value.slice A4 a.names.length c4) := b0.out.cell 4 rfl
      have fb0_z := b0.out.frozen
      have fb1_0 : w25.cell? ⟨w1.heap.size + 1, 0, none⟩ = some (Value.int IntKind.i64 b.kind) := b1.out.cell 0 rfl
      have fb1_1 : w25.cell? ⟨w1.heap.size + 1, 1, none⟩ = some (Value.int IntKind.i64 b.n) := b1.out.cell 1 rfl
      have fb1_2 : w25.cell? ⟨w1.heap.size + 1, 2, none⟩ = some (Value.string b.s) := b1.out.cell 2 rfl
      have fb1_3 : w25.cell? ⟨w1.heap.size + 1, 3, none⟩ = some (Value.slice B3 b.list.length e3) := b1.out.cell 3 rfl
      have fb1_4 : w25.cell? ⟨w1.heap.size + 1, 4, none⟩ = some (Value.slice B4 b.names.length e4) := b1.out.cell 4 rfl
      have fb1_z := b1.out.frozen
      go_wp2_with fail
      clear fb0_0 fb0_1 fb0_2 fb0_3 fb0_4 fb0_z fb1_0 fb1_1 fb1_2 fb1_3 fb1_4 fb1_z
      go_loopw [8, 9] (fun s i wr => ∃ (k : Nat) (x : Int), k ≤ a.list.length ∧ s = .int .i64 x ∧ i = .int .i64 k ∧ Hd (x = 1 + sumZ jsonSize (a.list.take k)) ∧ Hd (Blk wr w1.heap.size #[Value.int IntKind.i64 a.kind, Value.int IntKind.i64 a.n, Value.string a.s, Value.slice A3 a.list.length c3, Value.slice A4 a.names.length c4] 27) ∧ Hd (Below w1.heap.size w1 wr) ∧ Hd (Below w.heap.size w wr) ∧ Hd (w25.heap.size ≤ wr.heap.size)) (fun _ i _ => a.list.length - (intOf i).toNat)
      case atStart => exact ⟨0, 1, Nat.zero_le _, rfl, rfl, ⟨rfl⟩, b0, h1B, hB, ⟨Nat.le_refl _⟩⟩
      case round =>
        clear b0 b1 h1B hB
        obtain ⟨k, x, hk, rfl, rfl, hx, b0, h1B, hB, hzw⟩ := hrel
        have hk0 : (0 : Int) ≤ (k : Int) := by omega
        have hxb := sumZ_take_le jsonSize (fun x => (jsonSize_b x).1) a.list k
        have hxq : x ≤ 401 ∧ 0 ≤ x := by have h1 := hx.out; have h2 := HSUM.out; omega
        clear hxb
        by_cases hlt : k < a.list.length
        · obtain ⟨ad, cs0, rfl, hK0, e0, e1⟩ := C_at HC3.out h1B.out k hlt
          obtain ⟨D3, d3, D4, d4, rfl, _⟩ := tJ_K.1 hK0
          have HKx := Hd.mk hK0; clear hK0
          have hxs := sumZ_step jsonSize a.list k hlt
          have hvb := jsonSize_b a.list[k]
          obtain ⟨v, hv⟩ : ∃ z, z = jsonSize a.list[k] := ⟨_, rfl⟩
          rw [← hv] at hxs hvb
          have HV := Hd.mk hv; clear hv
          have HXS := Hd.mk hxs; clear hxs
          have x0 : wr.cell? (ad.add (k * 5)) = some (Value.int IntKind.i64 a.list[k].kind) := e0 _ rfl
          have x1 : wr.cell? ⟨(ad.add (k * 5)).block, (ad.add (k * 5)).off + 1, none⟩ = some (Value.int IntKind.i64 a.list[k].n) := e1 0 _ rfl
          have x2 : wr.cell? ⟨(ad.add (k * 5)).block, (ad.add (k * 5)).off + 2, none⟩ = some (Value.string a.list[k].s) := e1 1 _ rfl
          have x3 : wr.cell? ⟨(ad.add (k * 5)).block, (ad.add (k * 5)).off + 3, none⟩ = some (Value.slice D3 a.list[k].list.length d3) := e1 2 _ rfl
          have x4 : wr.cell? ⟨(ad.add (k * 5)).block, (ad.add (k * 5)).off + 4, none⟩ = some (Value.slice D4 a.list[k].names.length d4) := e1 3 _ rfl
          clear e0 e1
          have fb0_0 : wr.cell? ⟨w1.heap.size, 0, none⟩ = some (Value.int IntKind.i64 a.kind) := b0.out.cell 0 rfl
          have fb0_1 : wr.cell? ⟨w1.heap.size, 1, none⟩ = some (Value.int IntKind.i64 a.n) := b0.out.cell 1 rfl
          have fb0_2 : wr.cell? ⟨w1.heap.size, 2, none⟩ = some (Value.string a.s) := b0.out.cell 2 rfl
          have fb0_3 : wr.cell? ⟨w1.heap.size, 3, none⟩ = some (Value.slice (some ad) a.list.length c3) := b0.out.cell 3 rfl
          have fb0_4 : wr.cell? ⟨w1.heap.size, 4, none⟩ = some (Value.slice A4 a.names.length c4) := b0.out.cell 4 rfl
          have fb0_z := b0.out.frozen
          go_wp2_with fail
          clear fb0_0 fb0_1 fb0_2 fb0_3 fb0_4 fb0_z
          clear x0 x1 x2 x3 x4
          refine (impl_JsonSize a.list[k] _ _ HKx.out).mono ?_
          rintro e w26 ⟨rfl, hX⟩
          have b0 := Hd.mk (b0.out.below hX)
          have hB := Hd.mk (below_then hB.out hX)
          have hz_ := hX.size
          have h1B := Hd.mk (below_then h1B.out hX)
          clear hX
          have z26 := Hd.mk hz_; clear hz_
          rw [← HV.out]
          go_wp2_with fail
          go_roundw
          case rel => exact ⟨k + 1, x + v, by omega, by go_num, by go_num, ⟨by have h1 := hx.out; have h2 := HXS.out; omega⟩, b0, h1B, hB, ⟨by have z1_ := z1.out; have z2_ := z2.out; have z3_ := z3.out; have z4_ := z4.out; have z5_ := z5.out; have z6_ := z6.out; have z7_ := z7.out; have z8_ := z8.out; have z9_ := z9.out; have z10_ := z10.out; have z11_ := z11.out; have z12_ := z12.out; have z13_ := z13.out; have z14_ := z14.out; have z15_ := z15.out; have z16_ := z16.out; have z17_ := z17.out; have z18_ := z18.out; have z19_ := z19.out; have z20_ := z20.out; have z21_ := z21.out; have z22_ := z22.out; have z23_ := z23.out; have z24_ := z24.out; have z25_ := z25.out; have hzw_ := hzw.out; have z26_ := z26.out; show w25.heap.size ≤ w26.heap.size; omega⟩⟩
          case measure => simp [intOf]; omega
        · obtain rfl : k = a.list.length := by omega
          have hxn : x = n := by have h1 := hx.out; rw [List.take_length] at h1; have h2 := HSUM.out; omega
          clear hx hxq
          subst hxn
          have hq1 : decide (1 ≤ d) = true := decide_eq_true hd1
          have hq2 : decide (d ≤ x) = true := decide_eq_true hd2
          have fb0_0 : wr.cell? ⟨w1.heap.size, 0, none⟩ = some (Value.int IntKind.i64 a.kind) := b0.out.cell 0 rfl
          have fb0_1 : wr.cell? ⟨w1.heap.size, 1, none⟩ = some (Value.int IntKind.i64 a.n) := b0.out.cell 1 rfl
          have fb0_2 : wr.cell? ⟨w1.heap.size, 2, none⟩ = some (Value.string a.s) := b0.out.cell 2 rfl
          have fb0_3 : wr.cell? ⟨w1.heap.size, 3, none⟩ = some (Value.slice A3 a.list.length c3) := b0.out.cell 3 rfl
          have fb0_4 : wr.cell? ⟨w1.heap.size, 4, none⟩ = some (Value.slice A4 a.names.length c4) := b0.out.cell 4 rfl
          have fb0_z := b0.out.frozen
          go_wp2_with fail
          clear fb0_0 fb0_1 fb0_2 fb0_3 fb0_4 fb0_z
          go_ret
          exact ⟨by simp [hd1, hd2], hB.out⟩
  · have hab := HEQ.out rfl
    have HNB := Hd.mk (show n = jsonSize b by rw [← hab]; exact HN.out)
    have HDB := Hd.mk (show d = jsonDepth b by rw [← hab]; exact HD.out)
    clear hab HEQ
    have fb0_0 : w23.cell? ⟨w1.heap.size, 0, none⟩ = some (Value.int IntKind.i64 a.kind) := b0.out.cell 0 rfl
    have fb0_1 : w23.cell? ⟨w1.heap.size, 1, none⟩ = some (Value.int IntKind.i64 a.n) := b0.out.cell 1 rfl
    have fb0_2 : w23.cell? ⟨w1.heap.size, 2, none⟩ = some (Value.string a.s) := b0.out.cell 2 rfl
    have fb0_3 : w23.cell? ⟨w1.heap.size, 3, none⟩ = some (Value.slice A3 a.list.length c3) := b0.out.cell 3 rfl
    have fb0_4 : w23.cell? ⟨w1.heap.size, 4, none⟩ = some (Value.slice A4 a.names.length c4) := b0.out.cell 4 rfl
    have fb0_z := b0.out.frozen
    have fb1_0 : w23.cell? ⟨w1.heap.size + 1, 0, none⟩ = some (Value.int IntKind.i64 b.kind) := b1.out.cell 0 rfl
    have fb1_1 : w23.cell? ⟨w1.heap.size + 1, 1, none⟩ = some (Value.int IntKind.i64 b.n) := b1.out.cell 1 rfl
    have fb1_2 : w23.cell? ⟨w1.heap.size + 1, 2, none⟩ = some (Value.string b.s) := b1.out.cell 2 rfl
    have fb1_3 : w23.cell? ⟨w1.heap.size + 1, 3, none⟩ = some (Value.slice B3 b.list.length e3) := b1.out.cell 3 rfl
    have fb1_4 : w23.cell? ⟨w1.heap.size + 1, 4, none⟩ = some (Value.slice B4 b.names.length e4) := b1.out.cell 4 rfl
    have fb1_z := b1.out.frozen
    go_wp2_with fail
    clear fb0_0 fb0_1 fb0_2 fb0_3 fb0_4 fb0_z fb1_0 fb1_1 fb1_2 fb1_3 fb1_4 fb1_z
    apply calls_gen; intro W24 hW
    have hz_ : w23.heap.size ≤ W24.heap.size := by rw [hW]; simp
    have hE : Below w23.heap.size w23 W24 := by rw [hW]; (repeat (first | with_reducible refine below_alloc ?_ _ | with_reducible refine below_drew ?_)); exact Below.refl _ _
    have hB := Hd.mk (below_then hB.out hE)
    have h1B := Hd.mk (below_then h1B.out hE)
    have b0 := Hd.mk (b0.out.below hE)
    have b1 := Hd.mk (b1.out.below hE)
    clear hW hE
    have z24 := Hd.mk hz_; clear hz_
    refine (impl_JsonSize b _ _ (Ty.K_below _ h1B.out HKB.out)).mono ?_
    rintro e w25 ⟨rfl, hX⟩
    have b0 := Hd.mk (b0.out.below hX)
    have b1 := Hd.mk (b1.out.below hX)
    have hB := Hd.mk (below_then hB.out hX)
    have hz_ := hX.size
    have h1B := Hd.mk (below_then h1B.out hX)
    clear hX
    have z25 := Hd.mk hz_; clear hz_
    rw [← HNB.out]
    have fb0_0 : w25.cell? ⟨w1.heap.size, 0, none⟩ = some (Value.int IntKind.i64 a.kind) := b0.out.cell 0 rfl
    have fb0_1 : w25.cell? ⟨w1.heap.size, 1, none⟩ = some (Value.int IntKind.i64 a.n) := b0.out.cell 1 rfl
    have fb0_2 : w25.cell? ⟨w1.heap.size, 2, none⟩ = some (Value.string a.s) := b0.out.cell 2 rfl
    have fb0_3 : w25.cell? ⟨w1.heap.size, 3, none⟩ = some (Value.slice A3 a.list.length c3) := b0.out.cell 3 rfl
    have fb0_4 : w25.cell? ⟨w1.heap.size, 4, none⟩ = some (Value.slice A4 a.names.length c4) := b0.out.cell 4 rfl
    have fb0_z := b0.out.frozen
    have fb1_0 : w25.cell? ⟨w1.heap.size + 1, 0, none⟩ = some (Value.int IntKind.i64 b.kind) := b1.out.cell 0 rfl
    have fb1_1 : w25.cell? ⟨w1.heap.size + 1, 1, none⟩ = some (Value.int IntKind.i64 b.n) := b1.out.cell 1 rfl
    have fb1_2 : w25.cell? ⟨w1.heap.size + 1, 2, none⟩ = some (Value.string b.s) := b1.out.cell 2 rfl
    have fb1_3 : w25.cell? ⟨w1.heap.size + 1, 3, none⟩ = some (Value.slice B3 b.list.length e3) := b1.out.cell 3 rfl
    have fb1_4 : w25.cell? ⟨w1.heap.size + 1, 4, none⟩ = some (Value.slice B4 b.names.length e4) := b1.out.cell 4 rfl
    have fb1_z := b1.out.frozen
    go_wp2_with fail
    clear fb0_0 fb0_1 fb0_2 fb0_3 fb0_4 fb0_z fb1_0 fb1_1 fb1_2 fb1_3 fb1_4 fb1_z
    apply calls_gen; intro W26 hW
    have hz_ : w25.heap.size ≤ W26.heap.size := by rw [hW]; simp
    have hE : Below w25.heap.size w25 W26 := by rw [hW]; (repeat (first | with_reducible refine below_alloc ?_ _ | with_reducible refine below_drew ?_)); exact Below.refl _ _
    have hB := Hd.mk (below_then hB.out hE)
    have h1B := Hd.mk (below_then h1B.out hE)
    have b0 := Hd.mk (b0.out.below hE)
    have b1 := Hd.mk (b1.out.below hE)
    clear hW hE
    have z26 := Hd.mk hz_; clear hz_
    refine (impl_JsonDepth b _ _ (Ty.K_below _ h1B.out HKB.out)).mono ?_
    rintro e w27 ⟨rfl, hX⟩
    have b0 := Hd.mk (b0.out.below hX)
    have b1 := Hd.mk (b1.out.below hX)
    have hB := Hd.mk (below_then hB.out hX)
    have hz_ := hX.size
    have h1B := Hd.mk (below_then h1B.out hX)
    clear hX
    have z27 := Hd.mk hz_; clear hz_
    rw [← HDB.out]
    have fb0_0 : w27.cell? ⟨w1.heap.size, 0, none⟩ = some (Value.int IntKind.i64 a.kind) := b0.out.cell 0 rfl
    have fb0_1 : w27.cell? ⟨w1.heap.size, 1, none⟩ = some (Value.int IntKind.i64 a.n) := b0.out.cell 1 rfl
    have fb0_2 : w27.cell? ⟨w1.heap.size, 2, none⟩ = some (Value.string a.s) := b0.out.cell 2 rfl
    have fb0_3 : w27.cell? ⟨w1.heap.size, 3, none⟩ = some (Value.slice A3 a.list.length c3) := b0.out.cell 3 rfl
    have fb0_4 : w27.cell? ⟨w1.heap.size, 4, none⟩ = some (Value.slice A4 a.names.length c4) := b0.out.cell 4 rfl
    have fb0_z := b0.out.frozen
    have fb1_0 : w27.cell? ⟨w1.heap.size + 1, 0, none⟩ = some (Value.int IntKind.i64 b.kind) := b1.out.cell 0 rfl
    have fb1_1 : w27.cell? ⟨w1.heap.size + 1, 1, none⟩ = some (Value.int IntKind.i64 b.n) := b1.out.cell 1 rfl
    have fb1_2 : w27.cell? ⟨w1.heap.size + 1, 2, none⟩ = some (Value.string b.s) := b1.out.cell 2 rfl
    have fb1_3 : w27.cell? ⟨w1.heap.size + 1, 3, none⟩ = some (Value.slice B3 b.list.length e3) := b1.out.cell 3 rfl
    have fb1_4 : w27.cell? ⟨w1.heap.size + 1, 4, none⟩ = some (Value.slice B4 b.names.length e4) := b1.out.cell 4 rfl
    have fb1_z := b1.out.frozen
    go_wp2_with fail
    clear fb0_0 fb0_1 fb0_2 fb0_3 fb0_4 fb0_z fb1_0 fb1_1 fb1_2 fb1_3 fb1_4 fb1_z
    apply calls_gen; intro W28 hW
    have hz_ : w27.heap.size ≤ W28.heap.size := by rw [hW]; simp
    have hE : Below w27.heap.size w27 W28 := by rw [hW]; (repeat (first | with_reducible refine below_alloc ?_ _ | with_reducible refine below_drew ?_)); exact Below.refl _ _
    have hB := Hd.mk (below_then hB.out hE)
    have h1B := Hd.mk (below_then h1B.out hE)
    have b0 := Hd.mk (b0.out.below hE)
    have b1 := Hd.mk (b1.out.below hE)
    clear hW hE
    have z28 := Hd.mk hz_; clear hz_
    refine (spec_JsonOk a _ _ (Ty.K_below _ h1B.out HKA.out)).mono ?_
    rintro e w29 ⟨rfl, hX⟩
    have b0 := Hd.mk (b0.out.below hX)
    have b1 := Hd.mk (b1.out.below hX)
    have hB := Hd.mk (below_then hB.out hX)
    have hz_ := hX.size
    have h1B := Hd.mk (below_then h1B.out hX)
    clear hX
    have z29 := Hd.mk hz_; clear hz_
    rw [← HOK.out]
    cases ok
    · obtain ⟨q1, q2⟩ := jsonSize_no HOK.out.symm
      rw [← HN.out] at q1; rw [← HD.out] at q2
      clear hnn hdd
      obtain rfl := q1; obtain rfl := q2
      have fb0_0 : w29.cell? ⟨w1.heap.size, 0, none⟩ = some (Value.int IntKind.i64 a.kind) := b0.out.cell 0 rfl
      have fb0_1 : w29.cell? ⟨w1.heap.size, 1, none⟩ = some (Value.int IntKind.i64 a.n) := b0.out.cell 1 rfl
      have fb0_2 : w29.cell? ⟨w1.heap.size, 2, none⟩ = some (Value.string a.s) := b0.out.cell 2 rfl
      have fb0_3 : w29.cell? ⟨w1.heap.size, 3, none⟩ = some (Value.slice A3 a.list.length c3) := b0.out.cell 3 rfl
      have fb0_4 : w29.cell? ⟨w1.heap.size, 4, none⟩ = some (Value.slice A4 a.names.length c4) := b0.out.cell 4 rfl
      have fb0_z := b0.out.frozen
      have fb1_0 : w29.cell? ⟨w1.heap.size + 1, 0, none⟩ = some (Value.int IntKind.i64 b.kind) := b1.out.cell 0 rfl
      have fb1_1 : w29.cell? ⟨w1.heap.size + 1, 1, none⟩ = some (Value.int IntKind.i64 b.n) := b1.out.cell 1 rfl
      have fb1_2 : w29.cell? ⟨w1.heap.size + 1, 2, none⟩ = some (Value.string b.s) := b1.out.cell 2 rfl
      have fb1_3 : w29.cell? ⟨w1.heap.size + 1, 3, none⟩ = some (Value.slice B3 b.list.length e3) := b1.out.cell 3 rfl
      have fb1_4 : w29.cell? ⟨w1.heap.size + 1, 4, none⟩ = some (Value.slice B4 b.names.length e4) := b1.out.cell 4 rfl
      have fb1_z := b1.out.frozen
      go_wp2_with fail
      clear fb0_0 fb0_1 fb0_2 fb0_3 fb0_4 fb0_z fb1_0 fb1_1 fb1_2 fb1_3 fb1_4 fb1_z
      go_ret
      exact ⟨by rfl, hB.out⟩
    · have HSUM := Hd.mk (jsonSize_sum HOK.out.symm); rw [← HN.out] at HSUM
      have hdl := jsonDepth_le HOK.out.symm
      rw [← HN.out, ← HD.out] at hdl
      obtain ⟨hd1, hd2⟩ := hdl
      have fb0_0 : w29.cell? ⟨w1.heap.size, 0, none⟩ = some (Value.int IntKind.i64 a.kind) := b0.out.cell 0 rfl
      have fb0_1 : w29.cell? ⟨w1.heap.size, 1, none⟩ = some (Value.int IntKind.i64 a.n) := b0.out.cell 1 rfl
      have fb0_2 : w29.cell? ⟨w1.heap.size, 2, none⟩ = some (Value.string a.s) := b0.out.cell 2 rfl
      have fb0_3 : w29.cell? ⟨w1.heap.size, 3, none⟩ = some (Value.slice A3 a.list.length c3) := b0.out.cell 3 rfl
      have fb0_4 : w29.cell? ⟨w1.heap.size, 4, none⟩ = some (Value.slice A4 a.names.length c4) := b0.out.cell 4 rfl
      have fb0_z := b0.out.frozen
      have fb1_0 : w29.cell? ⟨w1.heap.size + 1, 0, none⟩ = some (Value.int IntKind.i64 b.kind) := b1.out.cell 0 rfl
      have fb1_1 : w29.cell? ⟨w1.heap.size + 1, 1, none⟩ = some (Value.int IntKind.i64 b.n) := b1.out.cell 1 rfl
      have fb1_2 : w29.cell? ⟨w1.heap.size + 1, 2, none⟩ = some (Value.string b.s) := b1.out.cell 2 rfl
      have fb1_3 : w29.cell? ⟨w1.heap.size + 1, 3, none⟩ = some (Value.slice B3 b.list.length e3) := b1.out.cell 3 rfl
      have fb1_4 : w29.cell? ⟨w1.heap.size + 1, 4, none⟩ = some (Value.slice B4 b.names.length e4) := b1.out.cell 4 rfl
      have fb1_z := b1.out.frozen
      go_wp2_with fail
      clear fb0_0 fb0_1 fb0_2 fb0_3 fb0_4 fb0_z fb1_0 fb1_1 fb1_2 fb1_3 fb1_4 fb1_z
      go_loopw [8, 9] (fun s i wr => ∃ (k : Nat) (x : Int), k ≤ a.list.length ∧ s = .int .i64 x ∧ i = .int .i64 k ∧ Hd (x = 1 + sumZ jsonSize (a.list.take k)) ∧ Hd (Blk wr w1.heap.size #[Value.int IntKind.i64 a.kind, Value.int IntKind.i64 a.n, Value.string a.s, Value.slice A3 a.list.length c3, Value.slice A4 a.names.length c4] 27) ∧ Hd (Below w1.heap.size w1 wr) ∧ Hd (Below w.heap.size w wr) ∧ Hd (w29.heap.size ≤ wr.heap.size)) (fun _ i _ => a.list.length - (intOf i).toNat)
      case atStart => exact ⟨0, 1, Nat.zero_le _, rfl, rfl, ⟨rfl⟩, b0, h1B, hB, ⟨Nat.le_refl _⟩⟩
      case round =>
        clear b0 b1 h1B hB
        obtain ⟨k, x, hk, rfl, rfl, hx, b0, h1B, hB, hzw⟩ := hrel
        have hk0 : (0 : Int) ≤ (k : Int) := by omega
        have hxb := sumZ_take_le jsonSize (fun x => (jsonSize_b x).1) a.list k
        have hxq : x ≤ 401 ∧ 0 ≤ x := by have h1 := hx.out; have h2 := HSUM.out; omega
        clear hxb
        by_cases hlt : k < a.list.length
        · obtain ⟨ad, cs0, rfl, hK0, e0, e1⟩ := C_at HC3.out h1B.out k hlt
          obtain ⟨D3, d3, D4, d4, rfl, _⟩ := tJ_K.1 hK0
          have HKx := Hd.mk hK0; clear hK0
          have hxs := sumZ_step jsonSize a.list k hlt
          have hvb := jsonSize_b a.list[k]
          obtain ⟨v, hv⟩ : ∃ z, z = jsonSize a.list[k] := ⟨_, rfl⟩
          rw [← hv] at hxs hvb
          have HV := Hd.mk hv; clear hv
          have HXS := Hd.mk hxs; clear hxs
          have x0 : wr.cell? (ad.add (k * 5)) = some (Value.int IntKind.i64 a.list[k].kind) := e0 _ rfl
          have x1 : wr.cell? ⟨(ad.add (k * 5)).block, (ad.add (k * 5)).off + 1, none⟩ = some (Value.int IntKind.i64 a.list[k].n) := e1 0 _ rfl
          have x2 : wr.cell? ⟨(ad.add (k * 5)).block, (ad.add (k * 5)).off + 2, none⟩ = some (Value.string a.list[k].s) := e1 1 _ rfl
          have x3 : wr.cell? ⟨(ad.add (k * 5)).block, (ad.add (k * 5)).off + 3, none⟩ = some (Value.slice D3 a.list[k].list.length d3) := e1 2 _ rfl
          have x4 : wr.cell? ⟨(ad.add (k * 5)).block, (ad.add (k * 5)).off + 4, none⟩ = some (Value.slice D4 a.list[k].names.length d4) := e1 3 _ rfl
          clear e0 e1
          have fb0_0 : wr.cell? ⟨w1.heap.size, 0, none⟩ = some (Value.int IntKind.i64 a.kind) := b0.out.cell 0 rfl
          have fb0_1 : wr.cell? ⟨w1.heap.size, 1, none⟩ = some (Value.int IntKind.i64 a.n) := b0.out.cell 1 rfl
          have fb0_2 : wr.cell? ⟨w1.heap.size, 2, none⟩ = some (Value.string a.s) := b0.out.cell 2 rfl
          have fb0_3 : wr.cell? ⟨w1.heap.size, 3, none⟩ = some (Value.slice (some ad) a.list.length c3) := b0.out.cell 3 rfl
          have fb0_4 : wr.cell? ⟨w1.heap.size, 4, none⟩ = some (Value.slice A4 a.names.length c4) := b0.out.cell 4 rfl
          have fb0_z := b0.out.frozen
          go_wp2_with fail
          clear fb0_0 fb0_1 fb0_2 fb0_3 fb0_4 fb0_z
          clear x0 x1 x2 x3 x4
          refine (impl_JsonSize a.list[k] _ _ HKx.out).mono ?_
          rintro e w30 ⟨rfl, hX⟩
          have b0 := Hd.mk (b0.out.below hX)
          have hB := Hd.mk (below_then hB.out hX)
          have hz_ := hX.size
          have h1B := Hd.mk (below_then h1B.out hX)
          clear hX
          have z30 := Hd.mk hz_; clear hz_
          rw [← HV.out]
          go_wp2_with fail
          go_roundw
          case rel => exact ⟨k + 1, x + v, by omega, by go_num, by go_num, ⟨by have h1 := hx.out; have h2 := HXS.out; omega⟩, b0, h1B, hB, ⟨by have z1_ := z1.out; have z2_ := z2.out; have z3_ := z3.out; have z4_ := z4.out; have z5_ := z5.out; have z6_ := z6.out; have z7_ := z7.out; have z8_ := z8.out; have z9_ := z9.out; have z10_ := z10.out; have z11_ := z11.out; have z12_ := z12.out; have z13_ := z13.out; have z14_ := z14.out; have z15_ := z15.out; have z16_ := z16.out; have z17_ := z17.out; have z18_ := z18.out; have z19_ := z19.out; have z20_ := z20.out; have z21_ := z21.out; have z22_ := z22.out; have z23_ := z23.out; have z24_ := z24.out; have z25_ := z25.out; have z26_ := z26.out; have z27_ := z27.out; have z28_ := z28.out; have z29_ := z29.out; have hzw_ := hzw.out; have z30_ := z30.out; show w29.heap.size ≤ w30.heap.size; omega⟩⟩
          case measure => simp [intOf]; omega
        · obtain rfl : k = a.list.length := by omega
          have hxn : x = n := by have h1 := hx.out; rw [List.take_length] at h1; have h2 := HSUM.out; omega
          clear hx hxq
          subst hxn
          have hq1 : decide (1 ≤ d) = true := decide_eq_true hd1
          have hq2 : decide (d ≤ x) = true := decide_eq_true hd2
          have fb0_0 : wr.cell? ⟨w1.heap.size, 0, none⟩ = some (Value.int IntKind.i64 a.kind) := b0.out.cell 0 rfl
          have fb0_1 : wr.cell? ⟨w1.heap.size, 1, none⟩ = some (Value.int IntKind.i64 a.n) := b0.out.cell 1 rfl
          have fb0_2 : wr.cell? ⟨w1.heap.size, 2, none⟩ = some (Value.string a.s) := b0.out.cell 2 rfl
          have fb0_3 : wr.cell? ⟨w1.heap.size, 3, none⟩ = some (Value.slice A3 a.list.length c3) := b0.out.cell 3 rfl
          have fb0_4 : wr.cell? ⟨w1.heap.size, 4, none⟩ = some (Value.slice A4 a.names.length c4) := b0.out.cell 4 rfl
          have fb0_z := b0.out.frozen
          go_wp2_with fail
          clear fb0_0 fb0_1 fb0_2 fb0_3 fb0_4 fb0_z
          go_ret
          exact ⟨by simp [hd1, hd2], hB.out⟩
end Go.Proofs.Ytlkjpnlpankhpaa.X
