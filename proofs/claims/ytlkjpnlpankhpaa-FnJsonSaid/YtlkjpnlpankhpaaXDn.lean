/- What is proved here: two values are drawn. Conditions: none. -/
import Derived.Test.YtlkjpnlpankhpaaXDm
import Derived.Test.YtlkjpnlpankhpaaXY
namespace Go.Proofs.Ytlkjpnlpankhpaa.X
open Go.RowKit Go.Sort
set_option linter.unusedVariables false
set_option linter.unusedSimpArgs false
open Ty
set_option maxHeartbeats 8000000 in
set_option maxRecDepth 100000 in
theorem spec_l1DrawTwo (A : Option Addr) (c : Nat) (bs : List Int) (w : World) (hr : u8.C w A bs) (hbs : bs.length ≤ 1048576) :
    Calls Try.prog 35 #[.slice A bs.length c] w fun e w' => ∃ (j j2 : J) (cs cs2 : List Value), e = .returned (.tuple #[.agg cs.toArray, .agg cs2.toArray]) ∧ (tJ 9).O w' (fun k => w.heap.size ≤ k) j cs ∧ (tJ 9).O w' (fun k => w.heap.size ≤ k) j2 cs2 ∧ (∀ m, bulkJ m j ≤ 30000) ∧ (∀ m, bulkJ m j2 ≤ 30000) ∧ Below w.heap.size w w' := by
  have HBS := Hd.mk hr; clear hr
  have hB := Hd.mk (Below.refl w.heap.size w)
  go_enter Try.func35, Try.ntmps35
  go_wp2_with fail
  apply calls_gen; intro W1 hW
  have hz_ : w.heap.size + 2 ≤ W1.heap.size := by rw [hW]; simp
  have hE : Below w.heap.size w W1 := by rw [hW]; (repeat (first | with_reducible refine below_alloc ?_ _ | with_reducible refine below_drew ?_)); exact Below.refl _ _
  have hB := Hd.mk (below_then hB.out hE)
  have b0 := Hd.mk (show Blk W1 (w.heap.size) #[Value.int IntKind.i64 0, Value.int IntKind.i64 0, Value.string ⟨#[]⟩, Value.slice none 0 0, Value.slice none 0 0] 27 by rw [hW]; first | exact ((Blk.new _ _ _).alloc _) | (simpa using ((Blk.new _ _ _).alloc _)))
  have b1 := Hd.mk (show Blk W1 (w.heap.size + 1) #[Value.int IntKind.i64 0, Value.int IntKind.i64 0, Value.string ⟨#[]⟩, Value.slice none 0 0, Value.slice none 0 0] 27 by rw [hW]; first | exact (Blk.new1 _ _ _ _) | (simpa using (Blk.new1 _ _ _ _)))
  clear hW hE
  have z1 := Hd.mk hz_; clear hz_
  refine (spec_l1New _ _ bs w W1 HBS.out hbs hB.out).mono ?_
  rintro e w2 ⟨g, rfl, hge, hC1, hX⟩
  have b0 := Hd.mk (b0.out.below hX)
  have b1 := Hd.mk (b1.out.below hX)
  have hG := Hd.mk (show W1.heap.size ≤ g ∧ g < w2.heap.size from ⟨hge, hC1.lt⟩)
  have hC := Hd.mk hC1; clear hC1 hge
  have hB := Hd.mk (below_then hB.out hX)
  have hz_ := hX.size
  clear hX
  have z2 := Hd.mk hz_; clear hz_
  have fb0_0 : w2.cell? ⟨w.heap.size, 0, none⟩ = some (Value.int IntKind.i64 0) := b0.out.cell 0 rfl
  have fb0_1 : w2.cell? ⟨w.heap.size, 1, none⟩ = some (Value.int IntKind.i64 0) := b0.out.cell 1 rfl
  have fb0_2 : w2.cell? ⟨w.heap.size, 2, none⟩ = some (Value.string ⟨#[]⟩) := b0.out.cell 2 rfl
  have fb0_3 : w2.cell? ⟨w.heap.size, 3, none⟩ = some (Value.slice none 0 0) := b0.out.cell 3 rfl
  have fb0_4 : w2.cell? ⟨w.heap.size, 4, none⟩ = some (Value.slice none 0 0) := b0.out.cell 4 rfl
  have fb0_z := b0.out.frozen
  have fb1_0 : w2.cell? ⟨w.heap.size + 1, 0, none⟩ = some (Value.int IntKind.i64 0) := b1.out.cell 0 rfl
  have fb1_1 : w2.cell? ⟨w.heap.size + 1, 1, none⟩ = some (Value.int IntKind.i64 0) := b1.out.cell 1 rfl
  have fb1_2 : w2.cell? ⟨w.heap.size + 1, 2, none⟩ = some (Value.string ⟨#[]⟩) := b1.out.cell 2 rfl
  have fb1_3 : w2.cell? ⟨w.heap.size + 1, 3, none⟩ = some (Value.slice none 0 0) := b1.out.cell 3 rfl
  have fb1_4 : w2.cell? ⟨w.heap.size + 1, 4, none⟩ = some (Value.slice none 0 0) := b1.out.cell 4 rfl
  have fb1_z := b1.out.frozen
  go_wp2_with fail
  clear fb0_0 fb0_1 fb0_2 fb0_3 fb0_4 fb0_z fb1_0 fb1_1 fb1_2 fb1_3 fb1_4 fb1_z
  refine (spec_l1Draw w _ g hC.out).mono ?_
  rintro e w3 ⟨j, cs, rfl, hBK, hO, hC1, hX⟩
  have hC := Hd.mk hC1; clear hC1
  have hSz0 := hB.out.size
  have hg_ := hG.out
  have z1_ := z1.out; have z2_ := z2.out
  have b0 := Hd.mk (b0.out.fr hX (fun h => by skip; (try simp only at h); omega))
  have b1 := Hd.mk (b1.out.fr hX (fun h => by skip; (try simp only at h); omega))
  have hB := Hd.mk (below_frS hB.out hX (fun k h => by (try simp only at h); omega))
  have hz_ := hX.size
  clear hSz0 hg_ hX
  have z3 := Hd.mk hz_; clear hz_
  replace hBK := Hd.mk hBK
  obtain ⟨av3, av4, _, _, rfl, _, ar3, ar4, _⟩ := tJ_O.1 hO
  obtain ⟨aD3, ad3, rfl, _, _⟩ := R_C ar3
  obtain ⟨aD4, ad4, rfl, _, _⟩ := R_C ar4
  clear ar3 ar4
  replace hO := Hd.mk (show (tJ 9).O w3 (rng w2.heap.size w3.heap.size) j _ from Ty.O_bound _ hO)
  have z1_ := z1.out; have z2_ := z2.out; have z3_ := z3.out
  have hgx := hG.out
  have fb0_0 : w3.cell? ⟨w.heap.size, 0, none⟩ = some (Value.int IntKind.i64 0) := b0.out.cell 0 rfl
  have fb0_1 : w3.cell? ⟨w.heap.size, 1, none⟩ = some (Value.int IntKind.i64 0) := b0.out.cell 1 rfl
  have fb0_2 : w3.cell? ⟨w.heap.size, 2, none⟩ = some (Value.string ⟨#[]⟩) := b0.out.cell 2 rfl
  have fb0_3 : w3.cell? ⟨w.heap.size, 3, none⟩ = some (Value.slice none 0 0) := b0.out.cell 3 rfl
  have fb0_4 : w3.cell? ⟨w.heap.size, 4, none⟩ = some (Value.slice none 0 0) := b0.out.cell 4 rfl
  have fb0_z := b0.out.frozen
  have fb1_0 : w3.cell? ⟨w.heap.size + 1, 0, none⟩ = some (Value.int IntKind.i64 0) := b1.out.cell 0 rfl
  have fb1_1 : w3.cell? ⟨w.heap.size + 1, 1, none⟩ = some (Value.int IntKind.i64 0) := b1.out.cell 1 rfl
  have fb1_2 : w3.cell? ⟨w.heap.size + 1, 2, none⟩ = some (Value.string ⟨#[]⟩) := b1.out.cell 2 rfl
  have fb1_3 : w3.cell? ⟨w.heap.size + 1, 3, none⟩ = some (Value.slice none 0 0) := b1.out.cell 3 rfl
  have fb1_4 : w3.cell? ⟨w.heap.size + 1, 4, none⟩ = some (Value.slice none 0 0) := b1.out.cell 4 rfl
  have fb1_z := b1.out.frozen
  go_wp2_with fail
  clear fb0_0 fb0_1 fb0_2 fb0_3 fb0_4 fb0_z fb1_0 fb1_1 fb1_2 fb1_3 fb1_4 fb1_z
  apply calls_gen; intro W4 hW
  have hz_ : w3.heap.size + 1 ≤ W4.heap.size := by rw [hW]; simp
  have hE : Below w3.heap.size w3 W4 := by rw [hW]; (repeat (first | with_reducible refine below_alloc ?_ _ | with_reducible refine below_drew ?_)); exact Below.refl _ _
  have hB := Hd.mk (below_then hB.out hE)
  have hC := Hd.mk (hC.out.below hE)
  have b0 := Hd.mk (b0.out.below hE)
  have b1 := Hd.mk (b1.out.below hE)
  have b2 := Hd.mk (show Blk W4 (w3.heap.size) #[Value.int IntKind.i64 j.kind, Value.int IntKind.i64 j.n, Value.string j.s, Value.slice aD3 j.list.length ad3, Value.slice aD4 j.names.length ad4] 27 by rw [hW]; first | exact (Blk.new _ _ _) | (simpa using (Blk.new _ _ _)))
  have hO := Hd.mk (Ty.O_below hO.out hE)
  clear hW hE
  have z4 := Hd.mk hz_; clear hz_
  refine (spec_l1Once 3 w _ g hC.out).mono ?_
  rintro e w5 ⟨b, rfl, hC1, hX⟩
  have hC := Hd.mk hC1; clear hC1
  have hSz0 := hB.out.size
  have hg_ := hG.out
  have z1_ := z1.out; have z2_ := z2.out; have z3_ := z3.out; have z4_ := z4.out
  have b0 := Hd.mk (b0.out.fr hX (fun h => by skip; (try simp only at h); omega))
  have b1 := Hd.mk (b1.out.fr hX (fun h => by skip; (try simp only at h); omega))
  have b2 := Hd.mk (b2.out.fr hX (fun h => by skip; (try simp only at h); omega))
  have hO := Hd.mk (Ty.O_fr hO.out hX (fun k hk hl h => by skip; (try simp only [rng] at hk); (try simp only at hk); (try simp only at h); omega))
  have hB := Hd.mk (below_frS hB.out hX (fun k h => by (try simp only at h); omega))
  have hz_ := hX.size
  clear hSz0 hg_ hX
  have z5 := Hd.mk hz_; clear hz_
  cases b
  · have fb0_0 : w5.cell? ⟨w.heap.size, 0, none⟩ = some (Value.int IntKind.i64 0) := b0.out.cell 0 rfl
    have fb0_1 : w5.cell? ⟨w.heap.size, 1, none⟩ = some (Value.int IntKind.i64 0) := b0.out.cell 1 rfl
    have fb0_2 : w5.cell? ⟨w.heap.size, 2, none⟩ = some (Value.string ⟨#[]⟩) := b0.out.cell 2 rfl
    have fb0_3 : w5.cell? ⟨w.heap.size, 3, none⟩ = some (Value.slice none 0 0) := b0.out.cell 3 rfl
    have fb0_4 : w5.cell? ⟨w.heap.size, 4, none⟩ = some (Value.slice none 0 0) := b0.out.cell 4 rfl
    have fb0_z := b0.out.frozen
    have fb1_0 : w5.cell? ⟨w.heap.size + 1, 0, none⟩ = some (Value.int IntKind.i64 0) := b1.out.cell 0 rfl
    have fb1_1 : w5.cell? ⟨w.heap.size + 1, 1, none⟩ = some (Value.int IntKind.i64 0) := b1.out.cell 1 rfl
    have fb1_2 : w5.cell? ⟨w.heap.size + 1, 2, none⟩ = some (Value.string ⟨#[]⟩) := b1.out.cell 2 rfl
    have fb1_3 : w5.cell? ⟨w.heap.size + 1, 3, none⟩ = some (Value.slice none 0 0) := b1.out.cell 3 rfl
    have fb1_4 : w5.cell? ⟨w.heap.size + 1, 4, none⟩ = some (Value.slice none 0 0) := b1.out.cell 4 rfl
    have fb1_z := b1.out.frozen
    have fb2_0 : w5.cell? ⟨w3.heap.size, 0, none⟩ = some (Value.int IntKind.i64 j.kind) := b2.out.cell 0 rfl
    have fb2_1 : w5.cell? ⟨w3.heap.size, 1, none⟩ = some (Value.int IntKind.i64 j.n) := b2.out.cell 1 rfl
    have fb2_2 : w5.cell? ⟨w3.heap.size, 2, none⟩ = some (Value.string j.s) := b2.out.cell 2 rfl
    have fb2_3 : w5.cell? ⟨w3.heap.size, 3, none⟩ = some (Value.slice aD3 j.list.length ad3) := b2.out.cell 3 rfl
    have fb2_4 : w5.cell? ⟨w3.heap.size, 4, none⟩ = some (Value.slice aD4 j.names.length ad4) := b2.out.cell 4 rfl
    have fb2_z := b2.out.frozen
    go_wp2_with fail
    clear fb0_0 fb0_1 fb0_2 fb0_3 fb0_4 fb0_z fb1_0 fb1_1 fb1_2 fb1_3 fb1_4 fb1_z fb2_0 fb2_1 fb2_2 fb2_3 fb2_4 fb2_z
    have sb0 := Hd.mk b0.out
    have sb1 := Hd.mk b1.out
    have sb2 := Hd.mk b2.out
    refine region_mixC (fun w2 => Fr w5 w2 (fun k => k = g)) (.q 0 (.p 1 (.b 2 .fin))) [3, 4] (by kernel_rfl) (Fr.drew (Fr.refl _ _)) (by kernel_rfl) (fun _ _ _ _ _ h => h) ?_
    refine genT ?_
    intro W6 hW
    have hS := Hd.mk (show Fr w5 W6 (fun k => k = g) by rw [hW]; exact Fr.drew (Fr.refl _ _))
    have hz_ : w5.heap.size ≤ W6.heap.size := by rw [hW]; simp
    have hE : Below w5.heap.size w5 W6 := by rw [hW]; (repeat (first | with_reducible refine below_alloc ?_ _ | with_reducible refine below_drew ?_)); exact Below.refl _ _
    have hB := Hd.mk (below_then hB.out hE)
    have hC := Hd.mk (hC.out.below hE)
    have b0 := Hd.mk (b0.out.below hE)
    have b1 := Hd.mk (b1.out.below hE)
    have b2 := Hd.mk (b2.out.below hE)
    have hO := Hd.mk (Ty.O_below hO.out hE)
    clear hW hE
    have z6 := Hd.mk hz_; clear hz_
    refine mixT_see rfl (by rfl) (Value.agg #[Value.int IntKind.i64 j.kind, Value.int IntKind.i64 j.n, Value.string j.s, Value.slice aD3 j.list.length ad3, Value.slice aD4 j.names.length ad4]) (fun w_ hw_ => by have z1_ := z1.out; have z2_ := z2.out; have z3_ := z3.out; have z4_ := z4.out; have z5_ := z5.out; have z6_ := z6.out; have f0_ := (sb2.out.fr hw_ (fun h => by have hg_ := hG.out; skip; have hlt_ := sb2.out.lt; (try simp only at h); omega)).cell 0 rfl; have f1_ := (sb2.out.fr hw_ (fun h => by have hg_ := hG.out; skip; have hlt_ := sb2.out.lt; (try simp only at h); omega)).cell 1 rfl; have f2_ := (sb2.out.fr hw_ (fun h => by have hg_ := hG.out; skip; have hlt_ := sb2.out.lt; (try simp only at h); omega)).cell 2 rfl; have f3_ := (sb2.out.fr hw_ (fun h => by have hg_ := hG.out; skip; have hlt_ := sb2.out.lt; (try simp only at h); omega)).cell 3 rfl; have f4_ := (sb2.out.fr hw_ (fun h => by have hg_ := hG.out; skip; have hlt_ := sb2.out.lt; (try simp only at h); omega)).cell 4 rfl; simp [execOp, go_sem, f0_, f1_, f2_, f3_, f4_]) hS.out ?_
    have fb0_0 : W6.cell? ⟨w.heap.size, 0, none⟩ = some (Value.int IntKind.i64 0) := b0.out.cell 0 rfl
    have fb0_1 : W6.cell? ⟨w.heap.size, 1, none⟩ = some (Value.int IntKind.i64 0) := b0.out.cell 1 rfl
    have fb0_2 : W6.cell? ⟨w.heap.size, 2, none⟩ = some (Value.string ⟨#[]⟩) := b0.out.cell 2 rfl
    have fb0_3 : W6.cell? ⟨w.heap.size, 3, none⟩ = some (Value.slice none 0 0) := b0.out.cell 3 rfl
    have fb0_4 : W6.cell? ⟨w.heap.size, 4, none⟩ = some (Value.slice none 0 0) := b0.out.cell 4 rfl
    have fb0_z := b0.out.frozen
    have fb1_0 : W6.cell? ⟨w.heap.size + 1, 0, none⟩ = some (Value.int IntKind.i64 0) := b1.out.cell 0 rfl
    have fb1_1 : W6.cell? ⟨w.heap.size + 1, 1, none⟩ = some (Value.int IntKind.i64 0) := b1.out.cell 1 rfl
    have fb1_2 : W6.cell? ⟨w.heap.size + 1, 2, none⟩ = some (Value.string ⟨#[]⟩) := b1.out.cell 2 rfl
    have fb1_3 : W6.cell? ⟨w.heap.size + 1, 3, none⟩ = some (Value.slice none 0 0) := b1.out.cell 3 rfl
    have fb1_4 : W6.cell? ⟨w.heap.size + 1, 4, none⟩ = some (Value.slice none 0 0) := b1.out.cell 4 rfl
    have fb1_z := b1.out.frozen
    have fb2_0 : W6.cell? ⟨w3.heap.size, 0, none⟩ = some (Value.int IntKind.i64 j.kind) := b2.out.cell 0 rfl
    have fb2_1 : W6.cell? ⟨w3.heap.size, 1, none⟩ = some (Value.int IntKind.i64 j.n) := b2.out.cell 1 rfl
    have fb2_2 : W6.cell? ⟨w3.heap.size, 2, none⟩ = some (Value.string j.s) := b2.out.cell 2 rfl
    have fb2_3 : W6.cell? ⟨w3.heap.size, 3, none⟩ = some (Value.slice aD3 j.list.length ad3) := b2.out.cell 3 rfl
    have fb2_4 : W6.cell? ⟨w3.heap.size, 4, none⟩ = some (Value.slice aD4 j.names.length ad4) := b2.out.cell 4 rfl
    have fb2_z := b2.out.frozen
    go_wp2_with fail
    refine mixQ_n ?_
    clear fb0_0 fb0_1 fb0_2 fb0_3 fb0_4 fb0_z fb1_0 fb1_1 fb1_2 fb1_3 fb1_4 fb1_z fb2_0 fb2_1 fb2_2 fb2_3 fb2_4 fb2_z
    refine mixT_p rfl ?_
    go_big_quiet_want; go_big_quiet_op; go_big_quiet_on; refine wpQuiet_nil ?_
    refine mixT_b rfl ?_ (by rfl)
    go_wp2_with fail
    apply calls_gen; intro W7 hW
    have hz_ : W6.heap.size ≤ W7.heap.size := by rw [hW]; simp
    have hE : Below W6.heap.size W6 W7 := by rw [hW]; (repeat (first | with_reducible refine below_alloc ?_ _ | with_reducible refine below_drew ?_)); exact Below.refl _ _
    have hB := Hd.mk (below_then hB.out hE)
    have hC := Hd.mk (hC.out.below hE)
    replace hS := Hd.mk (hS.out.trans (Fr.of_below hE _))
    have b0 := Hd.mk (b0.out.below hE)
    have b1 := Hd.mk (b1.out.below hE)
    have b2 := Hd.mk (b2.out.below hE)
    have hO := Hd.mk (Ty.O_below hO.out hE)
    clear hW hE
    have z7 := Hd.mk hz_; clear hz_
    refine (spec_l1Draw w _ g hC.out).mono ?_
    rintro e w8 ⟨j2, cs2, rfl, hBK2, hO2, hC1, hX⟩
    have hC := Hd.mk hC1; clear hC1
    have hSz0 := hB.out.size
    have hg_ := hG.out
    have z1_ := z1.out; have z2_ := z2.out; have z3_ := z3.out; have z4_ := z4.out; have z5_ := z5.out; have z6_ := z6.out; have z7_ := z7.out
    have b0 := Hd.mk (b0.out.fr hX (fun h => by skip; (try simp only at h); omega))
    have b1 := Hd.mk (b1.out.fr hX (fun h => by skip; (try simp only at h); omega))
    have b2 := Hd.mk (b2.out.fr hX (fun h => by skip; (try simp only at h); omega))
    have hO := Hd.mk (Ty.O_fr hO.out hX (fun k hk hl h => by skip; (try simp only [rng] at hk); (try simp only at hk); (try simp only at h); omega))
    have hB := Hd.mk (below_frS hB.out hX (fun k h => by (try simp only at h); omega))
    replace hS := Hd.mk (hS.out.trans hX)
    have hz_ := hX.size
    clear hSz0 hg_ hX
    have z8 := Hd.mk hz_; clear hz_
    replace hBK2 := Hd.mk hBK2
    obtain ⟨ev3, ev4, _, _, rfl, _, er3, er4, _⟩ := tJ_O.1 hO2
    obtain ⟨eD3, ed3, rfl, _, _⟩ := R_C er3
    obtain ⟨eD4, ed4, rfl, _, _⟩ := R_C er4
    clear er3 er4
    replace hO2 := Hd.mk (show (tJ 9).O w8 (rng W7.heap.size w8.heap.size) j2 _ from Ty.O_bound _ hO2)
    go_wp2_with fail
    refine ⟨hS.out, ?_⟩
    refine mixT_fin ?_
    clear hS
    have fb0_0 : w8.cell? ⟨w.heap.size, 0, none⟩ = some (Value.int IntKind.i64 0) := b0.out.cell 0 rfl
    have fb0_1 : w8.cell? ⟨w.heap.size, 1, none⟩ = some (Value.int IntKind.i64 0) := b0.out.cell 1 rfl
    have fb0_2 : w8.cell? ⟨w.heap.size, 2, none⟩ = some (Value.string ⟨#[]⟩) := b0.out.cell 2 rfl
    have fb0_3 : w8.cell? ⟨w.heap.size, 3, none⟩ = some (Value.slice none 0 0) := b0.out.cell 3 rfl
    have fb0_4 : w8.cell? ⟨w.heap.size, 4, none⟩ = some (Value.slice none 0 0) := b0.out.cell 4 rfl
    have fb0_z := b0.out.frozen
    have fb1_0 : w8.cell? ⟨w.heap.size + 1, 0, none⟩ = some (Value.int IntKind.i64 0) := b1.out.cell 0 rfl
    have fb1_1 : w8.cell? ⟨w.heap.size + 1, 1, none⟩ = some (Value.int IntKind.i64 0) := b1.out.cell 1 rfl
    have fb1_2 : w8.cell? ⟨w.heap.size + 1, 2, none⟩ = some (Value.string ⟨#[]⟩) := b1.out.cell 2 rfl
    have fb1_3 : w8.cell? ⟨w.heap.size + 1, 3, none⟩ = some (Value.slice none 0 0) := b1.out.cell 3 rfl
    have fb1_4 : w8.cell? ⟨w.heap.size + 1, 4, none⟩ = some (Value.slice none 0 0) := b1.out.cell 4 rfl
    have fb1_z := b1.out.frozen
    have fb2_0 : w8.cell? ⟨w3.heap.size, 0, none⟩ = some (Value.int IntKind.i64 j.kind) := b2.out.cell 0 rfl
    have fb2_1 : w8.cell? ⟨w3.heap.size, 1, none⟩ = some (Value.int IntKind.i64 j.n) := b2.out.cell 1 rfl
    have fb2_2 : w8.cell? ⟨w3.heap.size, 2, none⟩ = some (Value.string j.s) := b2.out.cell 2 rfl
    have fb2_3 : w8.cell? ⟨w3.heap.size, 3, none⟩ = some (Value.slice aD3 j.list.length ad3) := b2.out.cell 3 rfl
    have fb2_4 : w8.cell? ⟨w3.heap.size, 4, none⟩ = some (Value.slice aD4 j.names.length ad4) := b2.out.cell 4 rfl
    have fb2_z := b2.out.frozen
    refine tail_b rfl ?_ (by rfl)
    go_wp2_with fail
    refine mixQ_n ?_
    refine tail_b rfl ?_ (by rfl)
    go_wp2_with fail
    refine mixQ_n ?_
    refine tail_nil ?_
    go_wp2_with fail
    refine bodyPost_retW (v := .tuple #[.agg #[Value.int IntKind.i64 j.kind, Value.int IntKind.i64 j.n, Value.string j.s, Value.slice aD3 j.list.length ad3, Value.slice aD4 j.names.length ad4], .agg #[Value.int IntKind.i64 j2.kind, Value.int IntKind.i64 j2.n, Value.string j2.s, Value.slice eD3 j2.list.length ed3, Value.slice eD4 j2.names.length ed4]]) (by simp [results, Try.results35, go_sem, fb0_0, fb0_1, fb0_2, fb0_3, fb0_4, fb0_z, fb1_0, fb1_1, fb1_2, fb1_3, fb1_4, fb1_z, fb2_0, fb2_1, fb2_2, fb2_3, fb2_4, fb2_z]) rfl ?_
    intro W hW
    clear fb0_0 fb0_1 fb0_2 fb0_3 fb0_4 fb0_z fb1_0 fb1_1 fb1_2 fb1_3 fb1_4 fb1_z fb2_0 fb2_1 fb2_2 fb2_3 fb2_4 fb2_z
    have hz_ : w8.heap.size ≤ W.heap.size := by rw [hW]; simp
    have eF : Fr w8 W (fun k => k = w.heap.size ∨ k = w.heap.size + 1 ∨ w8.heap.size ≤ k) := by rw [hW]; (repeat (first | with_reducible refine Fr.setCell ?_ _ (fun _ => by simp <;> omega) _ | with_reducible refine Fr.alloc ?_ _ | with_reducible refine Fr.drew ?_)); exact Fr.refl _ _
    have z1_ := z1.out; have z2_ := z2.out; have z3_ := z3.out; have z4_ := z4.out; have z5_ := z5.out; have z6_ := z6.out; have z7_ := z7.out; have z8_ := z8.out
    have hC := Hd.mk (hC.out.fr eF (fun h => by have hg_ := hG.out; have hlt_ := hC.out.lt; (try simp only [rng] at h); (try simp only at h); omega) (fun k h => by have hg_ := hG.out; have hge_ := hC.out.ge; (try simp only [rng] at h); (try simp only at h); omega))
    have hB := Hd.mk (((Fr.of_below hB.out (fun k => k = w.heap.size ∨ k = w.heap.size + 1 ∨ w8.heap.size ≤ k)).then_ eF (fun k hk _ => hk)).below (fun k hk => by have := hB.out.size; omega))
    have b0 := Hd.mk (show Blk W (w.heap.size) #[Value.int IntKind.i64 j.kind, Value.int IntKind.i64 j.n, Value.string j.s, Value.slice aD3 j.list.length ad3, Value.slice aD4 j.names.length ad4] 27 by rw [hW]; exact ((((((((((b0.out.set 0 (Value.int IntKind.i64 j.kind)).set 1 (Value.int IntKind.i64 j.n)).set 2 (Value.string j.s)).set 3 (Value.slice aD3 j.list.length ad3)).set 4 (Value.slice aD4 j.names.length ad4)).other _ (by simp <;> omega) _).other _ (by simp <;> omega) _).other _ (by simp <;> omega) _).other _ (by simp <;> omega) _).other _ (by simp <;> omega) _))
    have b1 := Hd.mk (show Blk W (w.heap.size + 1) #[Value.int IntKind.i64 j2.kind, Value.int IntKind.i64 j2.n, Value.string j2.s, Value.slice eD3 j2.list.length ed3, Value.slice eD4 j2.names.length ed4] 27 by rw [hW]; exact ((((((((((b1.out.other _ (by simp <;> omega) _).other _ (by simp <;> omega) _).other _ (by simp <;> omega) _).other _ (by simp <;> omega) _).other _ (by simp <;> omega) _).set 0 (Value.int IntKind.i64 j2.kind)).set 1 (Value.int IntKind.i64 j2.n)).set 2 (Value.string j2.s)).set 3 (Value.slice eD3 j2.list.length ed3)).set 4 (Value.slice eD4 j2.names.length ed4)))
    have b2 := Hd.mk (b2.out.fr eF (fun h => by have hlt_ := b2.out.lt; (try simp only at h); omega))
    have hO := Hd.mk (Ty.O_fr hO.out eF (fun k hk hl h => by skip; (try simp only [rng] at hk); (try simp only at hk); (try simp only at h); omega))
    have hO2 := Hd.mk (Ty.O_fr hO2.out eF (fun k hk hl h => by skip; (try simp only [rng] at hk); (try simp only at hk); (try simp only at h); omega))
    clear hW eF
    have z9 := Hd.mk hz_; clear hz_
    have z1_ := z1.out; have z2_ := z2.out; have z3_ := z3.out; have z4_ := z4.out; have z5_ := z5.out; have z6_ := z6.out; have z7_ := z7.out; have z8_ := z8.out; have z9_ := z9.out
    have hSz_ := hB.out.size
    exact ⟨j, j2, [Value.int IntKind.i64 j.kind, Value.int IntKind.i64 j.n, Value.string j.s, Value.slice aD3 j.list.length ad3, Value.slice aD4 j.names.length ad4], [Value.int IntKind.i64 j2.kind, Value.int IntKind.i64 j2.n, Value.string j2.s, Value.slice eD3 j2.list.length ed3, Value.slice eD4 j2.names.length ed4], rfl, Ty.O_mono _ (fun q h => by have h1 := h.1; omega) hO.out, Ty.O_mono _ (fun q h => by have h1 := h.1; omega) hO2.out, hBK.out, hBK2.out, hB.out⟩
  · have fb0_0 : w5.cell? ⟨w.heap.size, 0, none⟩ = some (Value.int IntKind.i64 0) := b0.out.cell 0 rfl
    have fb0_1 : w5.cell? ⟨w.heap.size, 1, none⟩ = some (Value.int IntKind.i64 0) := b0.out.cell 1 rfl
    have fb0_2 : w5.cell? ⟨w.heap.size, 2, none⟩ = some (Value.string ⟨#[]⟩) := b0.out.cell 2 rfl
    have fb0_3 : w5.cell? ⟨w.heap.size, 3, none⟩ = some (Value.slice none 0 0) := b0.out.cell 3 rfl
    have fb0_4 : w5.cell? ⟨w.heap.size, 4, none⟩ = some (Value.slice none 0 0) := b0.out.cell 4 rfl
    have fb0_z := b0.out.frozen
    have fb1_0 : w5.cell? ⟨w.heap.size + 1, 0, none⟩ = some (Value.int IntKind.i64 0) := b1.out.cell 0 rfl
    have fb1_1 : w5.cell? ⟨w.heap.size + 1, 1, none⟩ = some (Value.int IntKind.i64 0) := b1.out.cell 1 rfl
    have fb1_2 : w5.cell? ⟨w.heap.size + 1, 2, none⟩ = some (Value.string ⟨#[]⟩) := b1.out.cell 2 rfl
    have fb1_3 : w5.cell? ⟨w.heap.size + 1, 3, none⟩ = some (Value.slice none 0 0) := b1.out.cell 3 rfl
    have fb1_4 : w5.cell? ⟨w.heap.size + 1, 4, none⟩ = some (Value.slice none 0 0) := b1.out.cell 4 rfl
    have fb1_z := b1.out.frozen
    have fb2_0 : w5.cell? ⟨w3.heap.size, 0, none⟩ = some (Value.int IntKind.i64 j.kind) := b2.out.cell 0 rfl
    have fb2_1 : w5.cell? ⟨w3.heap.size, 1, none⟩ = some (Value.int IntKind.i64 j.n) := b2.out.cell 1 rfl
    have fb2_2 : w5.cell? ⟨w3.heap.size, 2, none⟩ = some (Value.string j.s) := b2.out.cell 2 rfl
    have fb2_3 : w5.cell? ⟨w3.heap.size, 3, none⟩ = some (Value.slice aD3 j.list.length ad3) := b2.out.cell 3 rfl
    have fb2_4 : w5.cell? ⟨w3.heap.size, 4, none⟩ = some (Value.slice aD4 j.names.length ad4) := b2.out.cell 4 rfl
    have fb2_z := b2.out.frozen
    go_wp2_with fail
    clear fb0_0 fb0_1 fb0_2 fb0_3 fb0_4 fb0_z fb1_0 fb1_1 fb1_2 fb1_3 fb1_4 fb1_z fb2_0 fb2_1 fb2_2 fb2_3 fb2_4 fb2_z
    have sb0 := Hd.mk b0.out
    have sb1 := Hd.mk b1.out
    have sb2 := Hd.mk b2.out
    refine region_mixC (fun w2 => Fr w5 w2 (fun k => k = g)) (.q 0 (.q 1 (.b 2 .fin))) [3, 4] (by kernel_rfl) (Fr.drew (Fr.refl _ _)) (by kernel_rfl) (fun _ _ _ _ _ h => h) ?_
    refine genT ?_
    intro W6 hW
    have hS := Hd.mk (show Fr w5 W6 (fun k => k = g) by rw [hW]; exact Fr.drew (Fr.refl _ _))
    have hz_ : w5.heap.size ≤ W6.heap.size := by rw [hW]; simp
    have hE : Below w5.heap.size w5 W6 := by rw [hW]; (repeat (first | with_reducible refine below_alloc ?_ _ | with_reducible refine below_drew ?_)); exact Below.refl _ _
    have hB := Hd.mk (below_then hB.out hE)
    have hC := Hd.mk (hC.out.below hE)
    have b0 := Hd.mk (b0.out.below hE)
    have b1 := Hd.mk (b1.out.below hE)
    have b2 := Hd.mk (b2.out.below hE)
    have hO := Hd.mk (Ty.O_below hO.out hE)
    clear hW hE
    have z6 := Hd.mk hz_; clear hz_
    refine mixT_see rfl (by rfl) (Value.agg #[Value.int IntKind.i64 j.kind, Value.int IntKind.i64 j.n, Value.string j.s, Value.slice aD3 j.list.length ad3, Value.slice aD4 j.names.length ad4]) (fun w_ hw_ => by have z1_ := z1.out; have z2_ := z2.out; have z3_ := z3.out; have z4_ := z4.out; have z5_ := z5.out; have z6_ := z6.out; have f0_ := (sb2.out.fr hw_ (fun h => by have hg_ := hG.out; skip; have hlt_ := sb2.out.lt; (try simp only at h); omega)).cell 0 rfl; have f1_ := (sb2.out.fr hw_ (fun h => by have hg_ := hG.out; skip; have hlt_ := sb2.out.lt; (try simp only at h); omega)).cell 1 rfl; have f2_ := (sb2.out.fr hw_ (fun h => by have hg_ := hG.out; skip; have hlt_ := sb2.out.lt; (try simp only at h); omega)).cell 2 rfl; have f3_ := (sb2.out.fr hw_ (fun h => by have hg_ := hG.out; skip; have hlt_ := sb2.out.lt; (try simp only at h); omega)).cell 3 rfl; have f4_ := (sb2.out.fr hw_ (fun h => by have hg_ := hG.out; skip; have hlt_ := sb2.out.lt; (try simp only at h); omega)).cell 4 rfl; simp [execOp, go_sem, f0_, f1_, f2_, f3_, f4_]) hS.out ?_
    have fb0_0 : W6.cell? ⟨w.heap.size, 0, none⟩ = some (Value.int IntKind.i64 0) := b0.out.cell 0 rfl
    have fb0_1 : W6.cell? ⟨w.heap.size, 1, none⟩ = some (Value.int IntKind.i64 0) := b0.out.cell 1 rfl
    have fb0_2 : W6.cell? ⟨w.heap.size, 2, none⟩ = some (Value.string ⟨#[]⟩) := b0.out.cell 2 rfl
    have fb0_3 : W6.cell? ⟨w.heap.size, 3, none⟩ = some (Value.slice none 0 0) := b0.out.cell 3 rfl
    have fb0_4 : W6.cell? ⟨w.heap.size, 4, none⟩ = some (Value.slice none 0 0) := b0.out.cell 4 rfl
    have fb0_z := b0.out.frozen
    have fb1_0 : W6.cell? ⟨w.heap.size + 1, 0, none⟩ = some (Value.int IntKind.i64 0) := b1.out.cell 0 rfl
    have fb1_1 : W6.cell? ⟨w.heap.size + 1, 1, none⟩ = some (Value.int IntKind.i64 0) := b1.out.cell 1 rfl
    have fb1_2 : W6.cell? ⟨w.heap.size + 1, 2, none⟩ = some (Value.string ⟨#[]⟩) := b1.out.cell 2 rfl
    have fb1_3 : W6.cell? ⟨w.heap.size + 1, 3, none⟩ = some (Value.slice none 0 0) := b1.out.cell 3 rfl
    have fb1_4 : W6.cell? ⟨w.heap.size + 1, 4, none⟩ = some (Value.slice none 0 0) := b1.out.cell 4 rfl
    have fb1_z := b1.out.frozen
    have fb2_0 : W6.cell? ⟨w3.heap.size, 0, none⟩ = some (Value.int IntKind.i64 j.kind) := b2.out.cell 0 rfl
    have fb2_1 : W6.cell? ⟨w3.heap.size, 1, none⟩ = some (Value.int IntKind.i64 j.n) := b2.out.cell 1 rfl
    have fb2_2 : W6.cell? ⟨w3.heap.size, 2, none⟩ = some (Value.string j.s) := b2.out.cell 2 rfl
    have fb2_3 : W6.cell? ⟨w3.heap.size, 3, none⟩ = some (Value.slice aD3 j.list.length ad3) := b2.out.cell 3 rfl
    have fb2_4 : W6.cell? ⟨w3.heap.size, 4, none⟩ = some (Value.slice aD4 j.names.length ad4) := b2.out.cell 4 rfl
    have fb2_z := b2.out.frozen
    go_wp2_with fail
    refine mixQ_n ?_
    clear fb0_0 fb0_1 fb0_2 fb0_3 fb0_4 fb0_z fb1_0 fb1_1 fb1_2 fb1_3 fb1_4 fb1_z fb2_0 fb2_1 fb2_2 fb2_3 fb2_4 fb2_z
    refine mixT_see rfl (by rfl) (Value.agg #[Value.int IntKind.i64 j.kind, Value.int IntKind.i64 j.n, Value.string j.s, Value.slice aD3 j.list.length ad3, Value.slice aD4 j.names.length ad4]) (fun w_ hw_ => by have z1_ := z1.out; have z2_ := z2.out; have z3_ := z3.out; have z4_ := z4.out; have z5_ := z5.out; have z6_ := z6.out; have f0_ := (sb2.out.fr hw_ (fun h => by have hg_ := hG.out; skip; have hlt_ := sb2.out.lt; (try simp only at h); omega)).cell 0 rfl; have f1_ := (sb2.out.fr hw_ (fun h => by have hg_ := hG.out; skip; have hlt_ := sb2.out.lt; (try simp only at h); omega)).cell 1 rfl; have f2_ := (sb2.out.fr hw_ (fun h => by have hg_ := hG.out; skip; have hlt_ := sb2.out.lt; (try simp only at h); omega)).cell 2 rfl; have f3_ := (sb2.out.fr hw_ (fun h => by have hg_ := hG.out; skip; have hlt_ := sb2.out.lt; (try simp only at h); omega)).cell 3 rfl; have f4_ := (sb2.out.fr hw_ (fun h => by have hg_ := hG.out; skip; have hlt_ := sb2.out.lt; (try simp only at h); omega)).cell 4 rfl; simp [execOp, go_sem, f0_, f1_, f2_, f3_, f4_]) hS.out ?_
    have fb0_0 : W6.cell? ⟨w.heap.size, 0, none⟩ = some (Value.int IntKind.i64 0) := b0.out.cell 0 rfl
    have fb0_1 : W6.cell? ⟨w.heap.size, 1, none⟩ = some (Value.int IntKind.i64 0) := b0.out.cell 1 rfl
    have fb0_2 : W6.cell? ⟨w.heap.size, 2, none⟩ = some (Value.string ⟨#[]⟩) := b0.out.cell 2 rfl
    have fb0_3 : W6.cell? ⟨w.heap.size, 3, none⟩ = some (Value.slice none 0 0) := b0.out.cell 3 rfl
    have fb0_4 : W6.cell? ⟨w.heap.size, 4, none⟩ = some (Value.slice none 0 0) := b0.out.cell 4 rfl
    have fb0_z := b0.out.frozen
    have fb1_0 : W6.cell? ⟨w.heap.size + 1, 0, none⟩ = some (Value.int IntKind.i64 0) := b1.out.cell 0 rfl
    have fb1_1 : W6.cell? ⟨w.heap.size + 1, 1, none⟩ = some (Value.int IntKind.i64 0) := b1.out.cell 1 rfl
    have fb1_2 : W6.cell? ⟨w.heap.size + 1, 2, none⟩ = some (Value.string ⟨#[]⟩) := b1.out.cell 2 rfl
    have fb1_3 : W6.cell? ⟨w.heap.size + 1, 3, none⟩ = some (Value.slice none 0 0) := b1.out.cell 3 rfl
    have fb1_4 : W6.cell? ⟨w.heap.size + 1, 4, none⟩ = some (Value.slice none 0 0) := b1.out.cell 4 rfl
    have fb1_z := b1.out.frozen
    have fb2_0 : W6.cell? ⟨w3.heap.size, 0, none⟩ = some (Value.int IntKind.i64 j.kind) := b2.out.cell 0 rfl
    have fb2_1 : W6.cell? ⟨w3.heap.size, 1, none⟩ = some (Value.int IntKind.i64 j.n) := b2.out.cell 1 rfl
    have fb2_2 : W6.cell? ⟨w3.heap.size, 2, none⟩ = some (Value.string j.s) := b2.out.cell 2 rfl
    have fb2_3 : W6.cell? ⟨w3.heap.size, 3, none⟩ = some (Value.slice aD3 j.list.length ad3) := b2.out.cell 3 rfl
    have fb2_4 : W6.cell? ⟨w3.heap.size, 4, none⟩ = some (Value.slice aD4 j.names.length ad4) := b2.out.cell 4 rfl
    have fb2_z := b2.out.frozen
    go_wp2_with fail
    refine mixQ_n ?_
    clear fb0_0 fb0_1 fb0_2 fb0_3 fb0_4 fb0_z fb1_0 fb1_1 fb1_2 fb1_3 fb1_4 fb1_z fb2_0 fb2_1 fb2_2 fb2_3 fb2_4 fb2_z
    refine mixT_b rfl ?_ (by rfl)
    go_wp2_with fail
    apply calls_gen; intro W7 hW
    have hz_ : W6.heap.size ≤ W7.heap.size := by rw [hW]; simp
    have hE : Below W6.heap.size W6 W7 := by rw [hW]; (repeat (first | with_reducible refine below_alloc ?_ _ | with_reducible refine below_drew ?_)); exact Below.refl _ _
    have hB := Hd.mk (below_then hB.out hE)
    have hC := Hd.mk (hC.out.below hE)
    replace hS := Hd.mk (hS.out.trans (Fr.of_below hE _))
    have b0 := Hd.mk (b0.out.below hE)
    have b1 := Hd.mk (b1.out.below hE)
    have b2 := Hd.mk (b2.out.below hE)
    have hO := Hd.mk (Ty.O_below hO.out hE)
    clear hW hE
    have z7 := Hd.mk hz_; clear hz_
    refine (spec_l1Copy (m := 9) j _ _ (Ty.O_K _ hO.out) (Nat.le_trans (hBK.out 9) (by decide))).mono ?_
    rintro e w8 ⟨cs2, rfl, hO2, hX⟩
    have b0 := Hd.mk (b0.out.below hX)
    have b1 := Hd.mk (b1.out.below hX)
    have b2 := Hd.mk (b2.out.below hX)
    have hO := Hd.mk (Ty.O_below hO.out hX)
    have hB := Hd.mk (below_then hB.out hX)
    have hC := Hd.mk (hC.out.below hX)
    replace hS := Hd.mk (hS.out.trans (Fr.of_below hX _))
    have hz_ := hX.size
    clear hX
    have z8 := Hd.mk hz_; clear hz_
    obtain ⟨ev3, ev4, _, _, rfl, _, er3, er4, _⟩ := tJ_O.1 hO2
    obtain ⟨eD3, ed3, rfl, _, _⟩ := R_C er3
    obtain ⟨eD4, ed4, rfl, _, _⟩ := R_C er4
    clear er3 er4
    replace hO2 := Hd.mk (show (tJ 9).O w8 (rng W7.heap.size w8.heap.size) j _ from Ty.O_bound _ hO2)
    go_wp2_with fail
    refine ⟨hS.out, ?_⟩
    refine mixT_fin ?_
    clear hS
    have fb0_0 : w8.cell? ⟨w.heap.size, 0, none⟩ = some (Value.int IntKind.i64 0) := b0.out.cell 0 rfl
    have fb0_1 : w8.cell? ⟨w.heap.size, 1, none⟩ = some (Value.int IntKind.i64 0) := b0.out.cell 1 rfl
    have fb0_2 : w8.cell? ⟨w.heap.size, 2, none⟩ = some (Value.string ⟨#[]⟩) := b0.out.cell 2 rfl
    have fb0_3 : w8.cell? ⟨w.heap.size, 3, none⟩ = some (Value.slice none 0 0) := b0.out.cell 3 rfl
    have fb0_4 : w8.cell? ⟨w.heap.size, 4, none⟩ = some (Value.slice none 0 0) := b0.out.cell 4 rfl
    have fb0_z := b0.out.frozen
    have fb1_0 : w8.cell? ⟨w.heap.size + 1, 0, none⟩ = some (Value.int IntKind.i64 0) := b1.out.cell 0 rfl
    have fb1_1 : w8.cell? ⟨w.heap.size + 1, 1, none⟩ = some (Value.int IntKind.i64 0) := b1.out.cell 1 rfl
    have fb1_2 : w8.cell? ⟨w.heap.size + 1, 2, none⟩ = some (Value.string ⟨#[]⟩) := b1.out.cell 2 rfl
    have fb1_3 : w8.cell? ⟨w.heap.size + 1, 3, none⟩ = some (Value.slice none 0 0) := b1.out.cell 3 rfl
    have fb1_4 : w8.cell? ⟨w.heap.size + 1, 4, none⟩ = some (Value.slice none 0 0) := b1.out.cell 4 rfl
    have fb1_z := b1.out.frozen
    have fb2_0 : w8.cell? ⟨w3.heap.size, 0, none⟩ = some (Value.int IntKind.i64 j.kind) := b2.out.cell 0 rfl
    have fb2_1 : w8.cell? ⟨w3.heap.size, 1, none⟩ = some (Value.int IntKind.i64 j.n) := b2.out.cell 1 rfl
    have fb2_2 : w8.cell? ⟨w3.heap.size, 2, none⟩ = some (Value.string j.s) := b2.out.cell 2 rfl
    have fb2_3 : w8.cell? ⟨w3.heap.size, 3, none⟩ = some (Value.slice aD3 j.list.length ad3) := b2.out.cell 3 rfl
    have fb2_4 : w8.cell? ⟨w3.heap.size, 4, none⟩ = some (Value.slice aD4 j.names.length ad4) := b2.out.cell 4 rfl
    have fb2_z := b2.out.frozen
    refine tail_b rfl ?_ (by rfl)
    go_wp2_with fail
    refine mixQ_n ?_
    refine tail_b rfl ?_ (by rfl)
    go_wp2_with fail
    refine mixQ_n ?_
    refine tail_nil ?_
    go_wp2_with fail
    refine bodyPost_retW (v := .tuple #[.agg #[Value.int IntKind.i64 j.kind, Value.int IntKind.i64 j.n, Value.string j.s, Value.slice aD3 j.list.length ad3, Value.slice aD4 j.names.length ad4], .agg #[Value.int IntKind.i64 j.kind, Value.int IntKind.i64 j.n, Value.string j.s, Value.slice eD3 j.list.length ed3, Value.slice eD4 j.names.length ed4]]) (by simp [results, Try.results35, go_sem, fb0_0, fb0_1, fb0_2, fb0_3, fb0_4, fb0_z, fb1_0, fb1_1, fb1_2, fb1_3, fb1_4, fb1_z, fb2_0, fb2_1, fb2_2, fb2_3, fb2_4, fb2_z]) rfl ?_
    intro W hW
    clear fb0_0 fb0_1 fb0_2 fb0_3 fb0_4 fb0_z fb1_0 fb1_1 fb1_2 fb1_3 fb1_4 fb1_z fb2_0 fb2_1 fb2_2 fb2_3 fb2_4 fb2_z
    have hz_ : w8.heap.size ≤ W.heap.size := by rw [hW]; simp
    have eF : Fr w8 W (fun k => k = w.heap.size ∨ k = w.heap.size + 1 ∨ w8.heap.size ≤ k) := by rw [hW]; (repeat (first | with_reducible refine Fr.setCell ?_ _ (fun _ => by simp <;> omega) _ | with_reducible refine Fr.alloc ?_ _ | with_reducible refine Fr.drew ?_)); exact Fr.refl _ _
    have z1_ := z1.out; have z2_ := z2.out; have z3_ := z3.out; have z4_ := z4.out; have z5_ := z5.out; have z6_ := z6.out; have z7_ := z7.out; have z8_ := z8.out
    have hC := Hd.mk (hC.out.fr eF (fun h => by have hg_ := hG.out; have hlt_ := hC.out.lt; (try simp only [rng] at h); (try simp only at h); omega) (fun k h => by have hg_ := hG.out; have hge_ := hC.out.ge; (try simp only [rng] at h); (try simp only at h); omega))
    have hB := Hd.mk (((Fr.of_below hB.out (fun k => k = w.heap.size ∨ k = w.heap.size + 1 ∨ w8.heap.size ≤ k)).then_ eF (fun k hk _ => hk)).below (fun k hk => by have := hB.out.size; omega))
    have b0 := Hd.mk (show Blk W (w.heap.size) #[Value.int IntKind.i64 j.kind, Value.int IntKind.i64 j.n, Value.string j.s, Value.slice aD3 j.list.length ad3, Value.slice aD4 j.names.length ad4] 27 by rw [hW]; exact ((((((((((b0.out.set 0 (Value.int IntKind.i64 j.kind)).set 1 (Value.int IntKind.i64 j.n)).set 2 (Value.string j.s)).set 3 (Value.slice aD3 j.list.length ad3)).set 4 (Value.slice aD4 j.names.length ad4)).other _ (by simp <;> omega) _).other _ (by simp <;> omega) _).other _ (by simp <;> omega) _).other _ (by simp <;> omega) _).other _ (by simp <;> omega) _))
    have b1 := Hd.mk (show Blk W (w.heap.size + 1) #[Value.int IntKind.i64 j.kind, Value.int IntKind.i64 j.n, Value.string j.s, Value.slice eD3 j.list.length ed3, Value.slice eD4 j.names.length ed4] 27 by rw [hW]; exact ((((((((((b1.out.other _ (by simp <;> omega) _).other _ (by simp <;> omega) _).other _ (by simp <;> omega) _).other _ (by simp <;> omega) _).other _ (by simp <;> omega) _).set 0 (Value.int IntKind.i64 j.kind)).set 1 (Value.int IntKind.i64 j.n)).set 2 (Value.string j.s)).set 3 (Value.slice eD3 j.list.length ed3)).set 4 (Value.slice eD4 j.names.length ed4)))
    have b2 := Hd.mk (b2.out.fr eF (fun h => by have hlt_ := b2.out.lt; (try simp only at h); omega))
    have hO := Hd.mk (Ty.O_fr hO.out eF (fun k hk hl h => by skip; (try simp only [rng] at hk); (try simp only at hk); (try simp only at h); omega))
    have hO2 := Hd.mk (Ty.O_fr hO2.out eF (fun k hk hl h => by skip; (try simp only [rng] at hk); (try simp only at hk); (try simp only at h); omega))
    clear hW eF
    have z9 := Hd.mk hz_; clear hz_
    have z1_ := z1.out; have z2_ := z2.out; have z3_ := z3.out; have z4_ := z4.out; have z5_ := z5.out; have z6_ := z6.out; have z7_ := z7.out; have z8_ := z8.out; have z9_ := z9.out
    have hSz_ := hB.out.size
    exact ⟨j, j, [Value.int IntKind.i64 j.kind, Value.int IntKind.i64 j.n, Value.string j.s, Value.slice aD3 j.list.length ad3, Value.slice aD4 j.names.length ad4], [Value.int IntKind.i64 j.kind, Value.int IntKind.i64 j.n, Value.string j.s, Value.slice eD3 j.list.length ed3, Value.slice eD4 j.names.length ed4], rfl, Ty.O_mono _ (fun q h => by have h1 := h.1; omega) hO.out, Ty.O_mono _ (fun q h => by have h1 := h.1; omega) hO2.out, hBK.out, hBK.out, hB.out⟩
set_option maxHeartbeats 8000000 in
set_option maxRecDepth 100000 in
theorem spec_DrawJsonSame (A : Option Addr) (c : Nat) (bs : List Int) (w : World) (hr : u8.C w A bs) (hbs : bs.length ≤ 1048576) :
    Calls Try.prog 8 #[.slice A bs.length c] w fun e w' => ∃ (j j2 : J) (cs cs2 : List Value), e = .returned (.tuple #[.agg cs.toArray, .agg cs2.toArray]) ∧ (tJ 9).K w' j cs ∧ (tJ 9).K w' j2 cs2 ∧ (∀ m, bulkJ m j ≤ 30000) ∧ (∀ m, bulkJ m j2 ≤ 30000) ∧ Below w.heap.size w w' := by
  have HBS := Hd.mk hr; clear hr
  have hB := Hd.mk (Below.refl w.heap.size w)
  go_enter Try.func8, Try.ntmps8
  go_wp2_with fail
  apply calls_gen; intro W1 hW
  have hz_ : w.heap.size + 2 ≤ W1.heap.size := by rw [hW]; simp
  have hE : Below w.heap.size w W1 := by rw [hW]; (repeat (first | with_reducible refine below_alloc ?_ _ | with_reducible refine below_drew ?_)); exact Below.refl _ _
  have hB := Hd.mk (below_then hB.out hE)
  have b0 := Hd.mk (show Blk W1 (w.heap.size) #[Value.int IntKind.i64 0, Value.int IntKind.i64 0, Value.string ⟨#[]⟩, Value.slice none 0 0, Value.slice none 0 0] 27 by rw [hW]; first | exact ((Blk.new _ _ _).alloc _) | (simpa using ((Blk.new _ _ _).alloc _)))
  have b1 := Hd.mk (show Blk W1 (w.heap.size + 1) #[Value.int IntKind.i64 0, Value.int IntKind.i64 0, Value.string ⟨#[]⟩, Value.slice none 0 0, Value.slice none 0 0] 27 by rw [hW]; first | exact (Blk.new1 _ _ _ _) | (simpa using (Blk.new1 _ _ _ _)))
  clear hW hE
  have z1 := Hd.mk hz_; clear hz_
  refine (spec_l1DrawTwo A c bs _ (C_below HBS.out hB.out) hbs).mono ?_
  rintro e w2 ⟨j, j2, cs, cs2, rfl, hK, hK2, hBK, hBK2, hX⟩
  have b0 := Hd.mk (b0.out.below hX)
  have b1 := Hd.mk (b1.out.below hX)
  have hB := Hd.mk (below_then hB.out hX)
  have hz_ := hX.size
  clear hX
  have z2 := Hd.mk hz_; clear hz_
  replace hBK := Hd.mk hBK; replace hBK2 := Hd.mk hBK2
  obtain ⟨av3, av4, _, _, rfl, _, ar3, ar4, _⟩ := tJ_O.1 hK
  obtain ⟨aD3, ad3, rfl, _, _⟩ := R_C ar3
  obtain ⟨aD4, ad4, rfl, _, _⟩ := R_C ar4
  clear ar3 ar4
  replace hK := Hd.mk (show (tJ 9).O w2 (rng W1.heap.size w2.heap.size) j _ from Ty.O_bound _ hK)
  obtain ⟨ev3, ev4, _, _, rfl, _, er3, er4, _⟩ := tJ_O.1 hK2
  obtain ⟨eD3, ed3, rfl, _, _⟩ := R_C er3
  obtain ⟨eD4, ed4, rfl, _, _⟩ := R_C er4
  clear er3 er4
  replace hK2 := Hd.mk (show (tJ 9).O w2 (rng W1.heap.size w2.heap.size) j2 _ from Ty.O_bound _ hK2)
  have fb0_0 : w2.cell? ⟨w.heap.size, 0, none⟩ = some (Value.int IntKind.i64 0) := b0.out.cell 0 rfl
  have fb0_1 : w2.cell? ⟨w.heap.size, 1, none⟩ = some (Value.int IntKind.i64 0) := b0.out.cell 1 rfl
  have fb0_2 : w2.cell? ⟨w.heap.size, 2, none⟩ = some (Value.string ⟨#[]⟩) := b0.out.cell 2 rfl
  have fb0_3 : w2.cell? ⟨w.heap.size, 3, none⟩ = some (Value.slice none 0 0) := b0.out.cell 3 rfl
  have fb0_4 : w2.cell? ⟨w.heap.size, 4, none⟩ = some (Value.slice none 0 0) := b0.out.cell 4 rfl
  have fb0_z := b0.out.frozen
  have fb1_0 : w2.cell? ⟨w.heap.size + 1, 0, none⟩ = some (Value.int IntKind.i64 0) := b1.out.cell 0 rfl
  have fb1_1 : w2.cell? ⟨w.heap.size + 1, 1, none⟩ = some (Value.int IntKind.i64 0) := b1.out.cell 1 rfl
  have fb1_2 : w2.cell? ⟨w.heap.size + 1, 2, none⟩ = some (Value.string ⟨#[]⟩) := b1.out.cell 2 rfl
  have fb1_3 : w2.cell? ⟨w.heap.size + 1, 3, none⟩ = some (Value.slice none 0 0) := b1.out.cell 3 rfl
  have fb1_4 : w2.cell? ⟨w.heap.size + 1, 4, none⟩ = some (Value.slice none 0 0) := b1.out.cell 4 rfl
  have fb1_z := b1.out.frozen
  go_wp2_with fail
  clear fb0_0 fb0_1 fb0_2 fb0_3 fb0_4 fb0_z fb1_0 fb1_1 fb1_2 fb1_3 fb1_4 fb1_z
  apply wp_gen; intro Wr hW
  have hz_ : w2.heap.size + 2 ≤ Wr.heap.size := by rw [hW]; simp
  have hE : Below w2.heap.size w2 Wr := by rw [hW]; (repeat (first | with_reducible refine below_alloc ?_ _ | with_reducible refine below_drew ?_)); exact Below.refl _ _
  have hB := Hd.mk (below_then hB.out hE)
  have b0 := Hd.mk (b0.out.below hE)
  have b1 := Hd.mk (b1.out.below hE)
  have b2 := Hd.mk (show Blk Wr (w2.heap.size) #[Value.int IntKind.i64 j.kind, Value.int IntKind.i64 j.n, Value.string j.s, Value.slice aD3 j.list.length ad3, Value.slice aD4 j.names.length ad4] 27 by rw [hW]; first | exact ((Blk.new _ _ _).alloc _) | (simpa using ((Blk.new _ _ _).alloc _)))
  have b3 := Hd.mk (show Blk Wr (w2.heap.size + 1) #[Value.int IntKind.i64 j2.kind, Value.int IntKind.i64 j2.n, Value.string j2.s, Value.slice eD3 j2.list.length ed3, Value.slice eD4 j2.names.length ed4] 27 by rw [hW]; first | exact (Blk.new1 _ _ _ _) | (simpa using (Blk.new1 _ _ _ _)))
  have hK := Hd.mk (Ty.O_below hK.out hE)
  have hK2 := Hd.mk (Ty.O_below hK2.out hE)
  clear hW hE
  have z3 := Hd.mk hz_; clear hz_
  have fb0_0 : Wr.cell? ⟨w.heap.size, 0, none⟩ = some (Value.int IntKind.i64 0) := b0.out.cell 0 rfl
  have fb0_1 : Wr.cell? ⟨w.heap.size, 1, none⟩ = some (Value.int IntKind.i64 0) := b0.out.cell 1 rfl
  have fb0_2 : Wr.cell? ⟨w.heap.size, 2, none⟩ = some (Value.string ⟨#[]⟩) := b0.out.cell 2 rfl
  have fb0_3 : Wr.cell? ⟨w.heap.size, 3, none⟩ = some (Value.slice none 0 0) := b0.out.cell 3 rfl
  have fb0_4 : Wr.cell? ⟨w.heap.size, 4, none⟩ = some (Value.slice none 0 0) := b0.out.cell 4 rfl
  have fb0_z := b0.out.frozen
  have fb1_0 : Wr.cell? ⟨w.heap.size + 1, 0, none⟩ = some (Value.int IntKind.i64 0) := b1.out.cell 0 rfl
  have fb1_1 : Wr.cell? ⟨w.heap.size + 1, 1, none⟩ = some (Value.int IntKind.i64 0) := b1.out.cell 1 rfl
  have fb1_2 : Wr.cell? ⟨w.heap.size + 1, 2, none⟩ = some (Value.string ⟨#[]⟩) := b1.out.cell 2 rfl
  have fb1_3 : Wr.cell? ⟨w.heap.size + 1, 3, none⟩ = some (Value.slice none 0 0) := b1.out.cell 3 rfl
  have fb1_4 : Wr.cell? ⟨w.heap.size + 1, 4, none⟩ = some (Value.slice none 0 0) := b1.out.cell 4 rfl
  have fb1_z := b1.out.frozen
  have fb2_0 : Wr.cell? ⟨w2.heap.size, 0, none⟩ = some (Value.int IntKind.i64 j.kind) := b2.out.cell 0 rfl
  have fb2_1 : Wr.cell? ⟨w2.heap.size, 1, none⟩ = some (Value.int IntKind.i64 j.n) := b2.out.cell 1 rfl
  have fb2_2 : Wr.cell? ⟨w2.heap.size, 2, none⟩ = some (Value.string j.s) := b2.out.cell 2 rfl
  have fb2_3 : Wr.cell? ⟨w2.heap.size, 3, none⟩ = some (Value.slice aD3 j.list.length ad3) := b2.out.cell 3 rfl
  have fb2_4 : Wr.cell? ⟨w2.heap.size, 4, none⟩ = some (Value.slice aD4 j.names.length ad4) := b2.out.cell 4 rfl
  have fb2_z := b2.out.frozen
  have fb3_0 : Wr.cell? ⟨w2.heap.size + 1, 0, none⟩ = some (Value.int IntKind.i64 j2.kind) := b3.out.cell 0 rfl
  have fb3_1 : Wr.cell? ⟨w2.heap.size + 1, 1, none⟩ = some (Value.int IntKind.i64 j2.n) := b3.out.cell 1 rfl
  have fb3_2 : Wr.cell? ⟨w2.heap.size + 1, 2, none⟩ = some (Value.string j2.s) := b3.out.cell 2 rfl
  have fb3_3 : Wr.cell? ⟨w2.heap.size + 1, 3, none⟩ = some (Value.slice eD3 j2.list.length ed3) := b3.out.cell 3 rfl
  have fb3_4 : Wr.cell? ⟨w2.heap.size + 1, 4, none⟩ = some (Value.slice eD4 j2.names.length ed4) := b3.out.cell 4 rfl
  have fb3_z := b3.out.frozen
  have z1_ := z1.out; have z2_ := z2.out; have z3_ := z3.out
  go_region
  all_goals (try (go_wp2_with fail))
  all_goals (refine bodyPost_retW (v := .tuple #[.agg #[Value.int IntKind.i64 j.kind, Value.int IntKind.i64 j.n, Value.string j.s, Value.slice aD3 j.list.length ad3, Value.slice aD4 j.names.length ad4], .agg #[Value.int IntKind.i64 j2.kind, Value.int IntKind.i64 j2.n, Value.string j2.s, Value.slice eD3 j2.list.length ed3, Value.slice eD4 j2.names.length ed4]]) (by simp [results, Try.results8, go_sem, fb0_0, fb0_1, fb0_2, fb0_3, fb0_4, fb0_z, fb1_0, fb1_1, fb1_2, fb1_3, fb1_4, fb1_z, fb2_0, fb2_1, fb2_2, fb2_3, fb2_4, fb2_z, fb3_0, fb3_1, fb3_2, fb3_3, fb3_4, fb3_z]) rfl ?_; intro W hW; have eF2 : Fr Wr W (fun q => q = w.heap.size ∨ q = w.heap.size + 1) := by { rw [hW]; (repeat (first | with_reducible refine Fr.setCell (S := (fun q => q = w.heap.size ∨ q = w.heap.size + 1)) ?_ _ (fun _ => by simp) _ | with_reducible refine Fr.drew ?_ | with_reducible refine Fr.drewN ?_ _)); exact Fr.refl _ _ }; exact ⟨j, j2, [Value.int IntKind.i64 j.kind, Value.int IntKind.i64 j.n, Value.string j.s, Value.slice aD3 j.list.length ad3, Value.slice aD4 j.names.length ad4], [Value.int IntKind.i64 j2.kind, Value.int IntKind.i64 j2.n, Value.string j2.s, Value.slice eD3 j2.list.length ed3, Value.slice eD4 j2.names.length ed4], rfl, Ty.O_K _ (Ty.O_fr hK.out eF2 (fun k hk hl h => by (try simp only [rng] at hk); (try simp only at h); omega)), Ty.O_K _ (Ty.O_fr hK2.out eF2 (fun k hk hl h => by (try simp only [rng] at hk); (try simp only at h); omega)), hBK.out, hBK2.out, below_frS hB.out eF2 (fun k hk => by (try simp only at hk); omega)⟩)
end Go.Proofs.Ytlkjpnlpankhpaa.X
