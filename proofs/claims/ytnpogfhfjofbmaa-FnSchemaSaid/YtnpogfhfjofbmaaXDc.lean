/- What is proved here: draws of schemas. Conditions: none. -/
import Derived.Test.YtnpogfhfjofbmaaXDb
namespace Go.Proofs.Ytnpogfhfjofbmaa.X
open Go.RowKit Go.Sort
set_option linter.unusedVariables false
set_option linter.unusedSimpArgs false
open Ty
theorem R_ints {W0 : World} (l : List Int) (hl : l.length ≤ 1000) : int.R 3 (W0.alloc (.cells (l.map (Value.int .i64)).toArray 3)) (fun k => k = W0.heap.size) (.slice (some ⟨W0.heap.size, 0, none⟩) l.length l.length) l := by
  refine R_block (cap := l.length) (heap_alloc_new W0 _) rfl (Nat.le_refl _) (by omega) (by simp [int, scal]) (fun _ => 0) (fun i x h => ?_)
  have hi := (List.getElem?_eq_some_iff.1 h).1
  have hx := (List.getElem?_eq_some_iff.1 h).2
  show (((l.map (Value.int .i64)).toArray.toList).drop (i * 1)).take 1 = [.int .i64 x]
  rw [Nat.mul_one, List.drop_eq_getElem_cons (by simpa using hi)]
  simp [hx]
set_option maxHeartbeats 8000000 in
set_option maxRecDepth 100000 in
theorem spec_l1PickInt {S : Nat → Prop} (A : Option Addr) (n c : Nat) (l : List Int) (W0 w : World) (g : Nat) (hR : int.R 3 w S (.slice A n c) l) (hS : ¬ S g) (hn : n = l.length) (h0 : 0 < l.length) (h2 : l.length ≤ 200) (hc : Cur W0 w g) :
    Calls Try.prog 121 #[.pointer (some ⟨g, 0, none⟩), .slice A n c] w fun e w' => ∃ x : Int, e = .returned (.int .i64 x) ∧ x ∈ l ∧ Cur W0 w' g ∧ Fr w w' (fun k => k = g) := by
  subst hn
  have HR := Hd.mk hR; clear hR
  have HC := Hd.mk hc; clear hc
  go_enter Try.func121, Try.ntmps121
  go_wp2_with fail
  refine (spec_l1Below l.length W0 w g HC.out).mono ?_
  rintro e w1 ⟨x, rfl, x0, x1, _, hC, hX⟩
  replace x1 := x1 (by omega)
  obtain ⟨k, rfl⟩ := Int.eq_ofNat_of_zero_le x0
  have hk : k < l.length := by omega
  have HC1 := Hd.mk hC; clear hC
  have HR1 := Hd.mk (R_fr HR.out hX (fun k hk _ h => hS (by have h : k = g := h; exact h ▸ hk)))
  have HX := Hd.mk hX; clear hX
  obtain ⟨ad, rfl, y0⟩ := C_int_at (R_Cv HR1.out) (Below.refl _ _) k hk
  go_wp2_with fail
  go_ret
  exact ⟨_, rfl, List.getElem_mem hk, HC1.out, HX.out⟩
set_option maxHeartbeats 8000000 in
set_option maxRecDepth 100000 in
theorem spec_l6DrawSchema (W0 w : World) (g : Nat) (hc : Cur W0 w g) :
    Calls Try.prog 169 #[.pointer (some ⟨g, 0, none⟩)] w fun e w' => ∃ (v : Value) (l : List Int), e = .returned (.agg #[v]) ∧ int.R 3 w' (fun k => w.heap.size ≤ k) v l ∧ 1 ≤ l.length ∧ l.length ≤ 3 ∧ (∀ x ∈ l, 1 ≤ x ∧ x ≤ 4) ∧ Cur W0 w' g ∧ Fr w w' (fun k => k = g) := by
  have hg := Hd.mk hc.lt
  have hC := Hd.mk hc; clear hc
  have hB := Hd.mk (Fr.refl w (fun k => k = g))
  go_enter Try.func169, Try.ntmps169
  go_wp2_with fail
  go_loopw [4] (fun i wr => ∃ (k : Nat) (v : Value) (l : List Int), k ≤ 3 ∧ i = .int .i64 k ∧ Hd (l.length = k) ∧ Hd (∀ x ∈ l, 1 ≤ x ∧ x ≤ 4) ∧ Hd (Blk wr (w.heap.size) #[Value.slice none 0 0] 34) ∧ Hd (Blk wr (w.heap.size + 1) #[v] 34) ∧ Hd (int.R 3 wr (fun k => w.heap.size ≤ k ∧ k ≠ w.heap.size ∧ k ≠ w.heap.size + 1) v l) ∧ Hd (Cur W0 wr g) ∧ Hd (Fr w wr (fun k => k = g)) ∧ Hd (w.heap.size + 2 ≤ wr.heap.size)) (fun i _ => 3 - (intOf i).toNat)
  case atStart => exact ⟨0, .slice none 0 0, [], Nat.zero_le _, rfl, ⟨rfl⟩, ⟨by simp⟩, ⟨(Blk.new _ _ _).alloc _⟩, ⟨Blk.new1 _ _ _ _⟩, ⟨R_nil⟩, ⟨hC.out.below (below_alloc (below_alloc (Below.refl _ _) _) _)⟩, ⟨(hB.out.alloc _).alloc _⟩, ⟨by simp⟩⟩
  case round =>
    clear hB hC
    obtain ⟨k, v, l, hk3, rfl, hl, hP, b0, b1, hL, hC, hB, hzw⟩ := hrel
    obtain ⟨AL, cL, hvL, hcL, _⟩ := R_C hL.out
    rw [hl.out] at hvL hcL
    subst hvL
    have fb0_0 : wr.cell? ⟨w.heap.size, 0, none⟩ = some (Value.slice none 0 0) := b0.out.cell 0 rfl
    have fb0_z := b0.out.frozen
    have fb1_0 : wr.cell? ⟨w.heap.size + 1, 0, none⟩ = some (Value.slice AL k cL) := b1.out.cell 0 rfl
    have fb1_z := b1.out.frozen
    go_wp2_with fail
    clear fb0_0 fb0_z fb1_0 fb1_z
    refine (spec_l1Below 3 W0 _ g hC.out).mono ?_
    rintro e w1 ⟨x, rfl, x0, x1, _, hC1, hX⟩
    have hC := Hd.mk hC1; clear hC1
    have hSz0 := hB.out.size
    have hg_ := hg.out
    have hzw_ := hzw.out
    have b0 := Hd.mk (b0.out.fr hX (fun h => by skip; (try simp only at h); omega))
    have b1 := Hd.mk (b1.out.fr hX (fun h => by skip; (try simp only at h); omega))
    have hL := Hd.mk (R_fr hL.out hX (fun k hk hl h => by have q_ := hk.1; (try simp only [rng] at hk); (try simp only at hk); (try simp only at h); omega))
    have hB := Hd.mk (hB.out.trans hX)
    have hz_ := hX.size
    clear hSz0 hg_ hX
    have z1 := Hd.mk hz_; clear hz_
    replace x1 := x1 (by omega)
    by_cases hlt : (k : Int) < 1 + x
    · have hk2 : k ≤ 2 := by omega
      have fb0_0 : w1.cell? ⟨w.heap.size, 0, none⟩ = some (Value.slice none 0 0) := b0.out.cell 0 rfl
      have fb0_z := b0.out.frozen
      have fb1_0 : w1.cell? ⟨w.heap.size + 1, 0, none⟩ = some (Value.slice AL k cL) := b1.out.cell 0 rfl
      have fb1_z := b1.out.frozen
      go_wp2_with fail
      clear fb0_0 fb0_z fb1_0 fb1_z
      have sb0 := Hd.mk b0.out
      have sb1 := Hd.mk b1.out
      refine region_mixC (fun w2 => Fr w1 w2 (fun k => k = g)) (.p 0 (.q 1 (.p 2 (.b 3 (.p 4 (.b 5 .fin)))))) [6, 7, 8] (by kernel_rfl) (Fr.drew (Fr.refl _ _)) (by kernel_rfl) (fun _ _ _ _ _ h => h) ?_
      refine genT ?_
      intro W2 hW
      have hS := Hd.mk (show Fr w1 W2 (fun k => k = g) by rw [hW]; exact Fr.drew (Fr.refl _ _))
      have hz_ : w1.heap.size ≤ W2.heap.size := by rw [hW]; simp
      have hE : Below w1.heap.size w1 W2 := by rw [hW]; (repeat (first | with_reducible refine below_alloc ?_ _ | with_reducible refine below_drew ?_)); exact Below.refl _ _
      have hB := Hd.mk (hB.out.trans (Fr.of_below hE _))
      have hC := Hd.mk (hC.out.below hE)
      have b0 := Hd.mk (b0.out.below hE)
      have b1 := Hd.mk (b1.out.below hE)
      have hL := Hd.mk (R_below hL.out hE)
      clear hW hE
      have z2 := Hd.mk hz_; clear hz_
      refine mixT_p rfl ?_
      go_big_quiet_want; go_big_quiet_op; go_big_quiet_on; refine wpQuiet_nil ?_
      refine mixT_see rfl (by rfl) (Value.slice AL k cL) (fun w_ hw_ => by have hzw_ := hzw.out; have z1_ := z1.out; have z2_ := z2.out; have f0_ := (sb1.out.fr hw_ (fun h => by have hg_ := hg.out; skip; have hlt_ := sb1.out.lt; (try simp only at h); omega)).cell 0 rfl; simp [execOp, go_sem, f0_]) hS.out ?_
      have fb0_0 : W2.cell? ⟨w.heap.size, 0, none⟩ = some (Value.slice none 0 0) := b0.out.cell 0 rfl
      have fb0_z := b0.out.frozen
      have fb1_0 : W2.cell? ⟨w.heap.size + 1, 0, none⟩ = some (Value.slice AL k cL) := b1.out.cell 0 rfl
      have fb1_z := b1.out.frozen
      go_wp2_with fail
      refine mixQ_n ?_
      clear fb0_0 fb0_z fb1_0 fb1_z
      refine mixT_p rfl ?_
      go_big_quiet_want; go_big_quiet_op; go_big_quiet_on; refine wpQuiet_nil ?_
      refine mixT_b rfl ?_ (by rfl)
      go_wp2_with fail
      apply calls_gen; intro W3 hW
      have hz_ : W2.heap.size ≤ W3.heap.size := by rw [hW]; simp
      have hE : Below W2.heap.size W2 W3 := by rw [hW]; (repeat (first | with_reducible refine below_alloc ?_ _ | with_reducible refine below_drew ?_)); exact Below.refl _ _
      have hB := Hd.mk (hB.out.trans (Fr.of_below hE _))
      have hC := Hd.mk (hC.out.below hE)
      replace hS := Hd.mk (hS.out.trans (Fr.of_below hE _))
      have b0 := Hd.mk (b0.out.below hE)
      have b1 := Hd.mk (b1.out.below hE)
      have hL := Hd.mk (R_below hL.out hE)
      clear hW hE
      have z3 := Hd.mk hz_; clear hz_
      refine (spec_l1Below 4 W0 _ g hC.out).mono ?_
      rintro e w4 ⟨y, rfl, y0, y1, _, hC1, hX⟩
      have hC := Hd.mk hC1; clear hC1
      have hSz0 := hB.out.size
      have hg_ := hg.out
      have hzw_ := hzw.out; have z1_ := z1.out; have z2_ := z2.out; have z3_ := z3.out
      have b0 := Hd.mk (b0.out.fr hX (fun h => by skip; (try simp only at h); omega))
      have b1 := Hd.mk (b1.out.fr hX (fun h => by skip; (try simp only at h); omega))
      have hL := Hd.mk (R_fr hL.out hX (fun k hk hl h => by have q_ := hk.1; (try simp only [rng] at hk); (try simp only at hk); (try simp only at h); omega))
      have hB := Hd.mk (hB.out.trans hX)
      replace hS := Hd.mk (hS.out.trans hX)
      have hz_ := hX.size
      clear hSz0 hg_ hX
      have z4 := Hd.mk hz_; clear hz_
      replace y1 := y1 (by omega)
      go_wp2_with fail
      refine ⟨hS.out, ?_⟩
      refine mixT_p rfl ?_
      go_big_quiet_want; go_big_quiet_op; go_big_quiet_on; refine wpQuiet_nil ?_
      refine mixT_b rfl ?_ (by rfl)
      go_wp2_with fail
      refine ⟨hS.out.alloc _, ?_⟩
      refine genT ?_; intro W5 hW
      have hE0 := Hd.mk (show int.R 3 W5 (fun k => k = w4.heap.size) (.slice (some ⟨w4.heap.size, 0, none⟩) 1 1) [1 + y] by rw [hW]; exact R_int1 (1 + y))
      have hz_ : w4.heap.size + 1 ≤ W5.heap.size := by rw [hW]; simp
      have hE : Below w4.heap.size w4 W5 := by rw [hW]; (repeat (first | with_reducible refine below_alloc ?_ _ | with_reducible refine below_drew ?_)); exact Below.refl _ _
      have hB := Hd.mk (hB.out.trans (Fr.of_below hE _))
      have hC := Hd.mk (hC.out.below hE)
      replace hS := Hd.mk (hS.out.trans (Fr.of_below hE _))
      have b0 := Hd.mk (b0.out.below hE)
      have b1 := Hd.mk (b1.out.below hE)
      have hL := Hd.mk (R_below hL.out hE)
      clear hW hE
      have z5 := Hd.mk hz_; clear hz_
      refine mixT_fin ?_
      clear hS
      have fb0_0 : W5.cell? ⟨w.heap.size, 0, none⟩ = some (Value.slice none 0 0) := b0.out.cell 0 rfl
      have fb0_z := b0.out.frozen
      have fb1_0 : W5.cell? ⟨w.heap.size + 1, 0, none⟩ = some (Value.slice AL k cL) := b1.out.cell 0 rfl
      have fb1_z := b1.out.frozen
      refine tail_b rfl ?_ (by rfl)
      clear fb0_0 fb0_z fb1_0 fb1_z
      go_wp2_with (at_builtin; refine append_scal (h1 := fun _ => rfl) rfl _ _ 22 3 (.int .i64 0) 8 rfl Try.underlying22 info_int rfl (by decide) (S := fun k => (fun k => w.heap.size ≤ k ∧ k ≠ w.heap.size ∧ k ≠ w.heap.size + 1) k ∧ k < W5.heap.size) (S' := (fun k => w.heap.size ≤ k ∧ k ≠ w.heap.size ∧ k ≠ w.heap.size + 1)) (xs := l) (ys := [1 + y]) rfl rfl (R_bound hL.out) (R_Cv hE0.out) (fun k h => h.1) (fun k h => by have hzw_ := hzw.out; have z1_ := z1.out; have z2_ := z2.out; have z3_ := z3.out; have z4_ := z4.out; have z5_ := z5.out; have := hB.out.size; (try simp only at h); refine ⟨by omega, by omega, by omega⟩) (by have := hl.out; simp; omega) (fun v2 w6 hv2 hX => ?_))
      clear hE0
      have hL2 := Hd.mk hv2; clear hv2
      have hzw_ := hzw.out; have z1_ := z1.out; have z2_ := z2.out; have z3_ := z3.out; have z4_ := z4.out; have z5_ := z5.out
      have hzw_ := hzw.out; have z1_ := z1.out; have z2_ := z2.out; have z3_ := z3.out; have z4_ := z4.out; have z5_ := z5.out
      have hSz := hB.out.size
      have b0 := Hd.mk (b0.out.fr hX (fun h => by have hlt_ := b0.out.lt; have hh_ := h.1; (try simp only [rng] at h); (try simp only at h); omega))
      have b1 := Hd.mk (b1.out.fr hX (fun h => by have hlt_ := b1.out.lt; have hh_ := h.1; (try simp only [rng] at h); (try simp only at h); omega))
      have hC := Hd.mk (hC.out.fr hX (fun h => by have hg_ := hg.out; have hlt_ := hC.out.lt; have hh_ := h.1; (try simp only [rng] at h); (try simp only at h); omega) (fun k h => by have hg_ := hg.out; have hge_ := hC.out.ge; have hh_ := h.1; (try simp only [rng] at h); (try simp only at h); omega))
      have hB := Hd.mk (hB.out.then_ hX (fun k h hl => by have hh_ := h.1; (try simp only [rng] at h); (try simp only at h); omega))
      have hz_ := hX.size
      clear hX
      have z6 := Hd.mk hz_; clear hz_
      obtain ⟨A2, c2, hv2, hc2, _⟩ := R_C hL2.out
      subst hv2
      have hl2_ : (l ++ [1 + y]).length = k + 1 := by rw [List.length_append, hl.out]; rfl
      rw [hl2_] at hc2 ⊢
      have hl2 := Hd.mk hl2_; clear hl2_
      have hP2 := Hd.mk (show ∀ x ∈ l ++ [1 + y], 1 ≤ x ∧ x ≤ 4 from fun x hx => by rcases List.mem_append.1 hx with hx | hx; exact hP.out x hx; rw [List.mem_singleton] at hx; omega)
      have fb0_0 : w6.cell? ⟨w.heap.size, 0, none⟩ = some (Value.slice none 0 0) := b0.out.cell 0 rfl
      have fb0_z := b0.out.frozen
      have fb1_0 : w6.cell? ⟨w.heap.size + 1, 0, none⟩ = some (Value.slice AL k cL) := b1.out.cell 0 rfl
      have fb1_z := b1.out.frozen
      refine mixQ_n ?_
      refine tail_b rfl ?_ (by rfl)
      go_wp2_with fail
      refine mixQ_n ?_
      refine tail_b rfl ?_ (by rfl)
      go_wp2_with fail
      refine mixQ_n ?_
      refine tail_nil ?_
      go_wp2_with fail
      clear fb0_0 fb0_z fb1_0 fb1_z
      go_roundw
      case rel =>
        have hzw_ := hzw.out
        have z1_ := z1.out
        have z2_ := z2.out
        have z3_ := z3.out
        have z4_ := z4.out
        have z5_ := z5.out
        have z6_ := z6.out
        refine ⟨k + 1, _, l ++ [1 + y], by omega, by go_num, hl2, hP2, ⟨b0.out.other _ (by (try simp only); omega) _⟩, ⟨b1.out.set 0 _⟩, ⟨R_setCell (by have h5 := hL2.out; rw [hl2.out] at h5; exact h5) (fun h => h.2.2 rfl) _⟩, ⟨hC.out.fr (Fr.setCell (S := fun k => k = w.heap.size + 1) (Fr.refl _ _) _ (fun _ => rfl) _) (fun h => by have := hg.out; have := hC.out.lt; (try simp only at h); omega) (fun k h => by have := hg.out; have := hC.out.ge; (try simp only at h); omega)⟩, ⟨hB.out.then_ (Fr.setCell (S := fun k => k = w.heap.size + 1) (Fr.refl _ _) _ (fun _ => rfl) _) (fun k h hl => by (try simp only at h); omega)⟩, ⟨by simp; omega⟩⟩
      case measure => simp [intOf]; omega
    · have hzw_ := hzw.out; have z1_ := z1.out
      have fb0_0 : w1.cell? ⟨w.heap.size, 0, none⟩ = some (Value.slice none 0 0) := b0.out.cell 0 rfl
      have fb0_z := b0.out.frozen
      have fb1_0 : w1.cell? ⟨w.heap.size + 1, 0, none⟩ = some (Value.slice AL k cL) := b1.out.cell 0 rfl
      have fb1_z := b1.out.frozen
      go_wp2_with fail
      refine bodyPost_retW (v := .agg #[Value.slice AL k cL]) (by simp [results, Try.results169, go_sem, fb0_0, fb0_z, fb1_0, fb1_z]) rfl ?_
      intro W hW
      clear fb0_0 fb0_z fb1_0 fb1_z
      have eF : Fr w1 W (fun k => k = w.heap.size) := by rw [hW]; (repeat (first | with_reducible refine Fr.setCell (S := fun k => k = w.heap.size) ?_ _ (fun _ => rfl) _)); exact Fr.refl _ _
      refine ⟨_, l, rfl, R_mono (fun k h => h.1) (R_fr hL.out eF (fun k hk _ h => hk.2.1 h)), by have := hl.out; omega, by have := hl.out; omega, hP.out, hC.out.fr eF (fun h => by have := hg.out; (try simp only at h); omega) (fun k h => by have := hg.out; have := hC.out.ge; (try simp only at h); omega), hB.out.then_ eF (fun k h hl => by (try simp only at h); omega)⟩
set_option maxHeartbeats 8000000 in
set_option maxRecDepth 100000 in
theorem spec_l6DrawBad (W0 w : World) (g : Nat) (hc : Cur W0 w g) :
    Calls Try.prog 113 #[.pointer (some ⟨g, 0, none⟩)] w fun e w' => ∃ (v : Value) (l : List Int), e = .returned (.agg #[v]) ∧ int.R 3 w' (fun k => w.heap.size ≤ k) v l ∧ l.length ≤ 6 ∧ (∀ x ∈ l, -1 ≤ x ∧ x ≤ 5) ∧ Cur W0 w' g ∧ Fr w w' (fun k => k = g) := by
  have hg := Hd.mk hc.lt
  have hC := Hd.mk hc; clear hc
  have hB := Hd.mk (Fr.refl w (fun k => k = g))
  go_enter Try.func113, Try.ntmps113
  go_wp2_with fail
  apply calls_gen; intro W1 hW
  have hz_ : w.heap.size + 1 ≤ W1.heap.size := by rw [hW]; simp
  have hE : Below w.heap.size w W1 := by rw [hW]; (repeat (first | with_reducible refine below_alloc ?_ _ | with_reducible refine below_drew ?_)); exact Below.refl _ _
  have hB := Hd.mk (hB.out.trans (Fr.of_below hE _))
  have hC := Hd.mk (hC.out.below hE)
  have b0 := Hd.mk (show Blk W1 (w.heap.size) #[Value.slice none 0 0] 34 by rw [hW]; first | exact (Blk.new _ _ _) | (simpa using (Blk.new _ _ _)))
  clear hW hE
  have z1 := Hd.mk hz_; clear hz_
  refine (spec_l6DrawSchema W0 _ g hC.out).mono ?_
  rintro e w2 ⟨v, l, rfl, hL, hl1, hl3, hP, hC1, hX⟩
  have hC := Hd.mk hC1; clear hC1
  have hSz0 := hB.out.size
  have hg_ := hg.out
  have z1_ := z1.out
  have b0 := Hd.mk (b0.out.fr hX (fun h => by skip; (try simp only at h); omega))
  have hB := Hd.mk (hB.out.trans hX)
  have hz_ := hX.size
  clear hSz0 hg_ hX
  have z2 := Hd.mk hz_; clear hz_
  obtain ⟨AL, cL, hvL, hcL, _⟩ := R_C hL
  subst hvL
  have hL := Hd.mk (show int.R 3 w2 (rng W1.heap.size w2.heap.size) _ l from R_bound hL)
  replace hP := Hd.mk (show ∀ x ∈ l, -1 ≤ x ∧ x ≤ 5 from fun x hx => by have := hP x hx; omega)
  have hge0 := Hd.mk (show w.heap.size ≤ W1.heap.size by have := hB.out.size; have z1_ := z1.out; have z2_ := z2.out; omega)
  have z1_ := z1.out; have z2_ := z2.out
  have hlt0 : w.heap.size < w2.heap.size := by omega
  have hne0 : ¬ w.heap.size = w2.heap.size := by omega
  have hnf0 : ¬ w2.heap.size = w.heap.size := by omega
  clear z1_ z2_
  have fb0_0 : w2.cell? ⟨w.heap.size, 0, none⟩ = some (Value.slice none 0 0) := b0.out.cell 0 rfl
  have fb0_z := b0.out.frozen
  go_wp2_with fail
  clear fb0_0 fb0_z
  clear hlt0 hne0 hnf0
  apply calls_gen; intro W3 hW
  have hz_ : w2.heap.size + 1 ≤ W3.heap.size := by rw [hW]; simp
  have hE : Below w2.heap.size w2 W3 := by rw [hW]; (repeat (first | with_reducible refine below_alloc ?_ _ | with_reducible refine below_drew ?_)); exact Below.refl _ _
  have hB := Hd.mk (hB.out.trans (Fr.of_below hE _))
  have hC := Hd.mk (hC.out.below hE)
  have b0 := Hd.mk (b0.out.below hE)
  have b1 := Hd.mk (show Blk W3 (w2.heap.size) #[Value.slice AL l.length cL] 34 by rw [hW]; first | exact (Blk.new _ _ _) | (simpa using (Blk.new _ _ _)))
  have hL := Hd.mk (R_below hL.out hE)
  clear hW hE
  have z3 := Hd.mk hz_; clear hz_
  refine (spec_l1Below 12 W0 _ g hC.out).mono ?_
  rintro e w4 ⟨x, rfl, x0, x1, _, hC1, hX⟩
  have hC := Hd.mk hC1; clear hC1
  have hSz0 := hB.out.size
  have hg_ := hg.out
  have z1_ := z1.out; have z2_ := z2.out; have z3_ := z3.out
  have b0 := Hd.mk (b0.out.fr hX (fun h => by skip; (try simp only at h); omega))
  have b1 := Hd.mk (b1.out.fr hX (fun h => by skip; (try simp only at h); omega))
  have hL := Hd.mk (R_fr hL.out hX (fun k hk hl h => by have hg_ := hg.out; (try simp only [rng] at hk); (try simp only at hk); (try simp only at h); omega))
  have hB := Hd.mk (hB.out.trans hX)
  have hz_ := hX.size
  clear hSz0 hg_ hX
  have z4 := Hd.mk hz_; clear hz_
  by_cases h0 : x = 0
  · subst h0
    have z1_ := z1.out; have z2_ := z2.out; have z3_ := z3.out; have z4_ := z4.out
    have hgx := hg.out
    have hBs := hB.out.size
    have hlt1 : w.heap.size < w2.heap.size := by omega
    have hne1 : ¬ w.heap.size = w2.heap.size := by omega
    have hnf1 : ¬ w2.heap.size = w.heap.size := by omega
    have fb0_0 : w4.cell? ⟨w.heap.size, 0, none⟩ = some (Value.slice none 0 0) := b0.out.cell 0 rfl
    have fb0_z := b0.out.frozen
    have fb1_0 : w4.cell? ⟨w2.heap.size, 0, none⟩ = some (Value.slice AL l.length cL) := b1.out.cell 0 rfl
    have fb1_z := b1.out.frozen
    have hE0 := Hd.mk (R_ints (W0 := w4) [1, 1, 1] (by decide))
    simp only [List.map_cons, List.map_nil, List.length_cons, List.length_nil] at hE0
    go_wp2_with (at_builtin; refine append_scal (h1 := fun _ => rfl) rfl _ _ 22 3 (.int .i64 0) 8 rfl Try.underlying22 info_int rfl (by decide) (S := rng W1.heap.size w2.heap.size) (S' := (fun k => W1.heap.size ≤ k ∧ k ≠ w2.heap.size)) (v := .slice AL l.length cL) (xs := l) (ys := [1, 1, 1]) (A := some ⟨w4.heap.size, 0, none⟩) (c := 3) rfl rfl (R_below hL.out (below_alloc (Below.refl _ _) _)) (R_Cv hE0.out) (fun k h => by have h5 := h.1; have h6 := h.2; refine ⟨by omega, by omega⟩) (fun k h => by simp at h; refine ⟨by omega, by omega⟩) (by simp; omega) (fun v2 w5 hv2 hX0 => ?_); obtain ⟨l2, hl2⟩ : ∃ z, z = l ++ [1, 1, 1] := ⟨_, rfl⟩; rw [← hl2] at hv2; have HL2 := Hd.mk hl2; clear hl2; obtain ⟨A2, c2, hv2e, hc2, _⟩ := R_C hv2; subst hv2e; have hX := (Fr.of_below (below_alloc (Below.refl w4.heap.size w4) _) _).trans hX0; have Yb0 := b0.out.fr hX (fun h => by (try simp only [rng] at h); (try simp only at h); omega); have yb0_0 := Yb0.cell 0 rfl; have yb0_z := Yb0.frozen; have Yb1 := b1.out.fr hX (fun h => by (try simp only [rng] at h); (try simp only at h); omega); have yb1_0 := Yb1.cell 0 rfl; have yb1_z := Yb1.frozen)
    clear fb0_0 fb0_z fb1_0 fb1_z
    clear hX0 hE0 hL Yb0 yb0_0 yb0_z Yb1 yb1_0 yb1_z
    have hl2n : l2.length ≤ 6 := by rw [HL2.out]; simp; omega
    have hP2 := Hd.mk (show ∀ x ∈ l2, -1 ≤ x ∧ x ≤ 5 from fun x hx => by rw [HL2.out] at hx; rcases List.mem_append.1 hx with hx | hx; exact hP.out x hx; simp at hx; omega)
    have hL := Hd.mk (R_bound hv2); clear hv2
    have z1_ := z1.out; have z2_ := z2.out; have z3_ := z3.out; have z4_ := z4.out
    have hSz := hB.out.size
    have b0 := Hd.mk (b0.out.fr hX (fun h => by have hlt_ := b0.out.lt; skip; (try simp only [rng] at h); (try simp only at h); omega))
    have b1 := Hd.mk (b1.out.fr hX (fun h => by have hlt_ := b1.out.lt; skip; (try simp only [rng] at h); (try simp only at h); omega))
    have hC := Hd.mk (hC.out.fr hX (fun h => by have hg_ := hg.out; have hlt_ := hC.out.lt; (try simp only [rng] at h); (try simp only at h); omega) (fun k h => by have hg_ := hg.out; have hge_ := hC.out.ge; (try simp only [rng] at h); (try simp only at h); omega))
    have hB := Hd.mk (hB.out.then_ hX (fun k h hl => by (try simp only [rng] at h); (try simp only at h); omega))
    have hz_ := hX.size
    clear hX
    have z5 := Hd.mk hz_; clear hz_
    have fb0_0 : w5.cell? ⟨w.heap.size, 0, none⟩ = some (Value.slice none 0 0) := b0.out.cell 0 rfl
    have fb0_z := b0.out.frozen
    have fb1_0 : w5.cell? ⟨w2.heap.size, 0, none⟩ = some (Value.slice AL l.length cL) := b1.out.cell 0 rfl
    have fb1_z := b1.out.frozen
    go_wp2_with fail
    refine bodyPost_retW (v := .agg #[Value.slice A2 l2.length c2]) (by simp [results, Try.results113, go_sem, fb0_0, fb0_z, fb1_0, fb1_z, hlt1, hne1, hnf1]) rfl ?_
    intro W hW
    clear fb0_0 fb0_z fb1_0 fb1_z hlt1 hne1 hnf1
    have hz_ : w5.heap.size ≤ W.heap.size := by rw [hW]; simp
    have eF : Fr w5 W (fun k => k = w2.heap.size ∨ k = w.heap.size ∨ w5.heap.size ≤ k) := by rw [hW]; (repeat (first | with_reducible refine Fr.setCell ?_ _ (fun _ => by simp <;> omega) _ | with_reducible refine Fr.alloc ?_ _ | with_reducible refine Fr.drew ?_)); exact Fr.refl _ _
    have z1_ := z1.out; have z2_ := z2.out; have z3_ := z3.out; have z4_ := z4.out; have z5_ := z5.out
    have hC := Hd.mk (hC.out.fr eF (fun h => by have hg_ := hg.out; have hlt_ := hC.out.lt; (try simp only [rng] at h); (try simp only at h); omega) (fun k h => by have hg_ := hg.out; have hge_ := hC.out.ge; (try simp only [rng] at h); (try simp only at h); omega))
    have hB := Hd.mk (hB.out.then_ eF (fun k h hl => by (try simp only [rng] at h); (try simp only at h); omega))
    have b0 := Hd.mk (show Blk W (w.heap.size) #[Value.slice A2 l2.length c2] 34 by rw [hW]; exact ((b0.out.other _ (by simp <;> omega) _).set 0 (Value.slice A2 l2.length c2)))
    have b1 := Hd.mk (show Blk W (w2.heap.size) #[Value.slice A2 l2.length c2] 34 by rw [hW]; exact ((b1.out.set 0 (Value.slice A2 l2.length c2)).other _ (by simp <;> omega) _))
    have hL := Hd.mk (R_fr hL.out eF (fun k hk hl h => by have q_ := hk.1.1; have q2_ := hk.1.2; (try simp only [rng] at hk); (try simp only at hk); (try simp only at h); omega))
    clear hW eF
    have z6 := Hd.mk hz_; clear hz_
    have hBs := hB.out.size
    have z1_ := z1.out; have z2_ := z2.out; have z3_ := z3.out; have z4_ := z4.out; have z5_ := z5.out; have z6_ := z6.out
    exact ⟨_, l2, rfl, R_mono (fun k hk => by have hw_ := hge0.out; have hk1 := hk.1.1; omega) hL.out, hl2n, hP2.out, hC.out, hB.out⟩
  by_cases h1 : x = 1
  · subst h1
    clear h0
    obtain ⟨u0, us, rfl⟩ : ∃ u0 us, l = u0 :: us := by cases l with | nil => simp at hl1 | cons a b => exact ⟨a, b, rfl⟩
    have hlen0 : 0 < (u0 :: us).length := by simp
    obtain ⟨gL, capL, hgL, hSg, _⟩ := R_form hL.out hlen0
    injection hgL with hg1 _ hg2
    subst hg1; subst hg2
    have HSG := Hd.mk hSg; clear hSg
    have fb0_0 : w4.cell? ⟨w.heap.size, 0, none⟩ = some (Value.slice none 0 0) := b0.out.cell 0 rfl
    have fb0_z := b0.out.frozen
    have fb1_0 : w4.cell? ⟨w2.heap.size, 0, none⟩ = some (Value.slice (some ⟨gL, 0, none⟩) (u0 :: us).length cL) := b1.out.cell 0 rfl
    have fb1_z := b1.out.frozen
    go_wp2_with fail
    clear fb0_0 fb0_z fb1_0 fb1_z
    have sb0 := Hd.mk b0.out
    have sb1 := Hd.mk b1.out
    refine region_mixC (fun w2 => Fr w4 w2 (fun k => k = g)) (.p 0 (.q 1 (.p 2 (.b 3 (.b 4 (.q 5 .fin)))))) [6] (by kernel_rfl) (Fr.drew (Fr.refl _ _)) (by kernel_rfl) (fun _ _ _ _ _ h => h) ?_
    refine genT ?_
    intro W5 hW
    have hS := Hd.mk (show Fr w4 W5 (fun k => k = g) by rw [hW]; exact Fr.drew (Fr.refl _ _))
    have hz_ : w4.heap.size ≤ W5.heap.size := by rw [hW]; simp
    have hE : Below w4.heap.size w4 W5 := by rw [hW]; (repeat (first | with_reducible refine below_alloc ?_ _ | with_reducible refine below_drew ?_)); exact Below.refl _ _
    have hB := Hd.mk (hB.out.trans (Fr.of_below hE _))
    have hC := Hd.mk (hC.out.below hE)
    have b0 := Hd.mk (b0.out.below hE)
    have b1 := Hd.mk (b1.out.below hE)
    have hL := Hd.mk (R_below hL.out hE)
    clear hW hE
    have z5 := Hd.mk hz_; clear hz_
    refine mixT_p rfl ?_
    go_big_quiet_want; go_big_quiet_op; go_big_quiet_on; refine wpQuiet_nil ?_
    refine mixT_see rfl (by rfl) (Value.slice (some ⟨gL, 0, none⟩) (u0 :: us).length cL) (fun w_ hw_ => by have z1_ := z1.out; have z2_ := z2.out; have z3_ := z3.out; have z4_ := z4.out; have z5_ := z5.out; have f0_ := (sb1.out.fr hw_ (fun h => by have hg_ := hg.out; skip; have hlt_ := sb1.out.lt; (try simp only at h); omega)).cell 0 rfl; simp [execOp, go_sem, f0_]) hS.out ?_
    have fb0_0 : W5.cell? ⟨w.heap.size, 0, none⟩ = some (Value.slice none 0 0) := b0.out.cell 0 rfl
    have fb0_z := b0.out.frozen
    have fb1_0 : W5.cell? ⟨w2.heap.size, 0, none⟩ = some (Value.slice (some ⟨gL, 0, none⟩) (u0 :: us).length cL) := b1.out.cell 0 rfl
    have fb1_z := b1.out.frozen
    go_wp2_with fail
    refine mixQ_n ?_
    clear fb0_0 fb0_z fb1_0 fb1_z
    refine mixT_p rfl ?_
    go_big_quiet_want; go_big_quiet_op; go_big_quiet_on; refine wpQuiet_nil ?_
    refine mixT_b rfl ?_ (by rfl)
    go_wp2_with fail
    refine ⟨hS.out.alloc _, ?_⟩
    refine genT ?_; intro W6 hW
    have hE0 := Hd.mk (show int.R 3 W6 (fun k => k = W5.heap.size) (.slice (some ⟨W5.heap.size, 0, none⟩) 3 3) [0, 5, -1] by rw [hW]; exact R_ints (W0 := W5) [0, 5, -1] (by decide))
    have hz_ : W5.heap.size + 1 ≤ W6.heap.size := by rw [hW]; simp
    have hE : Below W5.heap.size W5 W6 := by rw [hW]; (repeat (first | with_reducible refine below_alloc ?_ _ | with_reducible refine below_drew ?_)); exact Below.refl _ _
    have hB := Hd.mk (hB.out.trans (Fr.of_below hE _))
    have hC := Hd.mk (hC.out.below hE)
    replace hS := Hd.mk (hS.out.trans (Fr.of_below hE _))
    have b0 := Hd.mk (b0.out.below hE)
    have b1 := Hd.mk (b1.out.below hE)
    have hL := Hd.mk (R_below hL.out hE)
    clear hW hE
    have z6 := Hd.mk hz_; clear hz_
    refine mixT_b rfl ?_ (by rfl)
    go_wp2_with fail
    apply calls_gen; intro W7 hW
    have hz_ : W6.heap.size ≤ W7.heap.size := by rw [hW]; simp
    have hE : Below W6.heap.size W6 W7 := by rw [hW]; (repeat (first | with_reducible refine below_alloc ?_ _ | with_reducible refine below_drew ?_)); exact Below.refl _ _
    have hB := Hd.mk (hB.out.trans (Fr.of_below hE _))
    have hC := Hd.mk (hC.out.below hE)
    replace hS := Hd.mk (hS.out.trans (Fr.of_below hE _))
    have b0 := Hd.mk (b0.out.below hE)
    have b1 := Hd.mk (b1.out.below hE)
    have hL := Hd.mk (R_below hL.out hE)
    have hE0 := Hd.mk (R_below hE0.out hE)
    clear hW hE
    have z7 := Hd.mk hz_; clear hz_
    have hzg := hg.out
    have hzb := hB.out.size
    have z1_ := z1.out; have z2_ := z2.out; have z3_ := z3.out; have z4_ := z4.out; have z5_ := z5.out; have z6_ := z6.out; have z7_ := z7.out
    have hEg := Hd.mk (show ¬ (fun k => k = W5.heap.size) g by (try simp only); omega)
    refine (spec_l1PickInt _ _ _ [0, 5, -1] W0 _ g hE0.out hEg.out rfl (by decide) (by decide) hC.out).mono ?_
    rintro e w8 ⟨y, rfl, hy, hC1, hX⟩
    have hC := Hd.mk hC1; clear hC1
    have hSz0 := hB.out.size
    have hg_ := hg.out
    have z1_ := z1.out; have z2_ := z2.out; have z3_ := z3.out; have z4_ := z4.out; have z5_ := z5.out; have z6_ := z6.out; have z7_ := z7.out
    have b0 := Hd.mk (b0.out.fr hX (fun h => by skip; (try simp only at h); omega))
    have b1 := Hd.mk (b1.out.fr hX (fun h => by skip; (try simp only at h); omega))
    have hL := Hd.mk (R_fr hL.out hX (fun k hk hl h => by have hg_ := hg.out; (try simp only [rng] at hk); (try simp only at hk); (try simp only at h); omega))
    have hE0 := Hd.mk (R_fr hE0.out hX (fun k hk hl h => by skip; (try simp only [rng] at hk); (try simp only at hk); (try simp only at h); omega))
    have hB := Hd.mk (hB.out.trans hX)
    replace hS := Hd.mk (hS.out.trans hX)
    have hz_ := hX.size
    clear hSz0 hg_ hX
    have z8 := Hd.mk hz_; clear hz_
    have hy2 : -1 ≤ y ∧ y ≤ 5 := by simp at hy; omega
    clear hy
    go_wp2_with fail
    refine ⟨hS.out, ?_⟩
    refine mixT_see rfl (by rfl) (Value.pointer (some ⟨gL, 0, none⟩)) (fun w_ hw_ => by first | (simp [execOp, go_sem]; done) | kernel_rfl) hS.out ?_
    have fb0_0 : w8.cell? ⟨w.heap.size, 0, none⟩ = some (Value.slice none 0 0) := b0.out.cell 0 rfl
    have fb0_z := b0.out.frozen
    have fb1_0 : w8.cell? ⟨w2.heap.size, 0, none⟩ = some (Value.slice (some ⟨gL, 0, none⟩) (u0 :: us).length cL) := b1.out.cell 0 rfl
    have fb1_z := b1.out.frozen
    go_wp2_with fail
    refine mixQ_n ?_
    clear fb0_0 fb0_z fb1_0 fb1_z
    refine mixT_fin ?_
    clear hS
    have fb0_0 : w8.cell? ⟨w.heap.size, 0, none⟩ = some (Value.slice none 0 0) := b0.out.cell 0 rfl
    have fb0_z := b0.out.frozen
    have fb1_0 : w8.cell? ⟨w2.heap.size, 0, none⟩ = some (Value.slice (some ⟨gL, 0, none⟩) (u0 :: us).length cL) := b1.out.cell 0 rfl
    have fb1_z := b1.out.frozen
    refine tail_b rfl ?_ (by rfl)
    obtain ⟨hgl, k0, kz, hst⟩ := R_store1 (i := 0) (x := u0) (fun _ => rfl) hL.out rfl
    have HST := Hd.mk (hst y); clear hst
    go_wp2_with fail
    refine mixQ_n ?_
    refine tail_nil ?_
    clear fb0_0 fb0_z fb1_0 fb1_z
    refine exit_gen ?_; intro W9 hW
    have hL := Hd.mk (show int.R 3 W9 (rng W1.heap.size w2.heap.size) (.slice (some ⟨gL, 0, none⟩) (u0 :: us).length cL) (y :: us) by rw [hW]; exact HST.out)
    have hX : Fr w8 W9 (rng W1.heap.size w2.heap.size) := by rw [hW]; exact Fr.setCell (Fr.refl _ _) _ (fun _ => HSG.out) _
    clear hW HST k0 kz
    have hP2 := Hd.mk (show ∀ x ∈ y :: us, -1 ≤ x ∧ x ≤ 5 from fun x hx => by rcases List.mem_cons.1 hx with rfl | hx; exact hy2; exact hP.out x (by simp [hx]))
    have z1_ := z1.out; have z2_ := z2.out; have z3_ := z3.out; have z4_ := z4.out; have z5_ := z5.out; have z6_ := z6.out; have z7_ := z7.out; have z8_ := z8.out
    have hSz := hB.out.size
    have b0 := Hd.mk (b0.out.fr hX (fun h => by have hlt_ := b0.out.lt; skip; (try simp only [rng] at h); (try simp only at h); omega))
    have b1 := Hd.mk (b1.out.fr hX (fun h => by have hlt_ := b1.out.lt; skip; (try simp only [rng] at h); (try simp only at h); omega))
    have hC := Hd.mk (hC.out.fr hX (fun h => by have hg_ := hg.out; have hlt_ := hC.out.lt; (try simp only [rng] at h); (try simp only at h); omega) (fun k h => by have hg_ := hg.out; have hge_ := hC.out.ge; (try simp only [rng] at h); (try simp only at h); omega))
    have hB := Hd.mk (hB.out.then_ hX (fun k h hl => by (try simp only [rng] at h); (try simp only at h); omega))
    have hz_ := hX.size
    clear hX
    have z9 := Hd.mk hz_; clear hz_
    have z1_ := z1.out; have z2_ := z2.out; have z3_ := z3.out; have z4_ := z4.out; have z5_ := z5.out; have z6_ := z6.out; have z7_ := z7.out; have z8_ := z8.out; have z9_ := z9.out
    have hgx := hg.out
    have hBs := hB.out.size
    have hlt1 : w.heap.size < w2.heap.size := by omega
    have hne1 : ¬ w.heap.size = w2.heap.size := by omega
    have hnf1 : ¬ w2.heap.size = w.heap.size := by omega
    have fb0_0 : W9.cell? ⟨w.heap.size, 0, none⟩ = some (Value.slice none 0 0) := b0.out.cell 0 rfl
    have fb0_z := b0.out.frozen
    have fb1_0 : W9.cell? ⟨w2.heap.size, 0, none⟩ = some (Value.slice (some ⟨gL, 0, none⟩) (u0 :: us).length cL) := b1.out.cell 0 rfl
    have fb1_z := b1.out.frozen
    go_wp2_with fail
    refine bodyPost_retW (v := .agg #[Value.slice (some ⟨gL, 0, none⟩) (u0 :: us).length cL]) (by simp [results, Try.results113, go_sem, fb0_0, fb0_z, fb1_0, fb1_z, hlt1, hne1, hnf1]) rfl ?_
    intro W hW
    clear fb0_0 fb0_z fb1_0 fb1_z hlt1 hne1 hnf1
    have hz_ : W9.heap.size ≤ W.heap.size := by rw [hW]; simp
    have eF : Fr W9 W (fun k => k = w.heap.size ∨ W9.heap.size ≤ k) := by rw [hW]; (repeat (first | with_reducible refine Fr.setCell ?_ _ (fun _ => by simp <;> omega) _ | with_reducible refine Fr.alloc ?_ _ | with_reducible refine Fr.drew ?_)); exact Fr.refl _ _
    have z1_ := z1.out; have z2_ := z2.out; have z3_ := z3.out; have z4_ := z4.out; have z5_ := z5.out; have z6_ := z6.out; have z7_ := z7.out; have z8_ := z8.out; have z9_ := z9.out
    have hC := Hd.mk (hC.out.fr eF (fun h => by have hg_ := hg.out; have hlt_ := hC.out.lt; (try simp only [rng] at h); (try simp only at h); omega) (fun k h => by have hg_ := hg.out; have hge_ := hC.out.ge; (try simp only [rng] at h); (try simp only at h); omega))
    have hB := Hd.mk (hB.out.then_ eF (fun k h hl => by (try simp only [rng] at h); (try simp only at h); omega))
    have b0 := Hd.mk (show Blk W (w.heap.size) #[Value.slice (some ⟨gL, 0, none⟩) (u0 :: us).length cL] 34 by rw [hW]; exact (Blk.all b0.out [Value.slice (some ⟨gL, 0, none⟩) (u0 :: us).length cL] rfl))
    have b1 := Hd.mk (b1.out.fr eF (fun h => by have hlt_ := b1.out.lt; (try simp only at h); omega))
    have hL := Hd.mk (R_fr hL.out eF (fun k hk hl h => by skip; (try simp only [rng] at hk); (try simp only at hk); (try simp only at h); omega))
    clear hW eF
    have z10 := Hd.mk hz_; clear hz_
    have hBs := hB.out.size
    have z1_ := z1.out; have z2_ := z2.out; have z3_ := z3.out; have z4_ := z4.out; have z5_ := z5.out; have z6_ := z6.out; have z7_ := z7.out; have z8_ := z8.out; have z9_ := z9.out; have z10_ := z10.out
    exact ⟨_, (y :: us), rfl, R_mono (fun k hk => by have hw_ := hge0.out; have hk1 := hk.1; omega) hL.out, by simp at hl3 ⊢; omega, hP2.out, hC.out, hB.out⟩
  by_cases h2 : x = 2
  · subst h2
    clear h0 h1
    have z1_ := z1.out; have z2_ := z2.out; have z3_ := z3.out; have z4_ := z4.out
    have hgx := hg.out
    have hBs := hB.out.size
    have hlt1 : w.heap.size < w2.heap.size := by omega
    have hne1 : ¬ w.heap.size = w2.heap.size := by omega
    have hnf1 : ¬ w2.heap.size = w.heap.size := by omega
    have fb0_0 : w4.cell? ⟨w.heap.size, 0, none⟩ = some (Value.slice none 0 0) := b0.out.cell 0 rfl
    have fb0_z := b0.out.frozen
    have fb1_0 : w4.cell? ⟨w2.heap.size, 0, none⟩ = some (Value.slice AL l.length cL) := b1.out.cell 0 rfl
    have fb1_z := b1.out.frozen
    go_wp2_with fail
    refine bodyPost_retW (v := .agg #[Value.slice none 0 0]) (by simp [results, Try.results113, go_sem, fb0_0, fb0_z, fb1_0, fb1_z, hlt1, hne1, hnf1]) rfl ?_
    intro W hW
    clear fb0_0 fb0_z fb1_0 fb1_z hlt1 hne1 hnf1
    have hz_ : w4.heap.size ≤ W.heap.size := by rw [hW]; simp
    have eF : Fr w4 W (fun k => k = w2.heap.size ∨ k = w.heap.size ∨ w4.heap.size ≤ k) := by rw [hW]; (repeat (first | with_reducible refine Fr.setCell ?_ _ (fun _ => by simp <;> omega) _ | with_reducible refine Fr.alloc ?_ _ | with_reducible refine Fr.drew ?_)); exact Fr.refl _ _
    have z1_ := z1.out; have z2_ := z2.out; have z3_ := z3.out; have z4_ := z4.out
    have hC := Hd.mk (hC.out.fr eF (fun h => by have hg_ := hg.out; have hlt_ := hC.out.lt; (try simp only [rng] at h); (try simp only at h); omega) (fun k h => by have hg_ := hg.out; have hge_ := hC.out.ge; (try simp only [rng] at h); (try simp only at h); omega))
    have hB := Hd.mk (hB.out.then_ eF (fun k h hl => by (try simp only [rng] at h); (try simp only at h); omega))
    have b0 := Hd.mk (show Blk W (w.heap.size) #[Value.slice none 0 0] 34 by rw [hW]; exact ((b0.out.other _ (by simp <;> omega) _).set 0 (Value.slice none 0 0)))
    have b1 := Hd.mk (show Blk W (w2.heap.size) #[Value.slice none 0 0] 34 by rw [hW]; exact ((b1.out.set 0 (Value.slice none 0 0)).other _ (by simp <;> omega) _))
    have hL := Hd.mk (R_fr hL.out eF (fun k hk hl h => by have hg_ := hg.out; (try simp only [rng] at hk); (try simp only at hk); (try simp only at h); omega))
    clear hW eF
    have z5 := Hd.mk hz_; clear hz_
    have hBs := hB.out.size
    have z1_ := z1.out; have z2_ := z2.out; have z3_ := z3.out; have z4_ := z4.out; have z5_ := z5.out
    exact ⟨_, [], rfl, R_nil, by simp, by simp, hC.out, hB.out⟩
  have hd0 : decide (x = 0) = false := decide_eq_false h0
  have hd1 : decide (x = 1) = false := decide_eq_false h1
  have hd2 : decide (x = 2) = false := decide_eq_false h2
  have he0 : (x == 0) = false := by simpa using h0
  have he1 : (x == 1) = false := by simpa using h1
  have he2 : (x == 2) = false := by simpa using h2
  clear h0 h1 h2
  have z1_ := z1.out; have z2_ := z2.out; have z3_ := z3.out; have z4_ := z4.out
  have hgx := hg.out
  have hBs := hB.out.size
  have hlt1 : w.heap.size < w2.heap.size := by omega
  have hne1 : ¬ w.heap.size = w2.heap.size := by omega
  have hnf1 : ¬ w2.heap.size = w.heap.size := by omega
  have fb0_0 : w4.cell? ⟨w.heap.size, 0, none⟩ = some (Value.slice none 0 0) := b0.out.cell 0 rfl
  have fb0_z := b0.out.frozen
  have fb1_0 : w4.cell? ⟨w2.heap.size, 0, none⟩ = some (Value.slice AL l.length cL) := b1.out.cell 0 rfl
  have fb1_z := b1.out.frozen
  go_wp2_with fail
  refine bodyPost_retW (v := .agg #[Value.slice AL l.length cL]) (by simp [results, Try.results113, go_sem, fb0_0, fb0_z, fb1_0, fb1_z, hlt1, hne1, hnf1]) rfl ?_
  intro W hW
  clear fb0_0 fb0_z fb1_0 fb1_z hlt1 hne1 hnf1
  have hz_ : w4.heap.size ≤ W.heap.size := by rw [hW]; simp
  have eF : Fr w4 W (fun k => k = w.heap.size ∨ w4.heap.size ≤ k) := by rw [hW]; (repeat (first | with_reducible refine Fr.setCell ?_ _ (fun _ => by simp <;> omega) _ | with_reducible refine Fr.alloc ?_ _ | with_reducible refine Fr.drew ?_)); exact Fr.refl _ _
  have z1_ := z1.out; have z2_ := z2.out; have z3_ := z3.out; have z4_ := z4.out
  have hC := Hd.mk (hC.out.fr eF (fun h => by have hg_ := hg.out; have hlt_ := hC.out.lt; (try simp only [rng] at h); (try simp only at h); omega) (fun k h => by have hg_ := hg.out; have hge_ := hC.out.ge; (try simp only [rng] at h); (try simp only at h); omega))
  have hB := Hd.mk (hB.out.then_ eF (fun k h hl => by (try simp only [rng] at h); (try simp only at h); omega))
  have b0 := Hd.mk (show Blk W (w.heap.size) #[Value.slice AL l.length cL] 34 by rw [hW]; exact (Blk.all b0.out [Value.slice AL l.length cL] rfl))
  have b1 := Hd.mk (b1.out.fr eF (fun h => by have hlt_ := b1.out.lt; (try simp only at h); omega))
  have hL := Hd.mk (R_fr hL.out eF (fun k hk hl h => by have hg_ := hg.out; (try simp only [rng] at hk); (try simp only at hk); (try simp only at h); omega))
  clear hW eF
  have z5 := Hd.mk hz_; clear hz_
  have hBs := hB.out.size
  have z1_ := z1.out; have z2_ := z2.out; have z3_ := z3.out; have z4_ := z4.out; have z5_ := z5.out
  exact ⟨_, l, rfl, R_mono (fun k hk => by have hw_ := hge0.out; have hk1 := hk.1; omega) hL.out, by omega, hP.out, hC.out, hB.out⟩
end Go.Proofs.Ytnpogfhfjofbmaa.X
