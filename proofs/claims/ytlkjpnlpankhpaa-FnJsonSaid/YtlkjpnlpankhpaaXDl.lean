/- What is proved here: a right value is drawn. Conditions: none. -/
import Derived.Test.YtlkjpnlpankhpaaXDj
import Derived.Test.YtlkjpnlpankhpaaXPv
import Derived.Test.YtlkjpnlpankhpaaXDp
import Derived.Test.YtlkjpnlpankhpaaXZ
namespace Go.Proofs.Ytlkjpnlpankhpaa.X
open Go.RowKit Go.Sort
set_option linter.unusedVariables false
set_option linter.unusedSimpArgs false
open Ty
def drawTexts : List ByteArray := [⟨#[]⟩, ⟨#[120]⟩, ⟨#[97, 34, 98]⟩, ⟨#[97, 92, 92, 98]⟩, ⟨#[104, 101, 108, 108, 111, 32, 116, 104, 101, 114, 101]⟩, ⟨#[126, 49]⟩]
theorem O_flat0 {m : Nat} {w : World} {S : Nat → Prop} (k n : Int) (s : ByteArray) (hs : s.size ≤ 1000) : (tJ (m + 1)).O w S ⟨k, n, s, [], []⟩ [.int .i64 k, .int .i64 n, .string s, .slice none 0 0, .slice none 0 0] :=
  tJ_O.2 ⟨_, _, fun _ => False, fun _ => False, rfl, by show s.size ≤ _; omega, R_nil, R_nil, fun _ h => h.elim, fun _ h => h.elim, fun _ h => h.elim⟩
theorem DrG_flat {d : Nat} (k n : Int) (s : ByteArray) (hs : s.size ≤ 60) : DrG (d + 1) ⟨k, n, s, [], []⟩ := ⟨by simp, by simp, hs, by simp, by simp, by simp⟩
def DrawR (d : Nat) : Prop := ∀ (W0 w : World) (g : Nat), Cur W0 w g → Calls Try.prog 105 #[.pointer (some ⟨g, 0, none⟩), .int .i64 ((d : Int) + 1)] w fun e w' => ∃ (j : J) (cs : List Value), e = .returned (.agg cs.toArray) ∧ DrG (d + 1) j ∧ (tJ (d + 1)).O w' (fun k => w.heap.size ≤ k) j cs ∧ Cur W0 w' g ∧ Fr w w' (fun k => k = g)
set_option maxHeartbeats 8000000 in
set_option maxRecDepth 100000 in
theorem spec_l1DrawRight_0 : DrawR 0 := by
  intro W0 w g hc
  obtain ⟨n, hn⟩ : ∃ n : Int, n = ((0 : Nat) : Int) + 1 := ⟨_, rfl⟩
  rw [← hn]
  have hn1 : n ≤ 1 := by omega
  have hn0 : 0 ≤ n := by omega
  clear hn
  have hg := Hd.mk hc.lt
  have hC := Hd.mk hc; clear hc
  have hB := Hd.mk (Fr.refl w (fun k => k = g))
  go_enter Try.func105, Try.ntmps105
  go_wp2_with fail
  apply calls_gen; intro W1 hW
  have hz_ : w.heap.size + 1 ≤ W1.heap.size := by rw [hW]; simp
  have hE : Below w.heap.size w W1 := by rw [hW]; (repeat (first | with_reducible refine below_alloc ?_ _ | with_reducible refine below_drew ?_)); exact Below.refl _ _
  have hB := Hd.mk (hB.out.trans (Fr.of_below hE _))
  have hC := Hd.mk (hC.out.below hE)
  have b0 := Hd.mk (show Blk W1 (w.heap.size) #[Value.int IntKind.i64 0, Value.int IntKind.i64 0, Value.string ⟨#[]⟩, Value.slice none 0 0, Value.slice none 0 0] 27 by rw [hW]; first | exact (Blk.new _ _ _) | (simpa using (Blk.new _ _ _)))
  clear hW hE
  have z1 := Hd.mk hz_; clear hz_
  refine (spec_l1Below 8 W0 _ g hC.out).mono ?_
  rintro e w2 ⟨y, rfl, y0, y1, _, hC1, hX⟩
  have hC := Hd.mk hC1; clear hC1
  have hSz0 := hB.out.size
  have hg_ := hg.out
  have z1_ := z1.out
  have b0 := Hd.mk (b0.out.fr hX (fun h => by skip; (try simp only at h); omega))
  have hB := Hd.mk (hB.out.trans hX)
  have hz_ := hX.size
  clear hSz0 hg_ hX
  have z2 := Hd.mk hz_; clear hz_
  replace y1 := y1 (by omega)
  have fb0_0 : w2.cell? ⟨w.heap.size, 0, none⟩ = some (Value.int IntKind.i64 0) := b0.out.cell 0 rfl
  have fb0_1 : w2.cell? ⟨w.heap.size, 1, none⟩ = some (Value.int IntKind.i64 0) := b0.out.cell 1 rfl
  have fb0_2 : w2.cell? ⟨w.heap.size, 2, none⟩ = some (Value.string ⟨#[]⟩) := b0.out.cell 2 rfl
  have fb0_3 : w2.cell? ⟨w.heap.size, 3, none⟩ = some (Value.slice none 0 0) := b0.out.cell 3 rfl
  have fb0_4 : w2.cell? ⟨w.heap.size, 4, none⟩ = some (Value.slice none 0 0) := b0.out.cell 4 rfl
  have fb0_z := b0.out.frozen
  go_wp2_with fail
  clear fb0_0 fb0_1 fb0_2 fb0_3 fb0_4 fb0_z
  clear y0 y1
  refine (spec_l1Below 5 W0 _ g hC.out).mono ?_
  rintro e w3 ⟨y, rfl, y0, y1, _, hC1, hX⟩
  have hC := Hd.mk hC1; clear hC1
  have hSz0 := hB.out.size
  have hg_ := hg.out
  have z1_ := z1.out; have z2_ := z2.out
  have b0 := Hd.mk (b0.out.fr hX (fun h => by skip; (try simp only at h); omega))
  have hB := Hd.mk (hB.out.trans hX)
  have hz_ := hX.size
  clear hSz0 hg_ hX
  have z3 := Hd.mk hz_; clear hz_
  replace y1 := y1 (by omega)
  have hy : y = 0 ∨ y = 1 ∨ y = 2 ∨ y = 3 ∨ y = 4 := by omega
  clear y0 y1
  rcases hy with rfl | rfl | rfl | rfl | rfl
  · have fb0_0 : w3.cell? ⟨w.heap.size, 0, none⟩ = some (Value.int IntKind.i64 0) := b0.out.cell 0 rfl
    have fb0_1 : w3.cell? ⟨w.heap.size, 1, none⟩ = some (Value.int IntKind.i64 0) := b0.out.cell 1 rfl
    have fb0_2 : w3.cell? ⟨w.heap.size, 2, none⟩ = some (Value.string ⟨#[]⟩) := b0.out.cell 2 rfl
    have fb0_3 : w3.cell? ⟨w.heap.size, 3, none⟩ = some (Value.slice none 0 0) := b0.out.cell 3 rfl
    have fb0_4 : w3.cell? ⟨w.heap.size, 4, none⟩ = some (Value.slice none 0 0) := b0.out.cell 4 rfl
    have fb0_z := b0.out.frozen
    clear fb0_0 fb0_1 fb0_2 fb0_3 fb0_4 fb0_z
    have fb0_0 : w3.cell? ⟨w.heap.size, 0, none⟩ = some (Value.int IntKind.i64 0) := b0.out.cell 0 rfl
    have fb0_1 : w3.cell? ⟨w.heap.size, 1, none⟩ = some (Value.int IntKind.i64 0) := b0.out.cell 1 rfl
    have fb0_2 : w3.cell? ⟨w.heap.size, 2, none⟩ = some (Value.string ⟨#[]⟩) := b0.out.cell 2 rfl
    have fb0_3 : w3.cell? ⟨w.heap.size, 3, none⟩ = some (Value.slice none 0 0) := b0.out.cell 3 rfl
    have fb0_4 : w3.cell? ⟨w.heap.size, 4, none⟩ = some (Value.slice none 0 0) := b0.out.cell 4 rfl
    have fb0_z := b0.out.frozen
    go_wp2_with fail
    refine bodyPost_retW (v := .agg #[Value.int IntKind.i64 0, Value.int IntKind.i64 0, Value.string ⟨#[]⟩, Value.slice none 0 0, Value.slice none 0 0]) (by simp [results, Try.results105, go_sem, fb0_0, fb0_1, fb0_2, fb0_3, fb0_4, fb0_z]) rfl ?_
    intro W hW
    clear fb0_0 fb0_1 fb0_2 fb0_3 fb0_4 fb0_z
    have hz_ : w3.heap.size ≤ W.heap.size := by rw [hW]; simp
    have eF : Fr w3 W (fun k => k = w.heap.size ∨ w3.heap.size ≤ k) := by rw [hW]; (repeat (first | with_reducible refine Fr.setCell ?_ _ (fun _ => by simp <;> omega) _ | with_reducible refine Fr.alloc ?_ _ | with_reducible refine Fr.drew ?_)); exact Fr.refl _ _
    have z1_ := z1.out; have z2_ := z2.out; have z3_ := z3.out
    have hC := Hd.mk (hC.out.fr eF (fun h => by have hg_ := hg.out; have hlt_ := hC.out.lt; (try simp only [rng] at h); (try simp only at h); omega) (fun k h => by have hg_ := hg.out; have hge_ := hC.out.ge; (try simp only [rng] at h); (try simp only at h); omega))
    have hB := Hd.mk (hB.out.then_ eF (fun k h hl => by (try simp only [rng] at h); (try simp only at h); omega))
    have b0 := Hd.mk (show Blk W (w.heap.size) #[Value.int IntKind.i64 0, Value.int IntKind.i64 0, Value.string ⟨#[]⟩, Value.slice none 0 0, Value.slice none 0 0] 27 by rw [hW]; exact (Blk.all b0.out [Value.int IntKind.i64 0, Value.int IntKind.i64 0, Value.string ⟨#[]⟩, Value.slice none 0 0, Value.slice none 0 0] rfl))
    clear hW eF
    have z4 := Hd.mk hz_; clear hz_
    exact ⟨⟨0, 0, ⟨#[]⟩, [], []⟩, [Value.int IntKind.i64 0, Value.int IntKind.i64 0, Value.string ⟨#[]⟩, Value.slice none 0 0, Value.slice none 0 0], rfl, DrG_flat _ _ _ (by decide), O_flat0 _ _ _ (by have h60_ : ByteArray.size ⟨#[]⟩ ≤ 60 := (by decide); omega), hC.out, hB.out⟩
  · have fb0_0 : w3.cell? ⟨w.heap.size, 0, none⟩ = some (Value.int IntKind.i64 0) := b0.out.cell 0 rfl
    have fb0_1 : w3.cell? ⟨w.heap.size, 1, none⟩ = some (Value.int IntKind.i64 0) := b0.out.cell 1 rfl
    have fb0_2 : w3.cell? ⟨w.heap.size, 2, none⟩ = some (Value.string ⟨#[]⟩) := b0.out.cell 2 rfl
    have fb0_3 : w3.cell? ⟨w.heap.size, 3, none⟩ = some (Value.slice none 0 0) := b0.out.cell 3 rfl
    have fb0_4 : w3.cell? ⟨w.heap.size, 4, none⟩ = some (Value.slice none 0 0) := b0.out.cell 4 rfl
    have fb0_z := b0.out.frozen
    go_wp2_with fail
    clear fb0_0 fb0_1 fb0_2 fb0_3 fb0_4 fb0_z
    refine (spec_l1Below 2 W0 _ g hC.out).mono ?_
    rintro e w4 ⟨u, rfl, u0, u1, _, hC1, hX⟩
    have hC := Hd.mk hC1; clear hC1
    have hSz0 := hB.out.size
    have hg_ := hg.out
    have z1_ := z1.out; have z2_ := z2.out; have z3_ := z3.out
    have b0 := Hd.mk (b0.out.fr hX (fun h => by skip; (try simp only at h); omega))
    have hB := Hd.mk (hB.out.trans hX)
    have hz_ := hX.size
    clear hSz0 hg_ hX
    have z4 := Hd.mk hz_; clear hz_
    have fb0_0 : w4.cell? ⟨w.heap.size, 0, none⟩ = some (Value.int IntKind.i64 0) := b0.out.cell 0 rfl
    have fb0_1 : w4.cell? ⟨w.heap.size, 1, none⟩ = some (Value.int IntKind.i64 0) := b0.out.cell 1 rfl
    have fb0_2 : w4.cell? ⟨w.heap.size, 2, none⟩ = some (Value.string ⟨#[]⟩) := b0.out.cell 2 rfl
    have fb0_3 : w4.cell? ⟨w.heap.size, 3, none⟩ = some (Value.slice none 0 0) := b0.out.cell 3 rfl
    have fb0_4 : w4.cell? ⟨w.heap.size, 4, none⟩ = some (Value.slice none 0 0) := b0.out.cell 4 rfl
    have fb0_z := b0.out.frozen
    go_wp2_with fail
    refine bodyPost_retW (v := .agg #[Value.int IntKind.i64 1, Value.int IntKind.i64 u, Value.string ⟨#[]⟩, Value.slice none 0 0, Value.slice none 0 0]) (by simp [results, Try.results105, go_sem, fb0_0, fb0_1, fb0_2, fb0_3, fb0_4, fb0_z]) rfl ?_
    intro W hW
    clear fb0_0 fb0_1 fb0_2 fb0_3 fb0_4 fb0_z
    have hz_ : w4.heap.size ≤ W.heap.size := by rw [hW]; simp
    have eF : Fr w4 W (fun k => k = w.heap.size ∨ w4.heap.size ≤ k) := by rw [hW]; (repeat (first | with_reducible refine Fr.setCell ?_ _ (fun _ => by simp <;> omega) _ | with_reducible refine Fr.alloc ?_ _ | with_reducible refine Fr.drew ?_)); exact Fr.refl _ _
    have z1_ := z1.out; have z2_ := z2.out; have z3_ := z3.out; have z4_ := z4.out
    have hC := Hd.mk (hC.out.fr eF (fun h => by have hg_ := hg.out; have hlt_ := hC.out.lt; (try simp only [rng] at h); (try simp only at h); omega) (fun k h => by have hg_ := hg.out; have hge_ := hC.out.ge; (try simp only [rng] at h); (try simp only at h); omega))
    have hB := Hd.mk (hB.out.then_ eF (fun k h hl => by (try simp only [rng] at h); (try simp only at h); omega))
    have b0 := Hd.mk (show Blk W (w.heap.size) #[Value.int IntKind.i64 1, Value.int IntKind.i64 u, Value.string ⟨#[]⟩, Value.slice none 0 0, Value.slice none 0 0] 27 by rw [hW]; exact (Blk.all b0.out [Value.int IntKind.i64 1, Value.int IntKind.i64 u, Value.string ⟨#[]⟩, Value.slice none 0 0, Value.slice none 0 0] rfl))
    clear hW eF
    have z5 := Hd.mk hz_; clear hz_
    exact ⟨⟨1, u, ⟨#[]⟩, [], []⟩, [Value.int IntKind.i64 1, Value.int IntKind.i64 u, Value.string ⟨#[]⟩, Value.slice none 0 0, Value.slice none 0 0], rfl, DrG_flat _ _ _ (by decide), O_flat0 _ _ _ (by have h60_ : ByteArray.size ⟨#[]⟩ ≤ 60 := (by decide); omega), hC.out, hB.out⟩
  · have fb0_0 : w3.cell? ⟨w.heap.size, 0, none⟩ = some (Value.int IntKind.i64 0) := b0.out.cell 0 rfl
    have fb0_1 : w3.cell? ⟨w.heap.size, 1, none⟩ = some (Value.int IntKind.i64 0) := b0.out.cell 1 rfl
    have fb0_2 : w3.cell? ⟨w.heap.size, 2, none⟩ = some (Value.string ⟨#[]⟩) := b0.out.cell 2 rfl
    have fb0_3 : w3.cell? ⟨w.heap.size, 3, none⟩ = some (Value.slice none 0 0) := b0.out.cell 3 rfl
    have fb0_4 : w3.cell? ⟨w.heap.size, 4, none⟩ = some (Value.slice none 0 0) := b0.out.cell 4 rfl
    have fb0_z := b0.out.frozen
    go_wp2_with fail
    clear fb0_0 fb0_1 fb0_2 fb0_3 fb0_4 fb0_z
    apply calls_gen; intro W4 hW
    have hE0 := Hd.mk (show str.R 9 W4 (fun k => k = w3.heap.size) (.slice (some ⟨w3.heap.size, 0, none⟩) 6 6) drawTexts by rw [hW]; exact R_strs (W0 := w3) drawTexts (by decide) (by decide))
    have hz_ : w3.heap.size + 1 ≤ W4.heap.size := by rw [hW]; simp
    have hE : Below w3.heap.size w3 W4 := by rw [hW]; (repeat (first | with_reducible refine below_alloc ?_ _ | with_reducible refine below_drew ?_)); exact Below.refl _ _
    have hB := Hd.mk (hB.out.trans (Fr.of_below hE _))
    have hC := Hd.mk (hC.out.below hE)
    have b0 := Hd.mk (b0.out.below hE)
    clear hW hE
    have z4 := Hd.mk hz_; clear hz_
    have hEg := Hd.mk (show ¬ (fun k => k = w3.heap.size) g by have hg_ := hg.out; have hSz_ := hB.out.size; have z1_ := z1.out; have z2_ := z2.out; have z3_ := z3.out; have z4_ := z4.out; (try simp only); omega)
    refine (spec_l1Pick _ _ _ drawTexts W0 _ g hE0.out hEg.out rfl (by decide) (by decide) hC.out).mono ?_
    rintro e w5 ⟨z, rfl, hz, hC1, hX⟩
    have hC := Hd.mk hC1; clear hC1
    have hSz0 := hB.out.size
    have hg_ := hg.out
    have z1_ := z1.out; have z2_ := z2.out; have z3_ := z3.out; have z4_ := z4.out
    have b0 := Hd.mk (b0.out.fr hX (fun h => by skip; (try simp only at h); omega))
    have hB := Hd.mk (hB.out.trans hX)
    have hz_ := hX.size
    clear hSz0 hg_ hX
    have z5 := Hd.mk hz_; clear hz_
    clear hE0 hEg
    have hz6 : z.size ≤ 60 := (show ∀ s ∈ drawTexts, s.size ≤ 60 by decide) z hz
    clear hz
    have fb0_0 : w5.cell? ⟨w.heap.size, 0, none⟩ = some (Value.int IntKind.i64 0) := b0.out.cell 0 rfl
    have fb0_1 : w5.cell? ⟨w.heap.size, 1, none⟩ = some (Value.int IntKind.i64 0) := b0.out.cell 1 rfl
    have fb0_2 : w5.cell? ⟨w.heap.size, 2, none⟩ = some (Value.string ⟨#[]⟩) := b0.out.cell 2 rfl
    have fb0_3 : w5.cell? ⟨w.heap.size, 3, none⟩ = some (Value.slice none 0 0) := b0.out.cell 3 rfl
    have fb0_4 : w5.cell? ⟨w.heap.size, 4, none⟩ = some (Value.slice none 0 0) := b0.out.cell 4 rfl
    have fb0_z := b0.out.frozen
    go_wp2_with fail
    refine bodyPost_retW (v := .agg #[Value.int IntKind.i64 3, Value.int IntKind.i64 0, Value.string z, Value.slice none 0 0, Value.slice none 0 0]) (by simp [results, Try.results105, go_sem, fb0_0, fb0_1, fb0_2, fb0_3, fb0_4, fb0_z]) rfl ?_
    intro W hW
    clear fb0_0 fb0_1 fb0_2 fb0_3 fb0_4 fb0_z
    have hz_ : w5.heap.size ≤ W.heap.size := by rw [hW]; simp
    have eF : Fr w5 W (fun k => k = w.heap.size ∨ w5.heap.size ≤ k) := by rw [hW]; (repeat (first | with_reducible refine Fr.setCell ?_ _ (fun _ => by simp <;> omega) _ | with_reducible refine Fr.alloc ?_ _ | with_reducible refine Fr.drew ?_)); exact Fr.refl _ _
    have z1_ := z1.out; have z2_ := z2.out; have z3_ := z3.out; have z4_ := z4.out; have z5_ := z5.out
    have hC := Hd.mk (hC.out.fr eF (fun h => by have hg_ := hg.out; have hlt_ := hC.out.lt; (try simp only [rng] at h); (try simp only at h); omega) (fun k h => by have hg_ := hg.out; have hge_ := hC.out.ge; (try simp only [rng] at h); (try simp only at h); omega))
    have hB := Hd.mk (hB.out.then_ eF (fun k h hl => by (try simp only [rng] at h); (try simp only at h); omega))
    have b0 := Hd.mk (show Blk W (w.heap.size) #[Value.int IntKind.i64 3, Value.int IntKind.i64 0, Value.string z, Value.slice none 0 0, Value.slice none 0 0] 27 by rw [hW]; exact (Blk.all b0.out [Value.int IntKind.i64 3, Value.int IntKind.i64 0, Value.string z, Value.slice none 0 0, Value.slice none 0 0] rfl))
    clear hW eF
    have z6 := Hd.mk hz_; clear hz_
    exact ⟨⟨3, 0, z, [], []⟩, [Value.int IntKind.i64 3, Value.int IntKind.i64 0, Value.string z, Value.slice none 0 0, Value.slice none 0 0], rfl, DrG_flat _ _ _ (hz6), O_flat0 _ _ _ (by have h60_ : ByteArray.size z ≤ 60 := (hz6); omega), hC.out, hB.out⟩
  · have fb0_0 : w3.cell? ⟨w.heap.size, 0, none⟩ = some (Value.int IntKind.i64 0) := b0.out.cell 0 rfl
    have fb0_1 : w3.cell? ⟨w.heap.size, 1, none⟩ = some (Value.int IntKind.i64 0) := b0.out.cell 1 rfl
    have fb0_2 : w3.cell? ⟨w.heap.size, 2, none⟩ = some (Value.string ⟨#[]⟩) := b0.out.cell 2 rfl
    have fb0_3 : w3.cell? ⟨w.heap.size, 3, none⟩ = some (Value.slice none 0 0) := b0.out.cell 3 rfl
    have fb0_4 : w3.cell? ⟨w.heap.size, 4, none⟩ = some (Value.slice none 0 0) := b0.out.cell 4 rfl
    have fb0_z := b0.out.frozen
    go_wp2_with fail
    clear fb0_0 fb0_1 fb0_2 fb0_3 fb0_4 fb0_z
    apply calls_gen; intro W4 hW
    have hE0 := Hd.mk (show int.R 3 W4 (fun k => k = w3.heap.size) (.slice (some ⟨w3.heap.size, 0, none⟩) 6 6) [0, 1, -5, 77, 1000000000, -1000000000] by rw [hW]; exact R_ints (W0 := w3) [0, 1, -5, 77, 1000000000, -1000000000] (by decide))
    have hz_ : w3.heap.size + 1 ≤ W4.heap.size := by rw [hW]; simp
    have hE : Below w3.heap.size w3 W4 := by rw [hW]; (repeat (first | with_reducible refine below_alloc ?_ _ | with_reducible refine below_drew ?_)); exact Below.refl _ _
    have hB := Hd.mk (hB.out.trans (Fr.of_below hE _))
    have hC := Hd.mk (hC.out.below hE)
    have b0 := Hd.mk (b0.out.below hE)
    clear hW hE
    have z4 := Hd.mk hz_; clear hz_
    have hEg := Hd.mk (show ¬ (fun k => k = w3.heap.size) g by have hg_ := hg.out; have hSz_ := hB.out.size; have z1_ := z1.out; have z2_ := z2.out; have z3_ := z3.out; have z4_ := z4.out; (try simp only); omega)
    refine (spec_l1PickInt _ _ _ [0, 1, -5, 77, 1000000000, -1000000000] W0 _ g hE0.out hEg.out rfl (by decide) (by decide) hC.out).mono ?_
    rintro e w5 ⟨z, rfl, hz, hC1, hX⟩
    have hC := Hd.mk hC1; clear hC1
    have hSz0 := hB.out.size
    have hg_ := hg.out
    have z1_ := z1.out; have z2_ := z2.out; have z3_ := z3.out; have z4_ := z4.out
    have b0 := Hd.mk (b0.out.fr hX (fun h => by skip; (try simp only at h); omega))
    have hB := Hd.mk (hB.out.trans hX)
    have hz_ := hX.size
    clear hSz0 hg_ hX
    have z5 := Hd.mk hz_; clear hz_
    clear hE0 hEg
    have fb0_0 : w5.cell? ⟨w.heap.size, 0, none⟩ = some (Value.int IntKind.i64 0) := b0.out.cell 0 rfl
    have fb0_1 : w5.cell? ⟨w.heap.size, 1, none⟩ = some (Value.int IntKind.i64 0) := b0.out.cell 1 rfl
    have fb0_2 : w5.cell? ⟨w.heap.size, 2, none⟩ = some (Value.string ⟨#[]⟩) := b0.out.cell 2 rfl
    have fb0_3 : w5.cell? ⟨w.heap.size, 3, none⟩ = some (Value.slice none 0 0) := b0.out.cell 3 rfl
    have fb0_4 : w5.cell? ⟨w.heap.size, 4, none⟩ = some (Value.slice none 0 0) := b0.out.cell 4 rfl
    have fb0_z := b0.out.frozen
    go_wp2_with fail
    refine bodyPost_retW (v := .agg #[Value.int IntKind.i64 2, Value.int IntKind.i64 z, Value.string ⟨#[]⟩, Value.slice none 0 0, Value.slice none 0 0]) (by simp [results, Try.results105, go_sem, fb0_0, fb0_1, fb0_2, fb0_3, fb0_4, fb0_z]) rfl ?_
    intro W hW
    clear fb0_0 fb0_1 fb0_2 fb0_3 fb0_4 fb0_z
    have hz_ : w5.heap.size ≤ W.heap.size := by rw [hW]; simp
    have eF : Fr w5 W (fun k => k = w.heap.size ∨ w5.heap.size ≤ k) := by rw [hW]; (repeat (first | with_reducible refine Fr.setCell ?_ _ (fun _ => by simp <;> omega) _ | with_reducible refine Fr.alloc ?_ _ | with_reducible refine Fr.drew ?_)); exact Fr.refl _ _
    have z1_ := z1.out; have z2_ := z2.out; have z3_ := z3.out; have z4_ := z4.out; have z5_ := z5.out
    have hC := Hd.mk (hC.out.fr eF (fun h => by have hg_ := hg.out; have hlt_ := hC.out.lt; (try simp only [rng] at h); (try simp only at h); omega) (fun k h => by have hg_ := hg.out; have hge_ := hC.out.ge; (try simp only [rng] at h); (try simp only at h); omega))
    have hB := Hd.mk (hB.out.then_ eF (fun k h hl => by (try simp only [rng] at h); (try simp only at h); omega))
    have b0 := Hd.mk (show Blk W (w.heap.size) #[Value.int IntKind.i64 2, Value.int IntKind.i64 z, Value.string ⟨#[]⟩, Value.slice none 0 0, Value.slice none 0 0] 27 by rw [hW]; exact (Blk.all b0.out [Value.int IntKind.i64 2, Value.int IntKind.i64 z, Value.string ⟨#[]⟩, Value.slice none 0 0, Value.slice none 0 0] rfl))
    clear hW eF
    have z6 := Hd.mk hz_; clear hz_
    exact ⟨⟨2, z, ⟨#[]⟩, [], []⟩, [Value.int IntKind.i64 2, Value.int IntKind.i64 z, Value.string ⟨#[]⟩, Value.slice none 0 0, Value.slice none 0 0], rfl, DrG_flat _ _ _ (by decide), O_flat0 _ _ _ (by have h60_ : ByteArray.size ⟨#[]⟩ ≤ 60 := (by decide); omega), hC.out, hB.out⟩
  · have fb0_0 : w3.cell? ⟨w.heap.size, 0, none⟩ = some (Value.int IntKind.i64 0) := b0.out.cell 0 rfl
    have fb0_1 : w3.cell? ⟨w.heap.size, 1, none⟩ = some (Value.int IntKind.i64 0) := b0.out.cell 1 rfl
    have fb0_2 : w3.cell? ⟨w.heap.size, 2, none⟩ = some (Value.string ⟨#[]⟩) := b0.out.cell 2 rfl
    have fb0_3 : w3.cell? ⟨w.heap.size, 3, none⟩ = some (Value.slice none 0 0) := b0.out.cell 3 rfl
    have fb0_4 : w3.cell? ⟨w.heap.size, 4, none⟩ = some (Value.slice none 0 0) := b0.out.cell 4 rfl
    have fb0_z := b0.out.frozen
    go_wp2_with fail
    clear fb0_0 fb0_1 fb0_2 fb0_3 fb0_4 fb0_z
    apply calls_gen; intro W4 hW
    have hE0 := Hd.mk (show int.R 3 W4 (fun k => k = w3.heap.size) (.slice (some ⟨w3.heap.size, 0, none⟩) 6 6) [0, 1, -5, 77, 1000000000, -1000000000] by rw [hW]; exact R_ints (W0 := w3) [0, 1, -5, 77, 1000000000, -1000000000] (by decide))
    have hz_ : w3.heap.size + 1 ≤ W4.heap.size := by rw [hW]; simp
    have hE : Below w3.heap.size w3 W4 := by rw [hW]; (repeat (first | with_reducible refine below_alloc ?_ _ | with_reducible refine below_drew ?_)); exact Below.refl _ _
    have hB := Hd.mk (hB.out.trans (Fr.of_below hE _))
    have hC := Hd.mk (hC.out.below hE)
    have b0 := Hd.mk (b0.out.below hE)
    clear hW hE
    have z4 := Hd.mk hz_; clear hz_
    have hEg := Hd.mk (show ¬ (fun k => k = w3.heap.size) g by have hg_ := hg.out; have hSz_ := hB.out.size; have z1_ := z1.out; have z2_ := z2.out; have z3_ := z3.out; have z4_ := z4.out; (try simp only); omega)
    refine (spec_l1PickInt _ _ _ [0, 1, -5, 77, 1000000000, -1000000000] W0 _ g hE0.out hEg.out rfl (by decide) (by decide) hC.out).mono ?_
    rintro e w5 ⟨z, rfl, hz, hC1, hX⟩
    have hC := Hd.mk hC1; clear hC1
    have hSz0 := hB.out.size
    have hg_ := hg.out
    have z1_ := z1.out; have z2_ := z2.out; have z3_ := z3.out; have z4_ := z4.out
    have b0 := Hd.mk (b0.out.fr hX (fun h => by skip; (try simp only at h); omega))
    have hB := Hd.mk (hB.out.trans hX)
    have hz_ := hX.size
    clear hSz0 hg_ hX
    have z5 := Hd.mk hz_; clear hz_
    clear hE0 hEg
    have fb0_0 : w5.cell? ⟨w.heap.size, 0, none⟩ = some (Value.int IntKind.i64 0) := b0.out.cell 0 rfl
    have fb0_1 : w5.cell? ⟨w.heap.size, 1, none⟩ = some (Value.int IntKind.i64 0) := b0.out.cell 1 rfl
    have fb0_2 : w5.cell? ⟨w.heap.size, 2, none⟩ = some (Value.string ⟨#[]⟩) := b0.out.cell 2 rfl
    have fb0_3 : w5.cell? ⟨w.heap.size, 3, none⟩ = some (Value.slice none 0 0) := b0.out.cell 3 rfl
    have fb0_4 : w5.cell? ⟨w.heap.size, 4, none⟩ = some (Value.slice none 0 0) := b0.out.cell 4 rfl
    have fb0_z := b0.out.frozen
    go_wp2_with fail
    refine bodyPost_retW (v := .agg #[Value.int IntKind.i64 2, Value.int IntKind.i64 z, Value.string ⟨#[]⟩, Value.slice none 0 0, Value.slice none 0 0]) (by simp [results, Try.results105, go_sem, fb0_0, fb0_1, fb0_2, fb0_3, fb0_4, fb0_z]) rfl ?_
    intro W hW
    clear fb0_0 fb0_1 fb0_2 fb0_3 fb0_4 fb0_z
    have hz_ : w5.heap.size ≤ W.heap.size := by rw [hW]; simp
    have eF : Fr w5 W (fun k => k = w.heap.size ∨ w5.heap.size ≤ k) := by rw [hW]; (repeat (first | with_reducible refine Fr.setCell ?_ _ (fun _ => by simp <;> omega) _ | with_reducible refine Fr.alloc ?_ _ | with_reducible refine Fr.drew ?_)); exact Fr.refl _ _
    have z1_ := z1.out; have z2_ := z2.out; have z3_ := z3.out; have z4_ := z4.out; have z5_ := z5.out
    have hC := Hd.mk (hC.out.fr eF (fun h => by have hg_ := hg.out; have hlt_ := hC.out.lt; (try simp only [rng] at h); (try simp only at h); omega) (fun k h => by have hg_ := hg.out; have hge_ := hC.out.ge; (try simp only [rng] at h); (try simp only at h); omega))
    have hB := Hd.mk (hB.out.then_ eF (fun k h hl => by (try simp only [rng] at h); (try simp only at h); omega))
    have b0 := Hd.mk (show Blk W (w.heap.size) #[Value.int IntKind.i64 2, Value.int IntKind.i64 z, Value.string ⟨#[]⟩, Value.slice none 0 0, Value.slice none 0 0] 27 by rw [hW]; exact (Blk.all b0.out [Value.int IntKind.i64 2, Value.int IntKind.i64 z, Value.string ⟨#[]⟩, Value.slice none 0 0, Value.slice none 0 0] rfl))
    clear hW eF
    have z6 := Hd.mk hz_; clear hz_
    exact ⟨⟨2, z, ⟨#[]⟩, [], []⟩, [Value.int IntKind.i64 2, Value.int IntKind.i64 z, Value.string ⟨#[]⟩, Value.slice none 0 0, Value.slice none 0 0], rfl, DrG_flat _ _ _ (by decide), O_flat0 _ _ _ (by have h60_ : ByteArray.size ⟨#[]⟩ ≤ 60 := (by decide); omega), hC.out, hB.out⟩
set_option maxHeartbeats 8000000 in
set_option maxRecDepth 100000 in
theorem spec_l1DrawRight_s {d : Nat} (hd : d ≤ 100) (ih : DrawR d) : DrawR (d + 1) := by
  intro W0 w g hc
  obtain ⟨n, hn⟩ : ∃ n : Int, n = ((d + 1 : Nat) : Int) + 1 := ⟨_, rfl⟩
  rw [← hn]
  have hn1 : ¬ n ≤ 1 := by omega
  have hnu : n ≤ 1000 := by omega
  have HN1 := Hd.mk (show n - 1 = (d : Int) + 1 by omega)
  clear hn
  have hg := Hd.mk hc.lt
  have hC := Hd.mk hc; clear hc
  have hB := Hd.mk (Fr.refl w (fun k => k = g))
  go_enter Try.func105, Try.ntmps105
  go_wp2_with fail
  apply calls_gen; intro W1 hW
  have hz_ : w.heap.size + 1 ≤ W1.heap.size := by rw [hW]; simp
  have hE : Below w.heap.size w W1 := by rw [hW]; (repeat (first | with_reducible refine below_alloc ?_ _ | with_reducible refine below_drew ?_)); exact Below.refl _ _
  have hB := Hd.mk (hB.out.trans (Fr.of_below hE _))
  have hC := Hd.mk (hC.out.below hE)
  have b0 := Hd.mk (show Blk W1 (w.heap.size) #[Value.int IntKind.i64 0, Value.int IntKind.i64 0, Value.string ⟨#[]⟩, Value.slice none 0 0, Value.slice none 0 0] 27 by rw [hW]; first | exact (Blk.new _ _ _) | (simpa using (Blk.new _ _ _)))
  clear hW hE
  have z1 := Hd.mk hz_; clear hz_
  refine (spec_l1Below 8 W0 _ g hC.out).mono ?_
  rintro e w2 ⟨y, rfl, y0, y1, _, hC1, hX⟩
  have hC := Hd.mk hC1; clear hC1
  have hSz0 := hB.out.size
  have hg_ := hg.out
  have z1_ := z1.out
  have b0 := Hd.mk (b0.out.fr hX (fun h => by skip; (try simp only at h); omega))
  have hB := Hd.mk (hB.out.trans hX)
  have hz_ := hX.size
  clear hSz0 hg_ hX
  have z2 := Hd.mk hz_; clear hz_
  replace y1 := y1 (by omega)
  have hy : y = 0 ∨ y = 1 ∨ y = 2 ∨ y = 3 ∨ y = 4 ∨ y = 5 ∨ y = 6 ∨ y = 7 := by omega
  clear y0 y1
  rcases hy with rfl | rfl | rfl | rfl | rfl | rfl | rfl | rfl
  · have fb0_0 : w2.cell? ⟨w.heap.size, 0, none⟩ = some (Value.int IntKind.i64 0) := b0.out.cell 0 rfl
    have fb0_1 : w2.cell? ⟨w.heap.size, 1, none⟩ = some (Value.int IntKind.i64 0) := b0.out.cell 1 rfl
    have fb0_2 : w2.cell? ⟨w.heap.size, 2, none⟩ = some (Value.string ⟨#[]⟩) := b0.out.cell 2 rfl
    have fb0_3 : w2.cell? ⟨w.heap.size, 3, none⟩ = some (Value.slice none 0 0) := b0.out.cell 3 rfl
    have fb0_4 : w2.cell? ⟨w.heap.size, 4, none⟩ = some (Value.slice none 0 0) := b0.out.cell 4 rfl
    have fb0_z := b0.out.frozen
    clear fb0_0 fb0_1 fb0_2 fb0_3 fb0_4 fb0_z
    have fb0_0 : w2.cell? ⟨w.heap.size, 0, none⟩ = some (Value.int IntKind.i64 0) := b0.out.cell 0 rfl
    have fb0_1 : w2.cell? ⟨w.heap.size, 1, none⟩ = some (Value.int IntKind.i64 0) := b0.out.cell 1 rfl
    have fb0_2 : w2.cell? ⟨w.heap.size, 2, none⟩ = some (Value.string ⟨#[]⟩) := b0.out.cell 2 rfl
    have fb0_3 : w2.cell? ⟨w.heap.size, 3, none⟩ = some (Value.slice none 0 0) := b0.out.cell 3 rfl
    have fb0_4 : w2.cell? ⟨w.heap.size, 4, none⟩ = some (Value.slice none 0 0) := b0.out.cell 4 rfl
    have fb0_z := b0.out.frozen
    go_wp2_with fail
    refine bodyPost_retW (v := .agg #[Value.int IntKind.i64 0, Value.int IntKind.i64 0, Value.string ⟨#[]⟩, Value.slice none 0 0, Value.slice none 0 0]) (by simp [results, Try.results105, go_sem, fb0_0, fb0_1, fb0_2, fb0_3, fb0_4, fb0_z]) rfl ?_
    intro W hW
    clear fb0_0 fb0_1 fb0_2 fb0_3 fb0_4 fb0_z
    have hz_ : w2.heap.size ≤ W.heap.size := by rw [hW]; simp
    have eF : Fr w2 W (fun k => k = w.heap.size ∨ w2.heap.size ≤ k) := by rw [hW]; (repeat (first | with_reducible refine Fr.setCell ?_ _ (fun _ => by simp <;> omega) _ | with_reducible refine Fr.alloc ?_ _ | with_reducible refine Fr.drew ?_)); exact Fr.refl _ _
    have z1_ := z1.out; have z2_ := z2.out
    have hC := Hd.mk (hC.out.fr eF (fun h => by have hg_ := hg.out; have hlt_ := hC.out.lt; (try simp only [rng] at h); (try simp only at h); omega) (fun k h => by have hg_ := hg.out; have hge_ := hC.out.ge; (try simp only [rng] at h); (try simp only at h); omega))
    have hB := Hd.mk (hB.out.then_ eF (fun k h hl => by (try simp only [rng] at h); (try simp only at h); omega))
    have b0 := Hd.mk (show Blk W (w.heap.size) #[Value.int IntKind.i64 0, Value.int IntKind.i64 0, Value.string ⟨#[]⟩, Value.slice none 0 0, Value.slice none 0 0] 27 by rw [hW]; exact (Blk.all b0.out [Value.int IntKind.i64 0, Value.int IntKind.i64 0, Value.string ⟨#[]⟩, Value.slice none 0 0, Value.slice none 0 0] rfl))
    clear hW eF
    have z3 := Hd.mk hz_; clear hz_
    exact ⟨⟨0, 0, ⟨#[]⟩, [], []⟩, [Value.int IntKind.i64 0, Value.int IntKind.i64 0, Value.string ⟨#[]⟩, Value.slice none 0 0, Value.slice none 0 0], rfl, DrG_flat _ _ _ (by decide), O_flat0 _ _ _ (by have h60_ : ByteArray.size ⟨#[]⟩ ≤ 60 := (by decide); omega), hC.out, hB.out⟩
  · have fb0_0 : w2.cell? ⟨w.heap.size, 0, none⟩ = some (Value.int IntKind.i64 0) := b0.out.cell 0 rfl
    have fb0_1 : w2.cell? ⟨w.heap.size, 1, none⟩ = some (Value.int IntKind.i64 0) := b0.out.cell 1 rfl
    have fb0_2 : w2.cell? ⟨w.heap.size, 2, none⟩ = some (Value.string ⟨#[]⟩) := b0.out.cell 2 rfl
    have fb0_3 : w2.cell? ⟨w.heap.size, 3, none⟩ = some (Value.slice none 0 0) := b0.out.cell 3 rfl
    have fb0_4 : w2.cell? ⟨w.heap.size, 4, none⟩ = some (Value.slice none 0 0) := b0.out.cell 4 rfl
    have fb0_z := b0.out.frozen
    go_wp2_with fail
    clear fb0_0 fb0_1 fb0_2 fb0_3 fb0_4 fb0_z
    refine (spec_l1Below 2 W0 _ g hC.out).mono ?_
    rintro e w3 ⟨u, rfl, u0, u1, _, hC1, hX⟩
    have hC := Hd.mk hC1; clear hC1
    have hSz0 := hB.out.size
    have hg_ := hg.out
    have z1_ := z1.out; have z2_ := z2.out
    have b0 := Hd.mk (b0.out.fr hX (fun h => by skip; (try simp only at h); omega))
    have hB := Hd.mk (hB.out.trans hX)
    have hz_ := hX.size
    clear hSz0 hg_ hX
    have z3 := Hd.mk hz_; clear hz_
    have fb0_0 : w3.cell? ⟨w.heap.size, 0, none⟩ = some (Value.int IntKind.i64 0) := b0.out.cell 0 rfl
    have fb0_1 : w3.cell? ⟨w.heap.size, 1, none⟩ = some (Value.int IntKind.i64 0) := b0.out.cell 1 rfl
    have fb0_2 : w3.cell? ⟨w.heap.size, 2, none⟩ = some (Value.string ⟨#[]⟩) := b0.out.cell 2 rfl
    have fb0_3 : w3.cell? ⟨w.heap.size, 3, none⟩ = some (Value.slice none 0 0) := b0.out.cell 3 rfl
    have fb0_4 : w3.cell? ⟨w.heap.size, 4, none⟩ = some (Value.slice none 0 0) := b0.out.cell 4 rfl
    have fb0_z := b0.out.frozen
    go_wp2_with fail
    refine bodyPost_retW (v := .agg #[Value.int IntKind.i64 1, Value.int IntKind.i64 u, Value.string ⟨#[]⟩, Value.slice none 0 0, Value.slice none 0 0]) (by simp [results, Try.results105, go_sem, fb0_0, fb0_1, fb0_2, fb0_3, fb0_4, fb0_z]) rfl ?_
    intro W hW
    clear fb0_0 fb0_1 fb0_2 fb0_3 fb0_4 fb0_z
    have hz_ : w3.heap.size ≤ W.heap.size := by rw [hW]; simp
    have eF : Fr w3 W (fun k => k = w.heap.size ∨ w3.heap.size ≤ k) := by rw [hW]; (repeat (first | with_reducible refine Fr.setCell ?_ _ (fun _ => by simp <;> omega) _ | with_reducible refine Fr.alloc ?_ _ | with_reducible refine Fr.drew ?_)); exact Fr.refl _ _
    have z1_ := z1.out; have z2_ := z2.out; have z3_ := z3.out
    have hC := Hd.mk (hC.out.fr eF (fun h => by have hg_ := hg.out; have hlt_ := hC.out.lt; (try simp only [rng] at h); (try simp only at h); omega) (fun k h => by have hg_ := hg.out; have hge_ := hC.out.ge; (try simp only [rng] at h); (try simp only at h); omega))
    have hB := Hd.mk (hB.out.then_ eF (fun k h hl => by (try simp only [rng] at h); (try simp only at h); omega))
    have b0 := Hd.mk (show Blk W (w.heap.size) #[Value.int IntKind.i64 1, Value.int IntKind.i64 u, Value.string ⟨#[]⟩, Value.slice none 0 0, Value.slice none 0 0] 27 by rw [hW]; exact (Blk.all b0.out [Value.int IntKind.i64 1, Value.int IntKind.i64 u, Value.string ⟨#[]⟩, Value.slice none 0 0, Value.slice none 0 0] rfl))
    clear hW eF
    have z4 := Hd.mk hz_; clear hz_
    exact ⟨⟨1, u, ⟨#[]⟩, [], []⟩, [Value.int IntKind.i64 1, Value.int IntKind.i64 u, Value.string ⟨#[]⟩, Value.slice none 0 0, Value.slice none 0 0], rfl, DrG_flat _ _ _ (by decide), O_flat0 _ _ _ (by have h60_ : ByteArray.size ⟨#[]⟩ ≤ 60 := (by decide); omega), hC.out, hB.out⟩
  · have fb0_0 : w2.cell? ⟨w.heap.size, 0, none⟩ = some (Value.int IntKind.i64 0) := b0.out.cell 0 rfl
    have fb0_1 : w2.cell? ⟨w.heap.size, 1, none⟩ = some (Value.int IntKind.i64 0) := b0.out.cell 1 rfl
    have fb0_2 : w2.cell? ⟨w.heap.size, 2, none⟩ = some (Value.string ⟨#[]⟩) := b0.out.cell 2 rfl
    have fb0_3 : w2.cell? ⟨w.heap.size, 3, none⟩ = some (Value.slice none 0 0) := b0.out.cell 3 rfl
    have fb0_4 : w2.cell? ⟨w.heap.size, 4, none⟩ = some (Value.slice none 0 0) := b0.out.cell 4 rfl
    have fb0_z := b0.out.frozen
    go_wp2_with fail
    clear fb0_0 fb0_1 fb0_2 fb0_3 fb0_4 fb0_z
    apply calls_gen; intro W3 hW
    have hE0 := Hd.mk (show str.R 9 W3 (fun k => k = w2.heap.size) (.slice (some ⟨w2.heap.size, 0, none⟩) 6 6) drawTexts by rw [hW]; exact R_strs (W0 := w2) drawTexts (by decide) (by decide))
    have hz_ : w2.heap.size + 1 ≤ W3.heap.size := by rw [hW]; simp
    have hE : Below w2.heap.size w2 W3 := by rw [hW]; (repeat (first | with_reducible refine below_alloc ?_ _ | with_reducible refine below_drew ?_)); exact Below.refl _ _
    have hB := Hd.mk (hB.out.trans (Fr.of_below hE _))
    have hC := Hd.mk (hC.out.below hE)
    have b0 := Hd.mk (b0.out.below hE)
    clear hW hE
    have z3 := Hd.mk hz_; clear hz_
    have hEg := Hd.mk (show ¬ (fun k => k = w2.heap.size) g by have hg_ := hg.out; have hSz_ := hB.out.size; have z1_ := z1.out; have z2_ := z2.out; have z3_ := z3.out; (try simp only); omega)
    refine (spec_l1Pick _ _ _ drawTexts W0 _ g hE0.out hEg.out rfl (by decide) (by decide) hC.out).mono ?_
    rintro e w4 ⟨z, rfl, hz, hC1, hX⟩
    have hC := Hd.mk hC1; clear hC1
    have hSz0 := hB.out.size
    have hg_ := hg.out
    have z1_ := z1.out; have z2_ := z2.out; have z3_ := z3.out
    have b0 := Hd.mk (b0.out.fr hX (fun h => by skip; (try simp only at h); omega))
    have hB := Hd.mk (hB.out.trans hX)
    have hz_ := hX.size
    clear hSz0 hg_ hX
    have z4 := Hd.mk hz_; clear hz_
    clear hE0 hEg
    have hz6 : z.size ≤ 60 := (show ∀ s ∈ drawTexts, s.size ≤ 60 by decide) z hz
    clear hz
    have fb0_0 : w4.cell? ⟨w.heap.size, 0, none⟩ = some (Value.int IntKind.i64 0) := b0.out.cell 0 rfl
    have fb0_1 : w4.cell? ⟨w.heap.size, 1, none⟩ = some (Value.int IntKind.i64 0) := b0.out.cell 1 rfl
    have fb0_2 : w4.cell? ⟨w.heap.size, 2, none⟩ = some (Value.string ⟨#[]⟩) := b0.out.cell 2 rfl
    have fb0_3 : w4.cell? ⟨w.heap.size, 3, none⟩ = some (Value.slice none 0 0) := b0.out.cell 3 rfl
    have fb0_4 : w4.cell? ⟨w.heap.size, 4, none⟩ = some (Value.slice none 0 0) := b0.out.cell 4 rfl
    have fb0_z := b0.out.frozen
    go_wp2_with fail
    refine bodyPost_retW (v := .agg #[Value.int IntKind.i64 3, Value.int IntKind.i64 0, Value.string z, Value.slice none 0 0, Value.slice none 0 0]) (by simp [results, Try.results105, go_sem, fb0_0, fb0_1, fb0_2, fb0_3, fb0_4, fb0_z]) rfl ?_
    intro W hW
    clear fb0_0 fb0_1 fb0_2 fb0_3 fb0_4 fb0_z
    have hz_ : w4.heap.size ≤ W.heap.size := by rw [hW]; simp
    have eF : Fr w4 W (fun k => k = w.heap.size ∨ w4.heap.size ≤ k) := by rw [hW]; (repeat (first | with_reducible refine Fr.setCell ?_ _ (fun _ => by simp <;> omega) _ | with_reducible refine Fr.alloc ?_ _ | with_reducible refine Fr.drew ?_)); exact Fr.refl _ _
    have z1_ := z1.out; have z2_ := z2.out; have z3_ := z3.out; have z4_ := z4.out
    have hC := Hd.mk (hC.out.fr eF (fun h => by have hg_ := hg.out; have hlt_ := hC.out.lt; (try simp only [rng] at h); (try simp only at h); omega) (fun k h => by have hg_ := hg.out; have hge_ := hC.out.ge; (try simp only [rng] at h); (try simp only at h); omega))
    have hB := Hd.mk (hB.out.then_ eF (fun k h hl => by (try simp only [rng] at h); (try simp only at h); omega))
    have b0 := Hd.mk (show Blk W (w.heap.size) #[Value.int IntKind.i64 3, Value.int IntKind.i64 0, Value.string z, Value.slice none 0 0, Value.slice none 0 0] 27 by rw [hW]; exact (Blk.all b0.out [Value.int IntKind.i64 3, Value.int IntKind.i64 0, Value.string z, Value.slice none 0 0, Value.slice none 0 0] rfl))
    clear hW eF
    have z5 := Hd.mk hz_; clear hz_
    exact ⟨⟨3, 0, z, [], []⟩, [Value.int IntKind.i64 3, Value.int IntKind.i64 0, Value.string z, Value.slice none 0 0, Value.slice none 0 0], rfl, DrG_flat _ _ _ (hz6), O_flat0 _ _ _ (by have h60_ : ByteArray.size z ≤ 60 := (hz6); omega), hC.out, hB.out⟩
  · have fb0_0 : w2.cell? ⟨w.heap.size, 0, none⟩ = some (Value.int IntKind.i64 0) := b0.out.cell 0 rfl
    have fb0_1 : w2.cell? ⟨w.heap.size, 1, none⟩ = some (Value.int IntKind.i64 0) := b0.out.cell 1 rfl
    have fb0_2 : w2.cell? ⟨w.heap.size, 2, none⟩ = some (Value.string ⟨#[]⟩) := b0.out.cell 2 rfl
    have fb0_3 : w2.cell? ⟨w.heap.size, 3, none⟩ = some (Value.slice none 0 0) := b0.out.cell 3 rfl
    have fb0_4 : w2.cell? ⟨w.heap.size, 4, none⟩ = some (Value.slice none 0 0) := b0.out.cell 4 rfl
    have fb0_z := b0.out.frozen
    go_wp2_with fail
    clear fb0_0 fb0_1 fb0_2 fb0_3 fb0_4 fb0_z
    apply calls_gen; intro W3 hW
    have hE0 := Hd.mk (show int.R 3 W3 (fun k => k = w2.heap.size) (.slice (some ⟨w2.heap.size, 0, none⟩) 6 6) [0, 1, -5, 77, 1000000000, -1000000000] by rw [hW]; exact R_ints (W0 := w2) [0, 1, -5, 77, 1000000000, -1000000000] (by decide))
    have hz_ : w2.heap.size + 1 ≤ W3.heap.size := by rw [hW]; simp
    have hE : Below w2.heap.size w2 W3 := by rw [hW]; (repeat (first | with_reducible refine below_alloc ?_ _ | with_reducible refine below_drew ?_)); exact Below.refl _ _
    have hB := Hd.mk (hB.out.trans (Fr.of_below hE _))
    have hC := Hd.mk (hC.out.below hE)
    have b0 := Hd.mk (b0.out.below hE)
    clear hW hE
    have z3 := Hd.mk hz_; clear hz_
    have hEg := Hd.mk (show ¬ (fun k => k = w2.heap.size) g by have hg_ := hg.out; have hSz_ := hB.out.size; have z1_ := z1.out; have z2_ := z2.out; have z3_ := z3.out; (try simp only); omega)
    refine (spec_l1PickInt _ _ _ [0, 1, -5, 77, 1000000000, -1000000000] W0 _ g hE0.out hEg.out rfl (by decide) (by decide) hC.out).mono ?_
    rintro e w4 ⟨z, rfl, hz, hC1, hX⟩
    have hC := Hd.mk hC1; clear hC1
    have hSz0 := hB.out.size
    have hg_ := hg.out
    have z1_ := z1.out; have z2_ := z2.out; have z3_ := z3.out
    have b0 := Hd.mk (b0.out.fr hX (fun h => by skip; (try simp only at h); omega))
    have hB := Hd.mk (hB.out.trans hX)
    have hz_ := hX.size
    clear hSz0 hg_ hX
    have z4 := Hd.mk hz_; clear hz_
    clear hE0 hEg
    have fb0_0 : w4.cell? ⟨w.heap.size, 0, none⟩ = some (Value.int IntKind.i64 0) := b0.out.cell 0 rfl
    have fb0_1 : w4.cell? ⟨w.heap.size, 1, none⟩ = some (Value.int IntKind.i64 0) := b0.out.cell 1 rfl
    have fb0_2 : w4.cell? ⟨w.heap.size, 2, none⟩ = some (Value.string ⟨#[]⟩) := b0.out.cell 2 rfl
    have fb0_3 : w4.cell? ⟨w.heap.size, 3, none⟩ = some (Value.slice none 0 0) := b0.out.cell 3 rfl
    have fb0_4 : w4.cell? ⟨w.heap.size, 4, none⟩ = some (Value.slice none 0 0) := b0.out.cell 4 rfl
    have fb0_z := b0.out.frozen
    go_wp2_with fail
    refine bodyPost_retW (v := .agg #[Value.int IntKind.i64 2, Value.int IntKind.i64 z, Value.string ⟨#[]⟩, Value.slice none 0 0, Value.slice none 0 0]) (by simp [results, Try.results105, go_sem, fb0_0, fb0_1, fb0_2, fb0_3, fb0_4, fb0_z]) rfl ?_
    intro W hW
    clear fb0_0 fb0_1 fb0_2 fb0_3 fb0_4 fb0_z
    have hz_ : w4.heap.size ≤ W.heap.size := by rw [hW]; simp
    have eF : Fr w4 W (fun k => k = w.heap.size ∨ w4.heap.size ≤ k) := by rw [hW]; (repeat (first | with_reducible refine Fr.setCell ?_ _ (fun _ => by simp <;> omega) _ | with_reducible refine Fr.alloc ?_ _ | with_reducible refine Fr.drew ?_)); exact Fr.refl _ _
    have z1_ := z1.out; have z2_ := z2.out; have z3_ := z3.out; have z4_ := z4.out
    have hC := Hd.mk (hC.out.fr eF (fun h => by have hg_ := hg.out; have hlt_ := hC.out.lt; (try simp only [rng] at h); (try simp only at h); omega) (fun k h => by have hg_ := hg.out; have hge_ := hC.out.ge; (try simp only [rng] at h); (try simp only at h); omega))
    have hB := Hd.mk (hB.out.then_ eF (fun k h hl => by (try simp only [rng] at h); (try simp only at h); omega))
    have b0 := Hd.mk (show Blk W (w.heap.size) #[Value.int IntKind.i64 2, Value.int IntKind.i64 z, Value.string ⟨#[]⟩, Value.slice none 0 0, Value.slice none 0 0] 27 by rw [hW]; exact (Blk.all b0.out [Value.int IntKind.i64 2, Value.int IntKind.i64 z, Value.string ⟨#[]⟩, Value.slice none 0 0, Value.slice none 0 0] rfl))
    clear hW eF
    have z5 := Hd.mk hz_; clear hz_
    exact ⟨⟨2, z, ⟨#[]⟩, [], []⟩, [Value.int IntKind.i64 2, Value.int IntKind.i64 z, Value.string ⟨#[]⟩, Value.slice none 0 0, Value.slice none 0 0], rfl, DrG_flat _ _ _ (by decide), O_flat0 _ _ _ (by have h60_ : ByteArray.size ⟨#[]⟩ ≤ 60 := (by decide); omega), hC.out, hB.out⟩
  · have fb0_0 : w2.cell? ⟨w.heap.size, 0, none⟩ = some (Value.int IntKind.i64 0) := b0.out.cell 0 rfl
    have fb0_1 : w2.cell? ⟨w.heap.size, 1, none⟩ = some (Value.int IntKind.i64 0) := b0.out.cell 1 rfl
    have fb0_2 : w2.cell? ⟨w.heap.size, 2, none⟩ = some (Value.string ⟨#[]⟩) := b0.out.cell 2 rfl
    have fb0_3 : w2.cell? ⟨w.heap.size, 3, none⟩ = some (Value.slice none 0 0) := b0.out.cell 3 rfl
    have fb0_4 : w2.cell? ⟨w.heap.size, 4, none⟩ = some (Value.slice none 0 0) := b0.out.cell 4 rfl
    have fb0_z := b0.out.frozen
    go_wp2_with fail
    clear fb0_0 fb0_1 fb0_2 fb0_3 fb0_4 fb0_z
    apply calls_gen; intro W3 hW
    have hE0 := Hd.mk (show int.R 3 W3 (fun k => k = w2.heap.size) (.slice (some ⟨w2.heap.size, 0, none⟩) 6 6) [0, 1, -5, 77, 1000000000, -1000000000] by rw [hW]; exact R_ints (W0 := w2) [0, 1, -5, 77, 1000000000, -1000000000] (by decide))
    have hz_ : w2.heap.size + 1 ≤ W3.heap.size := by rw [hW]; simp
    have hE : Below w2.heap.size w2 W3 := by rw [hW]; (repeat (first | with_reducible refine below_alloc ?_ _ | with_reducible refine below_drew ?_)); exact Below.refl _ _
    have hB := Hd.mk (hB.out.trans (Fr.of_below hE _))
    have hC := Hd.mk (hC.out.below hE)
    have b0 := Hd.mk (b0.out.below hE)
    clear hW hE
    have z3 := Hd.mk hz_; clear hz_
    have hEg := Hd.mk (show ¬ (fun k => k = w2.heap.size) g by have hg_ := hg.out; have hSz_ := hB.out.size; have z1_ := z1.out; have z2_ := z2.out; have z3_ := z3.out; (try simp only); omega)
    refine (spec_l1PickInt _ _ _ [0, 1, -5, 77, 1000000000, -1000000000] W0 _ g hE0.out hEg.out rfl (by decide) (by decide) hC.out).mono ?_
    rintro e w4 ⟨z, rfl, hz, hC1, hX⟩
    have hC := Hd.mk hC1; clear hC1
    have hSz0 := hB.out.size
    have hg_ := hg.out
    have z1_ := z1.out; have z2_ := z2.out; have z3_ := z3.out
    have b0 := Hd.mk (b0.out.fr hX (fun h => by skip; (try simp only at h); omega))
    have hB := Hd.mk (hB.out.trans hX)
    have hz_ := hX.size
    clear hSz0 hg_ hX
    have z4 := Hd.mk hz_; clear hz_
    clear hE0 hEg
    have fb0_0 : w4.cell? ⟨w.heap.size, 0, none⟩ = some (Value.int IntKind.i64 0) := b0.out.cell 0 rfl
    have fb0_1 : w4.cell? ⟨w.heap.size, 1, none⟩ = some (Value.int IntKind.i64 0) := b0.out.cell 1 rfl
    have fb0_2 : w4.cell? ⟨w.heap.size, 2, none⟩ = some (Value.string ⟨#[]⟩) := b0.out.cell 2 rfl
    have fb0_3 : w4.cell? ⟨w.heap.size, 3, none⟩ = some (Value.slice none 0 0) := b0.out.cell 3 rfl
    have fb0_4 : w4.cell? ⟨w.heap.size, 4, none⟩ = some (Value.slice none 0 0) := b0.out.cell 4 rfl
    have fb0_z := b0.out.frozen
    go_wp2_with fail
    refine bodyPost_retW (v := .agg #[Value.int IntKind.i64 2, Value.int IntKind.i64 z, Value.string ⟨#[]⟩, Value.slice none 0 0, Value.slice none 0 0]) (by simp [results, Try.results105, go_sem, fb0_0, fb0_1, fb0_2, fb0_3, fb0_4, fb0_z]) rfl ?_
    intro W hW
    clear fb0_0 fb0_1 fb0_2 fb0_3 fb0_4 fb0_z
    have hz_ : w4.heap.size ≤ W.heap.size := by rw [hW]; simp
    have eF : Fr w4 W (fun k => k = w.heap.size ∨ w4.heap.size ≤ k) := by rw [hW]; (repeat (first | with_reducible refine Fr.setCell ?_ _ (fun _ => by simp <;> omega) _ | with_reducible refine Fr.alloc ?_ _ | with_reducible refine Fr.drew ?_)); exact Fr.refl _ _
    have z1_ := z1.out; have z2_ := z2.out; have z3_ := z3.out; have z4_ := z4.out
    have hC := Hd.mk (hC.out.fr eF (fun h => by have hg_ := hg.out; have hlt_ := hC.out.lt; (try simp only [rng] at h); (try simp only at h); omega) (fun k h => by have hg_ := hg.out; have hge_ := hC.out.ge; (try simp only [rng] at h); (try simp only at h); omega))
    have hB := Hd.mk (hB.out.then_ eF (fun k h hl => by (try simp only [rng] at h); (try simp only at h); omega))
    have b0 := Hd.mk (show Blk W (w.heap.size) #[Value.int IntKind.i64 2, Value.int IntKind.i64 z, Value.string ⟨#[]⟩, Value.slice none 0 0, Value.slice none 0 0] 27 by rw [hW]; exact (Blk.all b0.out [Value.int IntKind.i64 2, Value.int IntKind.i64 z, Value.string ⟨#[]⟩, Value.slice none 0 0, Value.slice none 0 0] rfl))
    clear hW eF
    have z5 := Hd.mk hz_; clear hz_
    exact ⟨⟨2, z, ⟨#[]⟩, [], []⟩, [Value.int IntKind.i64 2, Value.int IntKind.i64 z, Value.string ⟨#[]⟩, Value.slice none 0 0, Value.slice none 0 0], rfl, DrG_flat _ _ _ (by decide), O_flat0 _ _ _ (by have h60_ : ByteArray.size ⟨#[]⟩ ≤ 60 := (by decide); omega), hC.out, hB.out⟩
  · have fb0_0 : w2.cell? ⟨w.heap.size, 0, none⟩ = some (Value.int IntKind.i64 0) := b0.out.cell 0 rfl
    have fb0_1 : w2.cell? ⟨w.heap.size, 1, none⟩ = some (Value.int IntKind.i64 0) := b0.out.cell 1 rfl
    have fb0_2 : w2.cell? ⟨w.heap.size, 2, none⟩ = some (Value.string ⟨#[]⟩) := b0.out.cell 2 rfl
    have fb0_3 : w2.cell? ⟨w.heap.size, 3, none⟩ = some (Value.slice none 0 0) := b0.out.cell 3 rfl
    have fb0_4 : w2.cell? ⟨w.heap.size, 4, none⟩ = some (Value.slice none 0 0) := b0.out.cell 4 rfl
    have fb0_z := b0.out.frozen
    go_wp2_with fail
    clear fb0_0 fb0_1 fb0_2 fb0_3 fb0_4 fb0_z
    have z1_ := z1.out; have z2_ := z2.out
    have hPW := Hd.mk (show w.heap.size < w2.heap.size by omega)
    clear z1_ z2_
    go_loopw [7] (fun i wr => ∃ (k : Nat) (v : Value) (l : List J), i = .int .i64 k ∧ k ≤ 4 ∧ Hd (l.length = k) ∧ Hd (∀ x ∈ l, DrG (d + 1) x) ∧ Hd (Blk wr w.heap.size #[Value.int IntKind.i64 0, Value.int IntKind.i64 0, Value.string ⟨#[]⟩, Value.slice none 0 0, Value.slice none 0 0] 27) ∧ Hd (Blk wr w2.heap.size #[Value.int IntKind.i64 4, Value.int IntKind.i64 0, Value.string ⟨#[]⟩, v, Value.slice none 0 0] 27) ∧ Hd ((tJ (d + 1)).R 27 wr (fun q => w.heap.size ≤ q ∧ q ≠ w.heap.size ∧ q ≠ w2.heap.size) v l) ∧ Hd (Cur W0 wr g) ∧ Hd (Fr w wr (fun k => k = g)) ∧ Hd (w2.heap.size < wr.heap.size)) (fun i _ => 4 - (intOf i).toNat)
    case atStart => exact ⟨0, .slice none 0 0, [], rfl, Nat.zero_le _, ⟨rfl⟩, ⟨by simp⟩, ⟨b0.out.alloc _⟩, ⟨Blk.new _ _ _⟩, ⟨R_nil⟩, ⟨hC.out.below (below_alloc (Below.refl _ _) _)⟩, ⟨hB.out.alloc _⟩, ⟨by simp⟩⟩
    case round =>
      clear b0 hB hC
      obtain ⟨k, v, l, rfl, hk4, hl, hDL, b0, b1, hL, hC, hB, hzw⟩ := hrel
      go_wp2_with fail
      refine (spec_l1Below 5 W0 _ g hC.out).mono ?_
      rintro e w3 ⟨y, rfl, y0, y1, _, hC1, hX⟩
      have hC := Hd.mk hC1; clear hC1
      have hSz0 := hB.out.size
      have hg_ := hg.out
      have z1_ := z1.out; have z2_ := z2.out; have hzw_ := hzw.out
      have b0 := Hd.mk (b0.out.fr hX (fun h => by skip; (try simp only at h); omega))
      have b1 := Hd.mk (b1.out.fr hX (fun h => by skip; (try simp only at h); omega))
      have hL := Hd.mk (R_fr hL.out hX (fun k hk hl h => by have q_ := hk.1; have hg_ := hg.out; (try simp only [rng] at hk); (try simp only at hk); (try simp only at h); omega))
      have hB := Hd.mk (hB.out.trans hX)
      have hz_ := hX.size
      clear hSz0 hg_ hX
      have z3 := Hd.mk hz_; clear hz_
      replace y1 := y1 (by omega)
      obtain ⟨AL, cL, hvL, hcL, _⟩ := R_C hL.out
      subst hvL
      by_cases hlt : (k : Int) < y
      · have hk3 : k ≤ 3 := by omega
        rw [hl.out] at hcL
        have hL0 := hL.out; have b10 := b1.out
        rw [hl.out] at hL0 b10
        replace hL := Hd.mk (R_bound hL0); replace b1 := Hd.mk b10; clear hL0 b10
        have z1_ := z1.out; have z2_ := z2.out; have hzw_ := hzw.out; have z3_ := z3.out
        have hWl := Hd.mk (show w.heap.size ≤ w3.heap.size by omega)
        clear z1_ z2_ hzw_ z3_
        have fb0_0 : w3.cell? ⟨w.heap.size, 0, none⟩ = some (Value.int IntKind.i64 0) := b0.out.cell 0 rfl
        have fb0_1 : w3.cell? ⟨w.heap.size, 1, none⟩ = some (Value.int IntKind.i64 0) := b0.out.cell 1 rfl
        have fb0_2 : w3.cell? ⟨w.heap.size, 2, none⟩ = some (Value.string ⟨#[]⟩) := b0.out.cell 2 rfl
        have fb0_3 : w3.cell? ⟨w.heap.size, 3, none⟩ = some (Value.slice none 0 0) := b0.out.cell 3 rfl
        have fb0_4 : w3.cell? ⟨w.heap.size, 4, none⟩ = some (Value.slice none 0 0) := b0.out.cell 4 rfl
        have fb0_z := b0.out.frozen
        have fb1_0 : w3.cell? ⟨w2.heap.size, 0, none⟩ = some (Value.int IntKind.i64 4) := b1.out.cell 0 rfl
        have fb1_1 : w3.cell? ⟨w2.heap.size, 1, none⟩ = some (Value.int IntKind.i64 0) := b1.out.cell 1 rfl
        have fb1_2 : w3.cell? ⟨w2.heap.size, 2, none⟩ = some (Value.string ⟨#[]⟩) := b1.out.cell 2 rfl
        have fb1_3 : w3.cell? ⟨w2.heap.size, 3, none⟩ = some (Value.slice AL k cL) := b1.out.cell 3 rfl
        have fb1_4 : w3.cell? ⟨w2.heap.size, 4, none⟩ = some (Value.slice none 0 0) := b1.out.cell 4 rfl
        have fb1_z := b1.out.frozen
        go_wp2_with fail
        clear fb0_0 fb0_1 fb0_2 fb0_3 fb0_4 fb0_z fb1_0 fb1_1 fb1_2 fb1_3 fb1_4 fb1_z
        have sb0 := Hd.mk b0.out
        have sb1 := Hd.mk b1.out
        refine region_mixC (fun w2 => Fr w3 w2 (fun k => k = g)) (.p 0 (.q 1 (.p 2 (.p 3 (.p 4 (.b 5 (.b 6 .fin))))))) [7, 8, 9] (by kernel_rfl) (Fr.drew (Fr.refl _ _)) (by kernel_rfl) (fun _ _ _ _ _ h => h) ?_
        refine genT ?_
        intro W4 hW
        have hS := Hd.mk (show Fr w3 W4 (fun k => k = g) by rw [hW]; exact Fr.drew (Fr.refl _ _))
        have hz_ : w3.heap.size ≤ W4.heap.size := by rw [hW]; simp
        have hE : Below w3.heap.size w3 W4 := by rw [hW]; (repeat (first | with_reducible refine below_alloc ?_ _ | with_reducible refine below_drew ?_)); exact Below.refl _ _
        have hB := Hd.mk (hB.out.trans (Fr.of_below hE _))
        have hC := Hd.mk (hC.out.below hE)
        have b0 := Hd.mk (b0.out.below hE)
        have b1 := Hd.mk (b1.out.below hE)
        have hL := Hd.mk (R_below hL.out hE)
        clear hW hE
        have z4 := Hd.mk hz_; clear hz_
        refine mixT_p rfl ?_
        go_big_quiet_want; go_big_quiet_op; go_big_quiet_on; refine wpQuiet_nil ?_
        refine mixT_see rfl (by rfl) (Value.slice AL k cL) (fun w_ hw_ => by have z1_ := z1.out; have z2_ := z2.out; have hzw_ := hzw.out; have z3_ := z3.out; have z4_ := z4.out; have f0_ := (sb1.out.fr hw_ (fun h => by have hg_ := hg.out; skip; have hlt_ := sb1.out.lt; (try simp only at h); omega)).cell 3 rfl; simp [execOp, go_sem, f0_]) hS.out ?_
        have fb0_0 : W4.cell? ⟨w.heap.size, 0, none⟩ = some (Value.int IntKind.i64 0) := b0.out.cell 0 rfl
        have fb0_1 : W4.cell? ⟨w.heap.size, 1, none⟩ = some (Value.int IntKind.i64 0) := b0.out.cell 1 rfl
        have fb0_2 : W4.cell? ⟨w.heap.size, 2, none⟩ = some (Value.string ⟨#[]⟩) := b0.out.cell 2 rfl
        have fb0_3 : W4.cell? ⟨w.heap.size, 3, none⟩ = some (Value.slice none 0 0) := b0.out.cell 3 rfl
        have fb0_4 : W4.cell? ⟨w.heap.size, 4, none⟩ = some (Value.slice none 0 0) := b0.out.cell 4 rfl
        have fb0_z := b0.out.frozen
        have fb1_0 : W4.cell? ⟨w2.heap.size, 0, none⟩ = some (Value.int IntKind.i64 4) := b1.out.cell 0 rfl
        have fb1_1 : W4.cell? ⟨w2.heap.size, 1, none⟩ = some (Value.int IntKind.i64 0) := b1.out.cell 1 rfl
        have fb1_2 : W4.cell? ⟨w2.heap.size, 2, none⟩ = some (Value.string ⟨#[]⟩) := b1.out.cell 2 rfl
        have fb1_3 : W4.cell? ⟨w2.heap.size, 3, none⟩ = some (Value.slice AL k cL) := b1.out.cell 3 rfl
        have fb1_4 : W4.cell? ⟨w2.heap.size, 4, none⟩ = some (Value.slice none 0 0) := b1.out.cell 4 rfl
        have fb1_z := b1.out.frozen
        go_wp2_with fail
        refine mixQ_n ?_
        clear fb0_0 fb0_1 fb0_2 fb0_3 fb0_4 fb0_z fb1_0 fb1_1 fb1_2 fb1_3 fb1_4 fb1_z
        refine mixT_p rfl ?_
        go_big_quiet_want; go_big_quiet_op; go_big_quiet_on; refine wpQuiet_nil ?_
        refine mixT_p rfl ?_
        go_big_quiet_want; go_big_quiet_op; go_big_quiet_on; refine wpQuiet_nil ?_
        refine mixT_p rfl ?_
        go_big_quiet_want; go_big_quiet_op; go_big_quiet_on; refine wpQuiet_nil ?_
        refine mixT_b rfl ?_ (by rfl)
        go_wp2_with fail
        apply calls_gen; intro W5 hW
        have hz_ : W4.heap.size ≤ W5.heap.size := by rw [hW]; simp
        have hE : Below W4.heap.size W4 W5 := by rw [hW]; (repeat (first | with_reducible refine below_alloc ?_ _ | with_reducible refine below_drew ?_)); exact Below.refl _ _
        have hB := Hd.mk (hB.out.trans (Fr.of_below hE _))
        have hC := Hd.mk (hC.out.below hE)
        replace hS := Hd.mk (hS.out.trans (Fr.of_below hE _))
        have b0 := Hd.mk (b0.out.below hE)
        have b1 := Hd.mk (b1.out.below hE)
        have hL := Hd.mk (R_below hL.out hE)
        clear hW hE
        have z5 := Hd.mk hz_; clear hz_
        rw [HN1.out]
        refine (ih W0 _ g hC.out).mono ?_
        rintro e w6 ⟨x, csx, rfl, hDX, hOX, hC1, hX⟩
        have hC := Hd.mk hC1; clear hC1
        have hSz0 := hB.out.size
        have hg_ := hg.out
        have z1_ := z1.out; have z2_ := z2.out; have hzw_ := hzw.out; have z3_ := z3.out; have z4_ := z4.out; have z5_ := z5.out
        have b0 := Hd.mk (b0.out.fr hX (fun h => by skip; (try simp only at h); omega))
        have b1 := Hd.mk (b1.out.fr hX (fun h => by skip; (try simp only at h); omega))
        have hL := Hd.mk (R_fr hL.out hX (fun k hk hl h => by have q_ := hk.1.1; have hg_ := hg.out; (try simp only [rng] at hk); (try simp only at hk); (try simp only at h); omega))
        have hB := Hd.mk (hB.out.trans hX)
        replace hS := Hd.mk (hS.out.trans hX)
        have hz_ := hX.size
        clear hSz0 hg_ hX
        have z6 := Hd.mk hz_; clear hz_
        obtain ⟨xv3, xv4, _, _, rfl, _, xr3, xr4, _⟩ := tJ_O.1 hOX
        obtain ⟨xD3, xd3, rfl, _, _⟩ := R_C xr3
        obtain ⟨xD4, xd4, rfl, _, _⟩ := R_C xr4
        clear xr3 xr4
        have hOX := Hd.mk (Ty.O_bound _ hOX)
        replace hDX := Hd.mk hDX
        go_wp2_with fail
        refine ⟨hS.out, ?_⟩
        refine mixT_b rfl ?_ (by rfl)
        go_wp2_with fail
        refine ⟨hS.out.alloc _, ?_⟩
        refine mixT_fin ?_
        clear hS
        have fb0_0 : w6.cell? ⟨w.heap.size, 0, none⟩ = some (Value.int IntKind.i64 0) := b0.out.cell 0 rfl
        have fb0_1 : w6.cell? ⟨w.heap.size, 1, none⟩ = some (Value.int IntKind.i64 0) := b0.out.cell 1 rfl
        have fb0_2 : w6.cell? ⟨w.heap.size, 2, none⟩ = some (Value.string ⟨#[]⟩) := b0.out.cell 2 rfl
        have fb0_3 : w6.cell? ⟨w.heap.size, 3, none⟩ = some (Value.slice none 0 0) := b0.out.cell 3 rfl
        have fb0_4 : w6.cell? ⟨w.heap.size, 4, none⟩ = some (Value.slice none 0 0) := b0.out.cell 4 rfl
        have fb0_z := b0.out.frozen
        have fb1_0 : w6.cell? ⟨w2.heap.size, 0, none⟩ = some (Value.int IntKind.i64 4) := b1.out.cell 0 rfl
        have fb1_1 : w6.cell? ⟨w2.heap.size, 1, none⟩ = some (Value.int IntKind.i64 0) := b1.out.cell 1 rfl
        have fb1_2 : w6.cell? ⟨w2.heap.size, 2, none⟩ = some (Value.string ⟨#[]⟩) := b1.out.cell 2 rfl
        have fb1_3 : w6.cell? ⟨w2.heap.size, 3, none⟩ = some (Value.slice AL k cL) := b1.out.cell 3 rfl
        have fb1_4 : w6.cell? ⟨w2.heap.size, 4, none⟩ = some (Value.slice none 0 0) := b1.out.cell 4 rfl
        have fb1_z := b1.out.frozen
        refine tail_b rfl ?_ (by rfl)
        clear fb0_0 fb0_1 fb0_2 fb0_3 fb0_4 fb0_z fb1_0 fb1_1 fb1_2 fb1_3 fb1_4 fb1_z
        have z1_ := z1.out; have z2_ := z2.out; have hzw_ := hzw.out; have z3_ := z3.out; have z4_ := z4.out; have z5_ := z5.out; have z6_ := z6.out
        have hWl_ := hWl.out
        have hPW_ := hPW.out
        go_wp2_with (at_builtin; refine append_one (tJ (d + 1)) rfl _ _ 24 27 (.agg #[.int .i64 0, .int .i64 0, .string ByteArray.empty, .slice none 0 0, .slice none 0 0]) 80 rfl Try.underlying24 info_JsonS rfl (by rw [tJ_sz]; omega) (by decide) (S := fun q => (fun q => w.heap.size ≤ q ∧ q ≠ w.heap.size ∧ q ≠ w2.heap.size) q ∧ q < w3.heap.size) (T := fun q => W5.heap.size ≤ q ∧ q < w6.heap.size) (S' := (fun q => w.heap.size ≤ q ∧ q ≠ w.heap.size ∧ q ≠ w2.heap.size)) (v := .slice AL k cL) (xs := l) x [Value.int IntKind.i64 x.kind, Value.int IntKind.i64 x.n, Value.string x.s, Value.slice xD3 x.list.length xd3, Value.slice xD4 x.names.length xd4] rfl rfl hL.out hOX.out (fun k h1 hl h2 => by have h5 := h2.2; have h6 := h1.1; omega) (fun k h => h.1) (fun k h => by have h6 := h.1; exact ⟨by omega, by omega, by omega⟩) (fun k h => by exact ⟨by omega, by omega, by omega⟩) (by have := hl.out; omega) (fun v2 w7 hv2 hX => ?_))
        clear hOX hL
        have hL2 := Hd.mk hv2; clear hv2
        have z1_ := z1.out; have z2_ := z2.out; have hzw_ := hzw.out; have z3_ := z3.out; have z4_ := z4.out; have z5_ := z5.out; have z6_ := z6.out
        have hSz := hB.out.size
        have b0 := Hd.mk (b0.out.fr hX (fun h => by have hlt_ := b0.out.lt; have hh_ := h.1; (try simp only [rng] at h); (try simp only at h); omega))
        have b1 := Hd.mk (b1.out.fr hX (fun h => by have hlt_ := b1.out.lt; have hh_ := h.1; (try simp only [rng] at h); (try simp only at h); omega))
        have hC := Hd.mk (hC.out.fr hX (fun h => by have hg_ := hg.out; have hlt_ := hC.out.lt; have hh_ := h.1; (try simp only [rng] at h); (try simp only at h); omega) (fun k h => by have hg_ := hg.out; have hge_ := hC.out.ge; have hh_ := h.1; (try simp only [rng] at h); (try simp only at h); omega))
        have hB := Hd.mk (hB.out.then_ hX (fun k h hl => by have hh_ := h.1; (try simp only [rng] at h); (try simp only at h); omega))
        have hz_ := hX.size
        clear hX
        have z7 := Hd.mk hz_; clear hz_
        obtain ⟨A2, c2, hv2, hc2, _⟩ := R_C hL2.out
        subst hv2
        have hl2_ : (l ++ [x]).length = k + 1 := by rw [List.length_append, hl.out]; rfl
        rw [hl2_] at hc2 ⊢
        have hl2 := Hd.mk hl2_; clear hl2_
        have fb0_0 : w7.cell? ⟨w.heap.size, 0, none⟩ = some (Value.int IntKind.i64 0) := b0.out.cell 0 rfl
        have fb0_1 : w7.cell? ⟨w.heap.size, 1, none⟩ = some (Value.int IntKind.i64 0) := b0.out.cell 1 rfl
        have fb0_2 : w7.cell? ⟨w.heap.size, 2, none⟩ = some (Value.string ⟨#[]⟩) := b0.out.cell 2 rfl
        have fb0_3 : w7.cell? ⟨w.heap.size, 3, none⟩ = some (Value.slice none 0 0) := b0.out.cell 3 rfl
        have fb0_4 : w7.cell? ⟨w.heap.size, 4, none⟩ = some (Value.slice none 0 0) := b0.out.cell 4 rfl
        have fb0_z := b0.out.frozen
        have fb1_0 : w7.cell? ⟨w2.heap.size, 0, none⟩ = some (Value.int IntKind.i64 4) := b1.out.cell 0 rfl
        have fb1_1 : w7.cell? ⟨w2.heap.size, 1, none⟩ = some (Value.int IntKind.i64 0) := b1.out.cell 1 rfl
        have fb1_2 : w7.cell? ⟨w2.heap.size, 2, none⟩ = some (Value.string ⟨#[]⟩) := b1.out.cell 2 rfl
        have fb1_3 : w7.cell? ⟨w2.heap.size, 3, none⟩ = some (Value.slice AL k cL) := b1.out.cell 3 rfl
        have fb1_4 : w7.cell? ⟨w2.heap.size, 4, none⟩ = some (Value.slice none 0 0) := b1.out.cell 4 rfl
        have fb1_z := b1.out.frozen
        refine mixQ_n ?_
        refine tail_b rfl ?_ (by rfl)
        go_wp2_with fail
        refine mixQ_n ?_
        refine tail_b rfl ?_ (by rfl)
        go_wp2_with fail
        refine mixQ_n ?_
        refine tail_nil ?_
        go_wp2_with fail
        clear fb0_0 fb0_1 fb0_2 fb0_3 fb0_4 fb0_z fb1_0 fb1_1 fb1_2 fb1_3 fb1_4 fb1_z
        go_roundw
        case rel =>
          have z1_ := z1.out
          have z2_ := z2.out
          have hzw_ := hzw.out
          have z3_ := z3.out
          have z4_ := z4.out
          have z5_ := z5.out
          have z6_ := z6.out
          have z7_ := z7.out
          have hPW_ := hPW.out
          refine ⟨k + 1, _, l ++ [x], by go_num, by omega, hl2, ⟨fun z hz => by rcases List.mem_append.1 hz with hz | hz; exact hDL.out z hz; rw [List.mem_singleton.1 hz]; exact hDX.out⟩, ⟨b0.out.other _ (by (try simp only); omega) _⟩, ⟨b1.out.set 3 _⟩, ⟨R_setCell (by have h5 := hL2.out; rw [hl2.out] at h5; exact h5) (fun h => h.2.2 rfl) _⟩, ⟨hC.out.fr (Fr.setCell (S := fun k => k = w2.heap.size) (Fr.refl _ _) _ (fun _ => rfl) _) (fun h => by have := hg.out; (try simp only at h); omega) (fun k h => by have := hg.out; have := hC.out.ge; (try simp only at h); omega)⟩, ⟨hB.out.then_ (Fr.setCell (S := fun k => k = w2.heap.size) (Fr.refl _ _) _ (fun _ => rfl) _) (fun k h hl => by (try simp only at h); omega)⟩, ⟨by simp; omega⟩⟩
        case measure => simp [intOf]; omega
      · have z1_ := z1.out; have z2_ := z2.out; have hzw_ := hzw.out; have z3_ := z3.out
        have hPW_ := hPW.out
        have fb0_0 : w3.cell? ⟨w.heap.size, 0, none⟩ = some (Value.int IntKind.i64 0) := b0.out.cell 0 rfl
        have fb0_1 : w3.cell? ⟨w.heap.size, 1, none⟩ = some (Value.int IntKind.i64 0) := b0.out.cell 1 rfl
        have fb0_2 : w3.cell? ⟨w.heap.size, 2, none⟩ = some (Value.string ⟨#[]⟩) := b0.out.cell 2 rfl
        have fb0_3 : w3.cell? ⟨w.heap.size, 3, none⟩ = some (Value.slice none 0 0) := b0.out.cell 3 rfl
        have fb0_4 : w3.cell? ⟨w.heap.size, 4, none⟩ = some (Value.slice none 0 0) := b0.out.cell 4 rfl
        have fb0_z := b0.out.frozen
        have fb1_0 : w3.cell? ⟨w2.heap.size, 0, none⟩ = some (Value.int IntKind.i64 4) := b1.out.cell 0 rfl
        have fb1_1 : w3.cell? ⟨w2.heap.size, 1, none⟩ = some (Value.int IntKind.i64 0) := b1.out.cell 1 rfl
        have fb1_2 : w3.cell? ⟨w2.heap.size, 2, none⟩ = some (Value.string ⟨#[]⟩) := b1.out.cell 2 rfl
        have fb1_3 : w3.cell? ⟨w2.heap.size, 3, none⟩ = some (Value.slice AL l.length cL) := b1.out.cell 3 rfl
        have fb1_4 : w3.cell? ⟨w2.heap.size, 4, none⟩ = some (Value.slice none 0 0) := b1.out.cell 4 rfl
        have fb1_z := b1.out.frozen
        go_wp2_with fail
        refine bodyPost_retW (v := .agg #[Value.int IntKind.i64 4, Value.int IntKind.i64 0, Value.string ⟨#[]⟩, Value.slice AL l.length cL, Value.slice none 0 0]) (by simp [results, Try.results105, go_sem, fb0_0, fb0_1, fb0_2, fb0_3, fb0_4, fb0_z, fb1_0, fb1_1, fb1_2, fb1_3, fb1_4, fb1_z]) rfl ?_
        intro W hW
        clear fb0_0 fb0_1 fb0_2 fb0_3 fb0_4 fb0_z fb1_0 fb1_1 fb1_2 fb1_3 fb1_4 fb1_z
        have eF : Fr w3 W (fun k => k = w.heap.size) := by rw [hW]; (repeat (first | with_reducible refine Fr.setCell (S := fun k => k = w.heap.size) ?_ _ (fun _ => rfl) _)); exact Fr.refl _ _
        refine ⟨⟨4, 0, ⟨#[]⟩, l, []⟩, [Value.int IntKind.i64 4, Value.int IntKind.i64 0, Value.string ⟨#[]⟩, Value.slice AL l.length cL, Value.slice none 0 0], rfl, ⟨by have := hl.out; show l.length ≤ 4; omega, by simp, (show (⟨#[]⟩ : ByteArray).size ≤ 60 by decide), by simp, hDL.out, by simp⟩, tJ_O.2 ⟨_, _, (fun q => w.heap.size ≤ q ∧ q ≠ w.heap.size ∧ q ≠ w2.heap.size), fun _ => False, rfl, (show (⟨#[]⟩ : ByteArray).size ≤ 9223372036854775807 by decide), R_fr hL.out eF (fun k hk _ h => hk.2.1 h), R_nil, fun k h => h.1, fun k h => h.elim, fun k _ h => h⟩, hC.out.fr eF (fun h => by have := hg.out; (try simp only at h); omega) (fun k h => by have := hg.out; have := hC.out.ge; (try simp only at h); omega), hB.out.then_ eF (fun k h hl => by (try simp only at h); omega)⟩
  · have fb0_0 : w2.cell? ⟨w.heap.size, 0, none⟩ = some (Value.int IntKind.i64 0) := b0.out.cell 0 rfl
    have fb0_1 : w2.cell? ⟨w.heap.size, 1, none⟩ = some (Value.int IntKind.i64 0) := b0.out.cell 1 rfl
    have fb0_2 : w2.cell? ⟨w.heap.size, 2, none⟩ = some (Value.string ⟨#[]⟩) := b0.out.cell 2 rfl
    have fb0_3 : w2.cell? ⟨w.heap.size, 3, none⟩ = some (Value.slice none 0 0) := b0.out.cell 3 rfl
    have fb0_4 : w2.cell? ⟨w.heap.size, 4, none⟩ = some (Value.slice none 0 0) := b0.out.cell 4 rfl
    have fb0_z := b0.out.frozen
    go_wp2_with fail
    clear fb0_0 fb0_1 fb0_2 fb0_3 fb0_4 fb0_z
    have z1_ := z1.out; have z2_ := z2.out
    have hPW := Hd.mk (show w.heap.size < w2.heap.size by omega)
    clear z1_ z2_
    go_loopw [7] (fun i wr => ∃ (k : Nat) (v : Value) (l : List J), i = .int .i64 k ∧ k ≤ 4 ∧ Hd (l.length = k) ∧ Hd (∀ x ∈ l, DrG (d + 1) x) ∧ Hd (Blk wr w.heap.size #[Value.int IntKind.i64 0, Value.int IntKind.i64 0, Value.string ⟨#[]⟩, Value.slice none 0 0, Value.slice none 0 0] 27) ∧ Hd (Blk wr w2.heap.size #[Value.int IntKind.i64 4, Value.int IntKind.i64 0, Value.string ⟨#[]⟩, v, Value.slice none 0 0] 27) ∧ Hd ((tJ (d + 1)).R 27 wr (fun q => w.heap.size ≤ q ∧ q ≠ w.heap.size ∧ q ≠ w2.heap.size) v l) ∧ Hd (Cur W0 wr g) ∧ Hd (Fr w wr (fun k => k = g)) ∧ Hd (w2.heap.size < wr.heap.size)) (fun i _ => 4 - (intOf i).toNat)
    case atStart => exact ⟨0, .slice none 0 0, [], rfl, Nat.zero_le _, ⟨rfl⟩, ⟨by simp⟩, ⟨b0.out.alloc _⟩, ⟨Blk.new _ _ _⟩, ⟨R_nil⟩, ⟨hC.out.below (below_alloc (Below.refl _ _) _)⟩, ⟨hB.out.alloc _⟩, ⟨by simp⟩⟩
    case round =>
      clear b0 hB hC
      obtain ⟨k, v, l, rfl, hk4, hl, hDL, b0, b1, hL, hC, hB, hzw⟩ := hrel
      go_wp2_with fail
      refine (spec_l1Below 5 W0 _ g hC.out).mono ?_
      rintro e w3 ⟨y, rfl, y0, y1, _, hC1, hX⟩
      have hC := Hd.mk hC1; clear hC1
      have hSz0 := hB.out.size
      have hg_ := hg.out
      have z1_ := z1.out; have z2_ := z2.out; have hzw_ := hzw.out
      have b0 := Hd.mk (b0.out.fr hX (fun h => by skip; (try simp only at h); omega))
      have b1 := Hd.mk (b1.out.fr hX (fun h => by skip; (try simp only at h); omega))
      have hL := Hd.mk (R_fr hL.out hX (fun k hk hl h => by have q_ := hk.1; have hg_ := hg.out; (try simp only [rng] at hk); (try simp only at hk); (try simp only at h); omega))
      have hB := Hd.mk (hB.out.trans hX)
      have hz_ := hX.size
      clear hSz0 hg_ hX
      have z3 := Hd.mk hz_; clear hz_
      replace y1 := y1 (by omega)
      obtain ⟨AL, cL, hvL, hcL, _⟩ := R_C hL.out
      subst hvL
      by_cases hlt : (k : Int) < y
      · have hk3 : k ≤ 3 := by omega
        rw [hl.out] at hcL
        have hL0 := hL.out; have b10 := b1.out
        rw [hl.out] at hL0 b10
        replace hL := Hd.mk (R_bound hL0); replace b1 := Hd.mk b10; clear hL0 b10
        have z1_ := z1.out; have z2_ := z2.out; have hzw_ := hzw.out; have z3_ := z3.out
        have hWl := Hd.mk (show w.heap.size ≤ w3.heap.size by omega)
        clear z1_ z2_ hzw_ z3_
        have fb0_0 : w3.cell? ⟨w.heap.size, 0, none⟩ = some (Value.int IntKind.i64 0) := b0.out.cell 0 rfl
        have fb0_1 : w3.cell? ⟨w.heap.size, 1, none⟩ = some (Value.int IntKind.i64 0) := b0.out.cell 1 rfl
        have fb0_2 : w3.cell? ⟨w.heap.size, 2, none⟩ = some (Value.string ⟨#[]⟩) := b0.out.cell 2 rfl
        have fb0_3 : w3.cell? ⟨w.heap.size, 3, none⟩ = some (Value.slice none 0 0) := b0.out.cell 3 rfl
        have fb0_4 : w3.cell? ⟨w.heap.size, 4, none⟩ = some (Value.slice none 0 0) := b0.out.cell 4 rfl
        have fb0_z := b0.out.frozen
        have fb1_0 : w3.cell? ⟨w2.heap.size, 0, none⟩ = some (Value.int IntKind.i64 4) := b1.out.cell 0 rfl
        have fb1_1 : w3.cell? ⟨w2.heap.size, 1, none⟩ = some (Value.int IntKind.i64 0) := b1.out.cell 1 rfl
        have fb1_2 : w3.cell? ⟨w2.heap.size, 2, none⟩ = some (Value.string ⟨#[]⟩) := b1.out.cell 2 rfl
        have fb1_3 : w3.cell? ⟨w2.heap.size, 3, none⟩ = some (Value.slice AL k cL) := b1.out.cell 3 rfl
        have fb1_4 : w3.cell? ⟨w2.heap.size, 4, none⟩ = some (Value.slice none 0 0) := b1.out.cell 4 rfl
        have fb1_z := b1.out.frozen
        go_wp2_with fail
        clear fb0_0 fb0_1 fb0_2 fb0_3 fb0_4 fb0_z fb1_0 fb1_1 fb1_2 fb1_3 fb1_4 fb1_z
        have sb0 := Hd.mk b0.out
        have sb1 := Hd.mk b1.out
        refine region_mixC (fun w2 => Fr w3 w2 (fun k => k = g)) (.p 0 (.q 1 (.p 2 (.p 3 (.p 4 (.b 5 (.b 6 .fin))))))) [7, 8, 9] (by kernel_rfl) (Fr.drew (Fr.refl _ _)) (by kernel_rfl) (fun _ _ _ _ _ h => h) ?_
        refine genT ?_
        intro W4 hW
        have hS := Hd.mk (show Fr w3 W4 (fun k => k = g) by rw [hW]; exact Fr.drew (Fr.refl _ _))
        have hz_ : w3.heap.size ≤ W4.heap.size := by rw [hW]; simp
        have hE : Below w3.heap.size w3 W4 := by rw [hW]; (repeat (first | with_reducible refine below_alloc ?_ _ | with_reducible refine below_drew ?_)); exact Below.refl _ _
        have hB := Hd.mk (hB.out.trans (Fr.of_below hE _))
        have hC := Hd.mk (hC.out.below hE)
        have b0 := Hd.mk (b0.out.below hE)
        have b1 := Hd.mk (b1.out.below hE)
        have hL := Hd.mk (R_below hL.out hE)
        clear hW hE
        have z4 := Hd.mk hz_; clear hz_
        refine mixT_p rfl ?_
        go_big_quiet_want; go_big_quiet_op; go_big_quiet_on; refine wpQuiet_nil ?_
        refine mixT_see rfl (by rfl) (Value.slice AL k cL) (fun w_ hw_ => by have z1_ := z1.out; have z2_ := z2.out; have hzw_ := hzw.out; have z3_ := z3.out; have z4_ := z4.out; have f0_ := (sb1.out.fr hw_ (fun h => by have hg_ := hg.out; skip; have hlt_ := sb1.out.lt; (try simp only at h); omega)).cell 3 rfl; simp [execOp, go_sem, f0_]) hS.out ?_
        have fb0_0 : W4.cell? ⟨w.heap.size, 0, none⟩ = some (Value.int IntKind.i64 0) := b0.out.cell 0 rfl
        have fb0_1 : W4.cell? ⟨w.heap.size, 1, none⟩ = some (Value.int IntKind.i64 0) := b0.out.cell 1 rfl
        have fb0_2 : W4.cell? ⟨w.heap.size, 2, none⟩ = some (Value.string ⟨#[]⟩) := b0.out.cell 2 rfl
        have fb0_3 : W4.cell? ⟨w.heap.size, 3, none⟩ = some (Value.slice none 0 0) := b0.out.cell 3 rfl
        have fb0_4 : W4.cell? ⟨w.heap.size, 4, none⟩ = some (Value.slice none 0 0) := b0.out.cell 4 rfl
        have fb0_z := b0.out.frozen
        have fb1_0 : W4.cell? ⟨w2.heap.size, 0, none⟩ = some (Value.int IntKind.i64 4) := b1.out.cell 0 rfl
        have fb1_1 : W4.cell? ⟨w2.heap.size, 1, none⟩ = some (Value.int IntKind.i64 0) := b1.out.cell 1 rfl
        have fb1_2 : W4.cell? ⟨w2.heap.size, 2, none⟩ = some (Value.string ⟨#[]⟩) := b1.out.cell 2 rfl
        have fb1_3 : W4.cell? ⟨w2.heap.size, 3, none⟩ = some (Value.slice AL k cL) := b1.out.cell 3 rfl
        have fb1_4 : W4.cell? ⟨w2.heap.size, 4, none⟩ = some (Value.slice none 0 0) := b1.out.cell 4 rfl
        have fb1_z := b1.out.frozen
        go_wp2_with fail
        refine mixQ_n ?_
        clear fb0_0 fb0_1 fb0_2 fb0_3 fb0_4 fb0_z fb1_0 fb1_1 fb1_2 fb1_3 fb1_4 fb1_z
        refine mixT_p rfl ?_
        go_big_quiet_want; go_big_quiet_op; go_big_quiet_on; refine wpQuiet_nil ?_
        refine mixT_p rfl ?_
        go_big_quiet_want; go_big_quiet_op; go_big_quiet_on; refine wpQuiet_nil ?_
        refine mixT_p rfl ?_
        go_big_quiet_want; go_big_quiet_op; go_big_quiet_on; refine wpQuiet_nil ?_
        refine mixT_b rfl ?_ (by rfl)
        go_wp2_with fail
        apply calls_gen; intro W5 hW
        have hz_ : W4.heap.size ≤ W5.heap.size := by rw [hW]; simp
        have hE : Below W4.heap.size W4 W5 := by rw [hW]; (repeat (first | with_reducible refine below_alloc ?_ _ | with_reducible refine below_drew ?_)); exact Below.refl _ _
        have hB := Hd.mk (hB.out.trans (Fr.of_below hE _))
        have hC := Hd.mk (hC.out.below hE)
        replace hS := Hd.mk (hS.out.trans (Fr.of_below hE _))
        have b0 := Hd.mk (b0.out.below hE)
        have b1 := Hd.mk (b1.out.below hE)
        have hL := Hd.mk (R_below hL.out hE)
        clear hW hE
        have z5 := Hd.mk hz_; clear hz_
        rw [HN1.out]
        refine (ih W0 _ g hC.out).mono ?_
        rintro e w6 ⟨x, csx, rfl, hDX, hOX, hC1, hX⟩
        have hC := Hd.mk hC1; clear hC1
        have hSz0 := hB.out.size
        have hg_ := hg.out
        have z1_ := z1.out; have z2_ := z2.out; have hzw_ := hzw.out; have z3_ := z3.out; have z4_ := z4.out; have z5_ := z5.out
        have b0 := Hd.mk (b0.out.fr hX (fun h => by skip; (try simp only at h); omega))
        have b1 := Hd.mk (b1.out.fr hX (fun h => by skip; (try simp only at h); omega))
        have hL := Hd.mk (R_fr hL.out hX (fun k hk hl h => by have q_ := hk.1.1; have hg_ := hg.out; (try simp only [rng] at hk); (try simp only at hk); (try simp only at h); omega))
        have hB := Hd.mk (hB.out.trans hX)
        replace hS := Hd.mk (hS.out.trans hX)
        have hz_ := hX.size
        clear hSz0 hg_ hX
        have z6 := Hd.mk hz_; clear hz_
        obtain ⟨xv3, xv4, _, _, rfl, _, xr3, xr4, _⟩ := tJ_O.1 hOX
        obtain ⟨xD3, xd3, rfl, _, _⟩ := R_C xr3
        obtain ⟨xD4, xd4, rfl, _, _⟩ := R_C xr4
        clear xr3 xr4
        have hOX := Hd.mk (Ty.O_bound _ hOX)
        replace hDX := Hd.mk hDX
        go_wp2_with fail
        refine ⟨hS.out, ?_⟩
        refine mixT_b rfl ?_ (by rfl)
        go_wp2_with fail
        refine ⟨hS.out.alloc _, ?_⟩
        refine mixT_fin ?_
        clear hS
        have fb0_0 : w6.cell? ⟨w.heap.size, 0, none⟩ = some (Value.int IntKind.i64 0) := b0.out.cell 0 rfl
        have fb0_1 : w6.cell? ⟨w.heap.size, 1, none⟩ = some (Value.int IntKind.i64 0) := b0.out.cell 1 rfl
        have fb0_2 : w6.cell? ⟨w.heap.size, 2, none⟩ = some (Value.string ⟨#[]⟩) := b0.out.cell 2 rfl
        have fb0_3 : w6.cell? ⟨w.heap.size, 3, none⟩ = some (Value.slice none 0 0) := b0.out.cell 3 rfl
        have fb0_4 : w6.cell? ⟨w.heap.size, 4, none⟩ = some (Value.slice none 0 0) := b0.out.cell 4 rfl
        have fb0_z := b0.out.frozen
        have fb1_0 : w6.cell? ⟨w2.heap.size, 0, none⟩ = some (Value.int IntKind.i64 4) := b1.out.cell 0 rfl
        have fb1_1 : w6.cell? ⟨w2.heap.size, 1, none⟩ = some (Value.int IntKind.i64 0) := b1.out.cell 1 rfl
        have fb1_2 : w6.cell? ⟨w2.heap.size, 2, none⟩ = some (Value.string ⟨#[]⟩) := b1.out.cell 2 rfl
        have fb1_3 : w6.cell? ⟨w2.heap.size, 3, none⟩ = some (Value.slice AL k cL) := b1.out.cell 3 rfl
        have fb1_4 : w6.cell? ⟨w2.heap.size, 4, none⟩ = some (Value.slice none 0 0) := b1.out.cell 4 rfl
        have fb1_z := b1.out.frozen
        refine tail_b rfl ?_ (by rfl)
        clear fb0_0 fb0_1 fb0_2 fb0_3 fb0_4 fb0_z fb1_0 fb1_1 fb1_2 fb1_3 fb1_4 fb1_z
        have z1_ := z1.out; have z2_ := z2.out; have hzw_ := hzw.out; have z3_ := z3.out; have z4_ := z4.out; have z5_ := z5.out; have z6_ := z6.out
        have hWl_ := hWl.out
        have hPW_ := hPW.out
        go_wp2_with (at_builtin; refine append_one (tJ (d + 1)) rfl _ _ 24 27 (.agg #[.int .i64 0, .int .i64 0, .string ByteArray.empty, .slice none 0 0, .slice none 0 0]) 80 rfl Try.underlying24 info_JsonS rfl (by rw [tJ_sz]; omega) (by decide) (S := fun q => (fun q => w.heap.size ≤ q ∧ q ≠ w.heap.size ∧ q ≠ w2.heap.size) q ∧ q < w3.heap.size) (T := fun q => W5.heap.size ≤ q ∧ q < w6.heap.size) (S' := (fun q => w.heap.size ≤ q ∧ q ≠ w.heap.size ∧ q ≠ w2.heap.size)) (v := .slice AL k cL) (xs := l) x [Value.int IntKind.i64 x.kind, Value.int IntKind.i64 x.n, Value.string x.s, Value.slice xD3 x.list.length xd3, Value.slice xD4 x.names.length xd4] rfl rfl hL.out hOX.out (fun k h1 hl h2 => by have h5 := h2.2; have h6 := h1.1; omega) (fun k h => h.1) (fun k h => by have h6 := h.1; exact ⟨by omega, by omega, by omega⟩) (fun k h => by exact ⟨by omega, by omega, by omega⟩) (by have := hl.out; omega) (fun v2 w7 hv2 hX => ?_))
        clear hOX hL
        have hL2 := Hd.mk hv2; clear hv2
        have z1_ := z1.out; have z2_ := z2.out; have hzw_ := hzw.out; have z3_ := z3.out; have z4_ := z4.out; have z5_ := z5.out; have z6_ := z6.out
        have hSz := hB.out.size
        have b0 := Hd.mk (b0.out.fr hX (fun h => by have hlt_ := b0.out.lt; have hh_ := h.1; (try simp only [rng] at h); (try simp only at h); omega))
        have b1 := Hd.mk (b1.out.fr hX (fun h => by have hlt_ := b1.out.lt; have hh_ := h.1; (try simp only [rng] at h); (try simp only at h); omega))
        have hC := Hd.mk (hC.out.fr hX (fun h => by have hg_ := hg.out; have hlt_ := hC.out.lt; have hh_ := h.1; (try simp only [rng] at h); (try simp only at h); omega) (fun k h => by have hg_ := hg.out; have hge_ := hC.out.ge; have hh_ := h.1; (try simp only [rng] at h); (try simp only at h); omega))
        have hB := Hd.mk (hB.out.then_ hX (fun k h hl => by have hh_ := h.1; (try simp only [rng] at h); (try simp only at h); omega))
        have hz_ := hX.size
        clear hX
        have z7 := Hd.mk hz_; clear hz_
        obtain ⟨A2, c2, hv2, hc2, _⟩ := R_C hL2.out
        subst hv2
        have hl2_ : (l ++ [x]).length = k + 1 := by rw [List.length_append, hl.out]; rfl
        rw [hl2_] at hc2 ⊢
        have hl2 := Hd.mk hl2_; clear hl2_
        have fb0_0 : w7.cell? ⟨w.heap.size, 0, none⟩ = some (Value.int IntKind.i64 0) := b0.out.cell 0 rfl
        have fb0_1 : w7.cell? ⟨w.heap.size, 1, none⟩ = some (Value.int IntKind.i64 0) := b0.out.cell 1 rfl
        have fb0_2 : w7.cell? ⟨w.heap.size, 2, none⟩ = some (Value.string ⟨#[]⟩) := b0.out.cell 2 rfl
        have fb0_3 : w7.cell? ⟨w.heap.size, 3, none⟩ = some (Value.slice none 0 0) := b0.out.cell 3 rfl
        have fb0_4 : w7.cell? ⟨w.heap.size, 4, none⟩ = some (Value.slice none 0 0) := b0.out.cell 4 rfl
        have fb0_z := b0.out.frozen
        have fb1_0 : w7.cell? ⟨w2.heap.size, 0, none⟩ = some (Value.int IntKind.i64 4) := b1.out.cell 0 rfl
        have fb1_1 : w7.cell? ⟨w2.heap.size, 1, none⟩ = some (Value.int IntKind.i64 0) := b1.out.cell 1 rfl
        have fb1_2 : w7.cell? ⟨w2.heap.size, 2, none⟩ = some (Value.string ⟨#[]⟩) := b1.out.cell 2 rfl
        have fb1_3 : w7.cell? ⟨w2.heap.size, 3, none⟩ = some (Value.slice AL k cL) := b1.out.cell 3 rfl
        have fb1_4 : w7.cell? ⟨w2.heap.size, 4, none⟩ = some (Value.slice none 0 0) := b1.out.cell 4 rfl
        have fb1_z := b1.out.frozen
        refine mixQ_n ?_
        refine tail_b rfl ?_ (by rfl)
        go_wp2_with fail
        refine mixQ_n ?_
        refine tail_b rfl ?_ (by rfl)
        go_wp2_with fail
        refine mixQ_n ?_
        refine tail_nil ?_
        go_wp2_with fail
        clear fb0_0 fb0_1 fb0_2 fb0_3 fb0_4 fb0_z fb1_0 fb1_1 fb1_2 fb1_3 fb1_4 fb1_z
        go_roundw
        case rel =>
          have z1_ := z1.out
          have z2_ := z2.out
          have hzw_ := hzw.out
          have z3_ := z3.out
          have z4_ := z4.out
          have z5_ := z5.out
          have z6_ := z6.out
          have z7_ := z7.out
          have hPW_ := hPW.out
          refine ⟨k + 1, _, l ++ [x], by go_num, by omega, hl2, ⟨fun z hz => by rcases List.mem_append.1 hz with hz | hz; exact hDL.out z hz; rw [List.mem_singleton.1 hz]; exact hDX.out⟩, ⟨b0.out.other _ (by (try simp only); omega) _⟩, ⟨b1.out.set 3 _⟩, ⟨R_setCell (by have h5 := hL2.out; rw [hl2.out] at h5; exact h5) (fun h => h.2.2 rfl) _⟩, ⟨hC.out.fr (Fr.setCell (S := fun k => k = w2.heap.size) (Fr.refl _ _) _ (fun _ => rfl) _) (fun h => by have := hg.out; (try simp only at h); omega) (fun k h => by have := hg.out; have := hC.out.ge; (try simp only at h); omega)⟩, ⟨hB.out.then_ (Fr.setCell (S := fun k => k = w2.heap.size) (Fr.refl _ _) _ (fun _ => rfl) _) (fun k h hl => by (try simp only at h); omega)⟩, ⟨by simp; omega⟩⟩
        case measure => simp [intOf]; omega
      · have z1_ := z1.out; have z2_ := z2.out; have hzw_ := hzw.out; have z3_ := z3.out
        have hPW_ := hPW.out
        have fb0_0 : w3.cell? ⟨w.heap.size, 0, none⟩ = some (Value.int IntKind.i64 0) := b0.out.cell 0 rfl
        have fb0_1 : w3.cell? ⟨w.heap.size, 1, none⟩ = some (Value.int IntKind.i64 0) := b0.out.cell 1 rfl
        have fb0_2 : w3.cell? ⟨w.heap.size, 2, none⟩ = some (Value.string ⟨#[]⟩) := b0.out.cell 2 rfl
        have fb0_3 : w3.cell? ⟨w.heap.size, 3, none⟩ = some (Value.slice none 0 0) := b0.out.cell 3 rfl
        have fb0_4 : w3.cell? ⟨w.heap.size, 4, none⟩ = some (Value.slice none 0 0) := b0.out.cell 4 rfl
        have fb0_z := b0.out.frozen
        have fb1_0 : w3.cell? ⟨w2.heap.size, 0, none⟩ = some (Value.int IntKind.i64 4) := b1.out.cell 0 rfl
        have fb1_1 : w3.cell? ⟨w2.heap.size, 1, none⟩ = some (Value.int IntKind.i64 0) := b1.out.cell 1 rfl
        have fb1_2 : w3.cell? ⟨w2.heap.size, 2, none⟩ = some (Value.string ⟨#[]⟩) := b1.out.cell 2 rfl
        have fb1_3 : w3.cell? ⟨w2.heap.size, 3, none⟩ = some (Value.slice AL l.length cL) := b1.out.cell 3 rfl
        have fb1_4 : w3.cell? ⟨w2.heap.size, 4, none⟩ = some (Value.slice none 0 0) := b1.out.cell 4 rfl
        have fb1_z := b1.out.frozen
        go_wp2_with fail
        refine bodyPost_retW (v := .agg #[Value.int IntKind.i64 4, Value.int IntKind.i64 0, Value.string ⟨#[]⟩, Value.slice AL l.length cL, Value.slice none 0 0]) (by simp [results, Try.results105, go_sem, fb0_0, fb0_1, fb0_2, fb0_3, fb0_4, fb0_z, fb1_0, fb1_1, fb1_2, fb1_3, fb1_4, fb1_z]) rfl ?_
        intro W hW
        clear fb0_0 fb0_1 fb0_2 fb0_3 fb0_4 fb0_z fb1_0 fb1_1 fb1_2 fb1_3 fb1_4 fb1_z
        have eF : Fr w3 W (fun k => k = w.heap.size) := by rw [hW]; (repeat (first | with_reducible refine Fr.setCell (S := fun k => k = w.heap.size) ?_ _ (fun _ => rfl) _)); exact Fr.refl _ _
        refine ⟨⟨4, 0, ⟨#[]⟩, l, []⟩, [Value.int IntKind.i64 4, Value.int IntKind.i64 0, Value.string ⟨#[]⟩, Value.slice AL l.length cL, Value.slice none 0 0], rfl, ⟨by have := hl.out; show l.length ≤ 4; omega, by simp, (show (⟨#[]⟩ : ByteArray).size ≤ 60 by decide), by simp, hDL.out, by simp⟩, tJ_O.2 ⟨_, _, (fun q => w.heap.size ≤ q ∧ q ≠ w.heap.size ∧ q ≠ w2.heap.size), fun _ => False, rfl, (show (⟨#[]⟩ : ByteArray).size ≤ 9223372036854775807 by decide), R_fr hL.out eF (fun k hk _ h => hk.2.1 h), R_nil, fun k h => h.1, fun k h => h.elim, fun k _ h => h⟩, hC.out.fr eF (fun h => by have := hg.out; (try simp only at h); omega) (fun k h => by have := hg.out; have := hC.out.ge; (try simp only at h); omega), hB.out.then_ eF (fun k h hl => by (try simp only at h); omega)⟩
  · have fb0_0 : w2.cell? ⟨w.heap.size, 0, none⟩ = some (Value.int IntKind.i64 0) := b0.out.cell 0 rfl
    have fb0_1 : w2.cell? ⟨w.heap.size, 1, none⟩ = some (Value.int IntKind.i64 0) := b0.out.cell 1 rfl
    have fb0_2 : w2.cell? ⟨w.heap.size, 2, none⟩ = some (Value.string ⟨#[]⟩) := b0.out.cell 2 rfl
    have fb0_3 : w2.cell? ⟨w.heap.size, 3, none⟩ = some (Value.slice none 0 0) := b0.out.cell 3 rfl
    have fb0_4 : w2.cell? ⟨w.heap.size, 4, none⟩ = some (Value.slice none 0 0) := b0.out.cell 4 rfl
    have fb0_z := b0.out.frozen
    go_wp2_with fail
    clear fb0_0 fb0_1 fb0_2 fb0_3 fb0_4 fb0_z
    have z1_ := z1.out; have z2_ := z2.out
    have hPW := Hd.mk (show w.heap.size < w2.heap.size by omega)
    clear z1_ z2_
    go_loopw [9, 10] (fun i nm wr => ∃ (k : Nat) (j : J) (A3 A4 : Option Addr) (c3 c4 : Nat), i = .int .i64 k ∧ k ≤ 4 ∧ Hd (j.kind = 5 ∧ j.list.length ≤ k) ∧ Hd (DrG (d + 2) j) ∧ Hd (Blk wr w.heap.size #[Value.int IntKind.i64 0, Value.int IntKind.i64 0, Value.string ⟨#[]⟩, Value.slice none 0 0, Value.slice none 0 0] 27) ∧ Hd (Blk wr w2.heap.size #[Value.int IntKind.i64 j.kind, Value.int IntKind.i64 j.n, Value.string j.s, Value.slice A3 j.list.length c3, Value.slice A4 j.names.length c4] 27) ∧ Hd ((tJ (d + 2)).O wr (fun q => w.heap.size ≤ q ∧ q ≠ w.heap.size ∧ q ≠ w2.heap.size) j [Value.int IntKind.i64 j.kind, Value.int IntKind.i64 j.n, Value.string j.s, Value.slice A3 j.list.length c3, Value.slice A4 j.names.length c4]) ∧ Hd (Cur W0 wr g) ∧ Hd (Fr w wr (fun k => k = g)) ∧ Hd (w2.heap.size < wr.heap.size)) (fun i _ _ => 4 - (intOf i).toNat)
    case atStart => exact ⟨0, ⟨5, 0, ⟨#[]⟩, [], []⟩, none, none, 0, 0, rfl, Nat.zero_le _, ⟨rfl, Nat.le_refl _⟩, ⟨DrG_flat _ _ _ (by decide)⟩, ⟨b0.out.alloc _⟩, ⟨Blk.new _ _ _⟩, ⟨O_flat0 _ _ _ (by decide)⟩, ⟨hC.out.below (below_alloc (Below.refl _ _) _)⟩, ⟨hB.out.alloc _⟩, ⟨by simp⟩⟩
    case round =>
      clear b0 hB hC
      obtain ⟨k, j, A3, A4, c3, c4, rfl, hk4, hj5, hDJ, b0, b1, hO, hC, hB, hzw⟩ := hrel
      go_wp2_with fail
      refine (spec_l1Below 5 W0 _ g hC.out).mono ?_
      rintro e w3 ⟨y, rfl, y0, y1, _, hC1, hX⟩
      have hC := Hd.mk hC1; clear hC1
      have hSz0 := hB.out.size
      have hg_ := hg.out
      have z1_ := z1.out; have z2_ := z2.out; have hzw_ := hzw.out
      have b0 := Hd.mk (b0.out.fr hX (fun h => by skip; (try simp only at h); omega))
      have b1 := Hd.mk (b1.out.fr hX (fun h => by skip; (try simp only at h); omega))
      have hO := Hd.mk (Ty.O_fr hO.out hX (fun k hk hl h => by have q_ := hk.1; have hg_ := hg.out; (try simp only [rng] at hk); (try simp only at hk); (try simp only at h); omega))
      have hB := Hd.mk (hB.out.trans hX)
      have hz_ := hX.size
      clear hSz0 hg_ hX
      have z3 := Hd.mk hz_; clear hz_
      replace y1 := y1 (by omega)
      by_cases hlt : (k : Int) < y
      · have hk3 : k ≤ 3 := by omega
        have fb0_0 : w3.cell? ⟨w.heap.size, 0, none⟩ = some (Value.int IntKind.i64 0) := b0.out.cell 0 rfl
        have fb0_1 : w3.cell? ⟨w.heap.size, 1, none⟩ = some (Value.int IntKind.i64 0) := b0.out.cell 1 rfl
        have fb0_2 : w3.cell? ⟨w.heap.size, 2, none⟩ = some (Value.string ⟨#[]⟩) := b0.out.cell 2 rfl
        have fb0_3 : w3.cell? ⟨w.heap.size, 3, none⟩ = some (Value.slice none 0 0) := b0.out.cell 3 rfl
        have fb0_4 : w3.cell? ⟨w.heap.size, 4, none⟩ = some (Value.slice none 0 0) := b0.out.cell 4 rfl
        have fb0_z := b0.out.frozen
        have fb1_0 : w3.cell? ⟨w2.heap.size, 0, none⟩ = some (Value.int IntKind.i64 j.kind) := b1.out.cell 0 rfl
        have fb1_1 : w3.cell? ⟨w2.heap.size, 1, none⟩ = some (Value.int IntKind.i64 j.n) := b1.out.cell 1 rfl
        have fb1_2 : w3.cell? ⟨w2.heap.size, 2, none⟩ = some (Value.string j.s) := b1.out.cell 2 rfl
        have fb1_3 : w3.cell? ⟨w2.heap.size, 3, none⟩ = some (Value.slice A3 j.list.length c3) := b1.out.cell 3 rfl
        have fb1_4 : w3.cell? ⟨w2.heap.size, 4, none⟩ = some (Value.slice A4 j.names.length c4) := b1.out.cell 4 rfl
        have fb1_z := b1.out.frozen
        go_wp2_with fail
        clear fb0_0 fb0_1 fb0_2 fb0_3 fb0_4 fb0_z fb1_0 fb1_1 fb1_2 fb1_3 fb1_4 fb1_z
        refine (spec_l1DrawName W0 _ g hC.out).mono ?_
        rintro e w4 ⟨s, rfl, hs, hC1, hX⟩
        have hC := Hd.mk hC1; clear hC1
        have hSz0 := hB.out.size
        have hg_ := hg.out
        have z1_ := z1.out; have z2_ := z2.out; have hzw_ := hzw.out; have z3_ := z3.out
        have b0 := Hd.mk (b0.out.fr hX (fun h => by skip; (try simp only at h); omega))
        have b1 := Hd.mk (b1.out.fr hX (fun h => by skip; (try simp only at h); omega))
        have hO := Hd.mk (Ty.O_fr hO.out hX (fun k hk hl h => by have q_ := hk.1; have hg_ := hg.out; (try simp only [rng] at hk); (try simp only at hk); (try simp only at h); omega))
        have hB := Hd.mk (hB.out.trans hX)
        have hz_ := hX.size
        clear hSz0 hg_ hX
        have z4 := Hd.mk hz_; clear hz_
        have hs6 : s.size ≤ 60 := (show ∀ s ∈ drawNames, s.size ≤ 60 by decide) s hs
        clear hs
        have fb0_0 : w4.cell? ⟨w.heap.size, 0, none⟩ = some (Value.int IntKind.i64 0) := b0.out.cell 0 rfl
        have fb0_1 : w4.cell? ⟨w.heap.size, 1, none⟩ = some (Value.int IntKind.i64 0) := b0.out.cell 1 rfl
        have fb0_2 : w4.cell? ⟨w.heap.size, 2, none⟩ = some (Value.string ⟨#[]⟩) := b0.out.cell 2 rfl
        have fb0_3 : w4.cell? ⟨w.heap.size, 3, none⟩ = some (Value.slice none 0 0) := b0.out.cell 3 rfl
        have fb0_4 : w4.cell? ⟨w.heap.size, 4, none⟩ = some (Value.slice none 0 0) := b0.out.cell 4 rfl
        have fb0_z := b0.out.frozen
        have fb1_0 : w4.cell? ⟨w2.heap.size, 0, none⟩ = some (Value.int IntKind.i64 j.kind) := b1.out.cell 0 rfl
        have fb1_1 : w4.cell? ⟨w2.heap.size, 1, none⟩ = some (Value.int IntKind.i64 j.n) := b1.out.cell 1 rfl
        have fb1_2 : w4.cell? ⟨w2.heap.size, 2, none⟩ = some (Value.string j.s) := b1.out.cell 2 rfl
        have fb1_3 : w4.cell? ⟨w2.heap.size, 3, none⟩ = some (Value.slice A3 j.list.length c3) := b1.out.cell 3 rfl
        have fb1_4 : w4.cell? ⟨w2.heap.size, 4, none⟩ = some (Value.slice A4 j.names.length c4) := b1.out.cell 4 rfl
        have fb1_z := b1.out.frozen
        go_wp2_with fail
        clear fb0_0 fb0_1 fb0_2 fb0_3 fb0_4 fb0_z fb1_0 fb1_1 fb1_2 fb1_3 fb1_4 fb1_z
        refine (spec_l1At j [Value.int IntKind.i64 j.kind, Value.int IntKind.i64 j.n, Value.string j.s, Value.slice A3 j.list.length c3, Value.slice A4 j.names.length c4] s _ (Ty.O_K _ hO.out)).mono ?_
        rintro e w5 ⟨rfl, hX⟩
        have b0 := Hd.mk (b0.out.below hX)
        have b1 := Hd.mk (b1.out.below hX)
        have hO := Hd.mk (Ty.O_below hO.out hX)
        have hB := Hd.mk (hB.out.trans (Fr.of_below hX _))
        have hC := Hd.mk (hC.out.below hX)
        have hz_ := hX.size
        clear hX
        have z5 := Hd.mk hz_; clear hz_
        obtain ⟨at_, hat⟩ : ∃ z, z = nameAt j.names s := ⟨_, rfl⟩
        rw [← hat]
        clear hat
        by_cases hneg : at_ < 0
        · have z1_ := z1.out; have z2_ := z2.out; have hzw_ := hzw.out; have z3_ := z3.out; have z4_ := z4.out; have z5_ := z5.out
          have hWl := Hd.mk (show w.heap.size ≤ w5.heap.size by omega)
          clear z1_ z2_ hzw_ z3_ z4_ z5_
          replace hO := Hd.mk (show (tJ (d + 2)).O w5 (fun q => (fun q => w.heap.size ≤ q ∧ q ≠ w.heap.size ∧ q ≠ w2.heap.size) q ∧ q < w5.heap.size) j _ from Ty.O_bound _ hO.out)
          have fb0_0 : w5.cell? ⟨w.heap.size, 0, none⟩ = some (Value.int IntKind.i64 0) := b0.out.cell 0 rfl
          have fb0_1 : w5.cell? ⟨w.heap.size, 1, none⟩ = some (Value.int IntKind.i64 0) := b0.out.cell 1 rfl
          have fb0_2 : w5.cell? ⟨w.heap.size, 2, none⟩ = some (Value.string ⟨#[]⟩) := b0.out.cell 2 rfl
          have fb0_3 : w5.cell? ⟨w.heap.size, 3, none⟩ = some (Value.slice none 0 0) := b0.out.cell 3 rfl
          have fb0_4 : w5.cell? ⟨w.heap.size, 4, none⟩ = some (Value.slice none 0 0) := b0.out.cell 4 rfl
          have fb0_z := b0.out.frozen
          have fb1_0 : w5.cell? ⟨w2.heap.size, 0, none⟩ = some (Value.int IntKind.i64 j.kind) := b1.out.cell 0 rfl
          have fb1_1 : w5.cell? ⟨w2.heap.size, 1, none⟩ = some (Value.int IntKind.i64 j.n) := b1.out.cell 1 rfl
          have fb1_2 : w5.cell? ⟨w2.heap.size, 2, none⟩ = some (Value.string j.s) := b1.out.cell 2 rfl
          have fb1_3 : w5.cell? ⟨w2.heap.size, 3, none⟩ = some (Value.slice A3 j.list.length c3) := b1.out.cell 3 rfl
          have fb1_4 : w5.cell? ⟨w2.heap.size, 4, none⟩ = some (Value.slice A4 j.names.length c4) := b1.out.cell 4 rfl
          have fb1_z := b1.out.frozen
          go_wp2_with fail
          clear fb0_0 fb0_1 fb0_2 fb0_3 fb0_4 fb0_z fb1_0 fb1_1 fb1_2 fb1_3 fb1_4 fb1_z
          have sb0 := Hd.mk b0.out
          have sb1 := Hd.mk b1.out
          refine region_mixC (fun w2 => Fr w5 w2 (fun k => k = g)) (.q 0 (.p 1 (.p 2 (.p 3 (.p 4 (.b 5 (.b 6 .fin))))))) [7] (by kernel_rfl) (Fr.drew (Fr.refl _ _)) (by kernel_rfl) (fun _ _ _ _ _ h => h) ?_
          refine genT ?_
          intro W6 hW
          have hS := Hd.mk (show Fr w5 W6 (fun k => k = g) by rw [hW]; exact Fr.drew (Fr.refl _ _))
          have hz_ : w5.heap.size ≤ W6.heap.size := by rw [hW]; simp
          have hE : Below w5.heap.size w5 W6 := by rw [hW]; (repeat (first | with_reducible refine below_alloc ?_ _ | with_reducible refine below_drew ?_)); exact Below.refl _ _
          have hB := Hd.mk (hB.out.trans (Fr.of_below hE _))
          have hC := Hd.mk (hC.out.below hE)
          have b0 := Hd.mk (b0.out.below hE)
          have b1 := Hd.mk (b1.out.below hE)
          have hO := Hd.mk (Ty.O_below hO.out hE)
          clear hW hE
          have z6 := Hd.mk hz_; clear hz_
          refine mixT_see rfl (by rfl) (Value.agg #[Value.int IntKind.i64 j.kind, Value.int IntKind.i64 j.n, Value.string j.s, Value.slice A3 j.list.length c3, Value.slice A4 j.names.length c4]) (fun w_ hw_ => by have z1_ := z1.out; have z2_ := z2.out; have hzw_ := hzw.out; have z3_ := z3.out; have z4_ := z4.out; have z5_ := z5.out; have z6_ := z6.out; have f0_ := (sb1.out.fr hw_ (fun h => by have hg_ := hg.out; skip; have hlt_ := sb1.out.lt; (try simp only at h); omega)).cell 0 rfl; have f1_ := (sb1.out.fr hw_ (fun h => by have hg_ := hg.out; skip; have hlt_ := sb1.out.lt; (try simp only at h); omega)).cell 1 rfl; have f2_ := (sb1.out.fr hw_ (fun h => by have hg_ := hg.out; skip; have hlt_ := sb1.out.lt; (try simp only at h); omega)).cell 2 rfl; have f3_ := (sb1.out.fr hw_ (fun h => by have hg_ := hg.out; skip; have hlt_ := sb1.out.lt; (try simp only at h); omega)).cell 3 rfl; have f4_ := (sb1.out.fr hw_ (fun h => by have hg_ := hg.out; skip; have hlt_ := sb1.out.lt; (try simp only at h); omega)).cell 4 rfl; simp [execOp, go_sem, f0_, f1_, f2_, f3_, f4_]) hS.out ?_
          have fb0_0 : W6.cell? ⟨w.heap.size, 0, none⟩ = some (Value.int IntKind.i64 0) := b0.out.cell 0 rfl
          have fb0_1 : W6.cell? ⟨w.heap.size, 1, none⟩ = some (Value.int IntKind.i64 0) := b0.out.cell 1 rfl
          have fb0_2 : W6.cell? ⟨w.heap.size, 2, none⟩ = some (Value.string ⟨#[]⟩) := b0.out.cell 2 rfl
          have fb0_3 : W6.cell? ⟨w.heap.size, 3, none⟩ = some (Value.slice none 0 0) := b0.out.cell 3 rfl
          have fb0_4 : W6.cell? ⟨w.heap.size, 4, none⟩ = some (Value.slice none 0 0) := b0.out.cell 4 rfl
          have fb0_z := b0.out.frozen
          have fb1_0 : W6.cell? ⟨w2.heap.size, 0, none⟩ = some (Value.int IntKind.i64 j.kind) := b1.out.cell 0 rfl
          have fb1_1 : W6.cell? ⟨w2.heap.size, 1, none⟩ = some (Value.int IntKind.i64 j.n) := b1.out.cell 1 rfl
          have fb1_2 : W6.cell? ⟨w2.heap.size, 2, none⟩ = some (Value.string j.s) := b1.out.cell 2 rfl
          have fb1_3 : W6.cell? ⟨w2.heap.size, 3, none⟩ = some (Value.slice A3 j.list.length c3) := b1.out.cell 3 rfl
          have fb1_4 : W6.cell? ⟨w2.heap.size, 4, none⟩ = some (Value.slice A4 j.names.length c4) := b1.out.cell 4 rfl
          have fb1_z := b1.out.frozen
          go_wp2_with fail
          refine mixQ_n ?_
          clear fb0_0 fb0_1 fb0_2 fb0_3 fb0_4 fb0_z fb1_0 fb1_1 fb1_2 fb1_3 fb1_4 fb1_z
          refine mixT_p rfl ?_
          go_big_quiet_want; go_big_quiet_op; go_big_quiet_on; refine wpQuiet_nil ?_
          refine mixT_p rfl ?_
          go_big_quiet_want; go_big_quiet_op; go_big_quiet_on; refine wpQuiet_nil ?_
          refine mixT_p rfl ?_
          go_big_quiet_want; go_big_quiet_op; go_big_quiet_on; refine wpQuiet_nil ?_
          refine mixT_p rfl ?_
          go_big_quiet_want; go_big_quiet_op; go_big_quiet_on; refine wpQuiet_nil ?_
          refine mixT_b rfl ?_ (by rfl)
          go_wp2_with fail
          apply calls_gen; intro W7 hW
          have hz_ : W6.heap.size ≤ W7.heap.size := by rw [hW]; simp
          have hE : Below W6.heap.size W6 W7 := by rw [hW]; (repeat (first | with_reducible refine below_alloc ?_ _ | with_reducible refine below_drew ?_)); exact Below.refl _ _
          have hB := Hd.mk (hB.out.trans (Fr.of_below hE _))
          have hC := Hd.mk (hC.out.below hE)
          replace hS := Hd.mk (hS.out.trans (Fr.of_below hE _))
          have b0 := Hd.mk (b0.out.below hE)
          have b1 := Hd.mk (b1.out.below hE)
          have hO := Hd.mk (Ty.O_below hO.out hE)
          clear hW hE
          have z7 := Hd.mk hz_; clear hz_
          rw [HN1.out]
          refine (ih W0 _ g hC.out).mono ?_
          rintro e w8 ⟨x, csx, rfl, hDX, hOX, hC1, hX⟩
          have hC := Hd.mk hC1; clear hC1
          have hSz0 := hB.out.size
          have hg_ := hg.out
          have z1_ := z1.out; have z2_ := z2.out; have hzw_ := hzw.out; have z3_ := z3.out; have z4_ := z4.out; have z5_ := z5.out; have z6_ := z6.out; have z7_ := z7.out
          have b0 := Hd.mk (b0.out.fr hX (fun h => by skip; (try simp only at h); omega))
          have b1 := Hd.mk (b1.out.fr hX (fun h => by skip; (try simp only at h); omega))
          have hO := Hd.mk (Ty.O_fr hO.out hX (fun k hk hl h => by have q_ := hk.1.1; have hg_ := hg.out; (try simp only [rng] at hk); (try simp only at hk); (try simp only at h); omega))
          have hB := Hd.mk (hB.out.trans hX)
          replace hS := Hd.mk (hS.out.trans hX)
          have hz_ := hX.size
          clear hSz0 hg_ hX
          have z8 := Hd.mk hz_; clear hz_
          obtain ⟨xv3, xv4, _, _, rfl, _, xr3, xr4, _⟩ := tJ_O.1 hOX
          obtain ⟨xD3, xd3, rfl, _, _⟩ := R_C xr3
          obtain ⟨xD4, xd4, rfl, _, _⟩ := R_C xr4
          clear xr3 xr4
          have hOX := Hd.mk (show (tJ (d + 1)).O w8 (rng W7.heap.size w8.heap.size) x _ from Ty.O_bound _ hOX)
          replace hDX := Hd.mk hDX
          go_wp2_with fail
          refine ⟨hS.out, ?_⟩
          refine mixT_b rfl ?_ (by rfl)
          go_wp2_with fail
          apply calls_gen; intro W9 hW
          have hz_ : w8.heap.size ≤ W9.heap.size := by rw [hW]; simp
          have hE : Below w8.heap.size w8 W9 := by rw [hW]; (repeat (first | with_reducible refine below_alloc ?_ _ | with_reducible refine below_drew ?_)); exact Below.refl _ _
          have hB := Hd.mk (hB.out.trans (Fr.of_below hE _))
          have hC := Hd.mk (hC.out.below hE)
          replace hS := Hd.mk (hS.out.trans (Fr.of_below hE _))
          have b0 := Hd.mk (b0.out.below hE)
          have b1 := Hd.mk (b1.out.below hE)
          have hO := Hd.mk (Ty.O_below hO.out hE)
          have hOX := Hd.mk (Ty.O_below hOX.out hE)
          clear hW hE
          have z9 := Hd.mk hz_; clear hz_
          have hDP := DrG_put hDJ.out hj5.out.1 hDX.out hs6 (by have := hj5.out.2; omega)
          have z1_ := z1.out; have z2_ := z2.out; have hzw_ := hzw.out; have z3_ := z3.out; have z4_ := z4.out; have z5_ := z5.out; have z6_ := z6.out; have z7_ := z7.out; have z8_ := z8.out; have z9_ := z9.out
          have hWl_ := hWl.out
          have hPW_ := hPW.out
          have hlen_ : j.names.length = j.list.length := hDJ.out.2.2.2.2.2 hj5.out.1
          have hl4_ := hj5.out.2
          have hPut := spec_l1Put j x s [Value.int IntKind.i64 j.kind, Value.int IntKind.i64 j.n, Value.string j.s, Value.slice A3 j.list.length c3, Value.slice A4 j.names.length c4] [Value.int IntKind.i64 x.kind, Value.int IntKind.i64 x.n, Value.string x.s, Value.slice xD3 x.list.length xd3, Value.slice xD4 x.names.length xd4] _ hO.out hOX.out (fun q h1 h2 => by have h5 := h1.2; have h6 := h2.1; omega) (by omega) hlen_ (by omega)
          obtain ⟨z, hz⟩ : ∃ z, z = putJ j x s := ⟨_, rfl⟩
          rw [← hz] at hPut hDP
          clear hz hlen_ hl4_
          have HDP := Hd.mk hDP; clear hDP
          refine (hPut).mono ?_
          rintro e w10 ⟨csz, rfl, hOZ, hX⟩
          have b0 := Hd.mk (b0.out.below hX)
          have b1 := Hd.mk (b1.out.below hX)
          have hB := Hd.mk (hB.out.trans (Fr.of_below hX _))
          have hC := Hd.mk (hC.out.below hX)
          replace hS := Hd.mk (hS.out.trans (Fr.of_below hX _))
          have hz_ := hX.size
          clear hX
          have z10 := Hd.mk hz_; clear hz_
          obtain ⟨zv3, zv4, _, _, rfl, _, zr3, zr4, _⟩ := tJ_O.1 hOZ
          obtain ⟨zD3, zd3, rfl, _, _⟩ := R_C zr3
          obtain ⟨zD4, zd4, rfl, _, _⟩ := R_C zr4
          clear zr3 zr4
          have hOZ := Hd.mk (show (tJ (d + 2)).O w10 (fun q => w.heap.size ≤ q ∧ q ≠ w.heap.size ∧ q ≠ w2.heap.size) z _ from Ty.O_mono _ (fun q h => by rcases h with h | h | h; exact ⟨by omega, by omega, by omega⟩; exact h.1; have h6 := h.1; exact ⟨by omega, by omega, by omega⟩) hOZ)
          clear hPut hO hOX
          go_wp2_with fail
          refine ⟨hS.out, ?_⟩
          refine mixT_fin ?_
          clear hS
          have fb0_0 : w10.cell? ⟨w.heap.size, 0, none⟩ = some (Value.int IntKind.i64 0) := b0.out.cell 0 rfl
          have fb0_1 : w10.cell? ⟨w.heap.size, 1, none⟩ = some (Value.int IntKind.i64 0) := b0.out.cell 1 rfl
          have fb0_2 : w10.cell? ⟨w.heap.size, 2, none⟩ = some (Value.string ⟨#[]⟩) := b0.out.cell 2 rfl
          have fb0_3 : w10.cell? ⟨w.heap.size, 3, none⟩ = some (Value.slice none 0 0) := b0.out.cell 3 rfl
          have fb0_4 : w10.cell? ⟨w.heap.size, 4, none⟩ = some (Value.slice none 0 0) := b0.out.cell 4 rfl
          have fb0_z := b0.out.frozen
          have fb1_0 : w10.cell? ⟨w2.heap.size, 0, none⟩ = some (Value.int IntKind.i64 j.kind) := b1.out.cell 0 rfl
          have fb1_1 : w10.cell? ⟨w2.heap.size, 1, none⟩ = some (Value.int IntKind.i64 j.n) := b1.out.cell 1 rfl
          have fb1_2 : w10.cell? ⟨w2.heap.size, 2, none⟩ = some (Value.string j.s) := b1.out.cell 2 rfl
          have fb1_3 : w10.cell? ⟨w2.heap.size, 3, none⟩ = some (Value.slice A3 j.list.length c3) := b1.out.cell 3 rfl
          have fb1_4 : w10.cell? ⟨w2.heap.size, 4, none⟩ = some (Value.slice A4 j.names.length c4) := b1.out.cell 4 rfl
          have fb1_z := b1.out.frozen
          refine tail_b rfl ?_ (by rfl)
          go_wp2_with fail
          refine mixQ_n ?_
          refine tail_nil ?_
          clear fb0_0 fb0_1 fb0_2 fb0_3 fb0_4 fb0_z fb1_0 fb1_1 fb1_2 fb1_3 fb1_4 fb1_z
          refine exit_gen ?_; intro W11 hW
          have z1_ := z1.out; have z2_ := z2.out; have hzw_ := hzw.out; have z3_ := z3.out; have z4_ := z4.out; have z5_ := z5.out; have z6_ := z6.out; have z7_ := z7.out; have z8_ := z8.out; have z9_ := z9.out; have z10_ := z10.out
          have hPW_ := hPW.out
          have hz_ : w10.heap.size ≤ W11.heap.size := by rw [hW]; simp
          have eF : Fr w10 W11 (fun k => k = w2.heap.size ∨ w10.heap.size ≤ k) := by rw [hW]; (repeat (first | with_reducible refine Fr.setCell ?_ _ (fun _ => by simp <;> omega) _ | with_reducible refine Fr.alloc ?_ _ | with_reducible refine Fr.drew ?_)); exact Fr.refl _ _
          have z1_ := z1.out; have z2_ := z2.out; have hzw_ := hzw.out; have z3_ := z3.out; have z4_ := z4.out; have z5_ := z5.out; have z6_ := z6.out; have z7_ := z7.out; have z8_ := z8.out; have z9_ := z9.out; have z10_ := z10.out
          have hC := Hd.mk (hC.out.fr eF (fun h => by have hg_ := hg.out; have hlt_ := hC.out.lt; (try simp only [rng] at h); (try simp only at h); omega) (fun k h => by have hg_ := hg.out; have hge_ := hC.out.ge; (try simp only [rng] at h); (try simp only at h); omega))
          have hB := Hd.mk (hB.out.then_ eF (fun k h hl => by (try simp only [rng] at h); (try simp only at h); omega))
          have b0 := Hd.mk (b0.out.fr eF (fun h => by have hlt_ := b0.out.lt; (try simp only at h); omega))
          have b1 := Hd.mk (show Blk W11 (w2.heap.size) #[Value.int IntKind.i64 z.kind, Value.int IntKind.i64 z.n, Value.string z.s, Value.slice zD3 z.list.length zd3, Value.slice zD4 z.names.length zd4] 27 by rw [hW]; exact (Blk.all b1.out [Value.int IntKind.i64 z.kind, Value.int IntKind.i64 z.n, Value.string z.s, Value.slice zD3 z.list.length zd3, Value.slice zD4 z.names.length zd4] rfl))
          have hOZ := Hd.mk (Ty.O_fr hOZ.out eF (fun k hk hl h => by have q_ := hk; (try simp only [rng] at hk); (try simp only at hk); (try simp only at h); omega))
          clear hW eF
          have z11 := Hd.mk hz_; clear hz_
          go_wp2_with fail
          go_roundw
          case rel => exact ⟨k + 1, z, zD3, zD4, zd3, zd4, by go_num, by omega, ⟨HDP.out.2.1, by have h1 := HDP.out.2.2; have h2 := hj5.out.2; omega⟩, ⟨HDP.out.1⟩, b0, b1, hOZ, hC, hB, ⟨by have z1_ := z1.out; have z2_ := z2.out; have hzw_ := hzw.out; have z3_ := z3.out; have z4_ := z4.out; have z5_ := z5.out; have z6_ := z6.out; have z7_ := z7.out; have z8_ := z8.out; have z9_ := z9.out; have z10_ := z10.out; have z11_ := z11.out; omega⟩⟩
          case measure => simp [intOf]; omega
        · have fb0_0 : w5.cell? ⟨w.heap.size, 0, none⟩ = some (Value.int IntKind.i64 0) := b0.out.cell 0 rfl
          have fb0_1 : w5.cell? ⟨w.heap.size, 1, none⟩ = some (Value.int IntKind.i64 0) := b0.out.cell 1 rfl
          have fb0_2 : w5.cell? ⟨w.heap.size, 2, none⟩ = some (Value.string ⟨#[]⟩) := b0.out.cell 2 rfl
          have fb0_3 : w5.cell? ⟨w.heap.size, 3, none⟩ = some (Value.slice none 0 0) := b0.out.cell 3 rfl
          have fb0_4 : w5.cell? ⟨w.heap.size, 4, none⟩ = some (Value.slice none 0 0) := b0.out.cell 4 rfl
          have fb0_z := b0.out.frozen
          have fb1_0 : w5.cell? ⟨w2.heap.size, 0, none⟩ = some (Value.int IntKind.i64 j.kind) := b1.out.cell 0 rfl
          have fb1_1 : w5.cell? ⟨w2.heap.size, 1, none⟩ = some (Value.int IntKind.i64 j.n) := b1.out.cell 1 rfl
          have fb1_2 : w5.cell? ⟨w2.heap.size, 2, none⟩ = some (Value.string j.s) := b1.out.cell 2 rfl
          have fb1_3 : w5.cell? ⟨w2.heap.size, 3, none⟩ = some (Value.slice A3 j.list.length c3) := b1.out.cell 3 rfl
          have fb1_4 : w5.cell? ⟨w2.heap.size, 4, none⟩ = some (Value.slice A4 j.names.length c4) := b1.out.cell 4 rfl
          have fb1_z := b1.out.frozen
          go_wp2_with fail
          clear fb0_0 fb0_1 fb0_2 fb0_3 fb0_4 fb0_z fb1_0 fb1_1 fb1_2 fb1_3 fb1_4 fb1_z
          go_roundw
          case rel => exact ⟨k + 1, j, A3, A4, c3, c4, by go_num, by omega, ⟨hj5.out.1, by have h2 := hj5.out.2; omega⟩, hDJ, b0, b1, hO, hC, hB, ⟨by have z1_ := z1.out; have z2_ := z2.out; have hzw_ := hzw.out; have z3_ := z3.out; have z4_ := z4.out; have z5_ := z5.out; omega⟩⟩
          case measure => simp [intOf]; omega
      · have z1_ := z1.out; have z2_ := z2.out; have hzw_ := hzw.out; have z3_ := z3.out
        have hPW_ := hPW.out
        have fb0_0 : w3.cell? ⟨w.heap.size, 0, none⟩ = some (Value.int IntKind.i64 0) := b0.out.cell 0 rfl
        have fb0_1 : w3.cell? ⟨w.heap.size, 1, none⟩ = some (Value.int IntKind.i64 0) := b0.out.cell 1 rfl
        have fb0_2 : w3.cell? ⟨w.heap.size, 2, none⟩ = some (Value.string ⟨#[]⟩) := b0.out.cell 2 rfl
        have fb0_3 : w3.cell? ⟨w.heap.size, 3, none⟩ = some (Value.slice none 0 0) := b0.out.cell 3 rfl
        have fb0_4 : w3.cell? ⟨w.heap.size, 4, none⟩ = some (Value.slice none 0 0) := b0.out.cell 4 rfl
        have fb0_z := b0.out.frozen
        have fb1_0 : w3.cell? ⟨w2.heap.size, 0, none⟩ = some (Value.int IntKind.i64 j.kind) := b1.out.cell 0 rfl
        have fb1_1 : w3.cell? ⟨w2.heap.size, 1, none⟩ = some (Value.int IntKind.i64 j.n) := b1.out.cell 1 rfl
        have fb1_2 : w3.cell? ⟨w2.heap.size, 2, none⟩ = some (Value.string j.s) := b1.out.cell 2 rfl
        have fb1_3 : w3.cell? ⟨w2.heap.size, 3, none⟩ = some (Value.slice A3 j.list.length c3) := b1.out.cell 3 rfl
        have fb1_4 : w3.cell? ⟨w2.heap.size, 4, none⟩ = some (Value.slice A4 j.names.length c4) := b1.out.cell 4 rfl
        have fb1_z := b1.out.frozen
        go_wp2_with fail
        refine bodyPost_retW (v := .agg #[Value.int IntKind.i64 j.kind, Value.int IntKind.i64 j.n, Value.string j.s, Value.slice A3 j.list.length c3, Value.slice A4 j.names.length c4]) (by simp [results, Try.results105, go_sem, fb0_0, fb0_1, fb0_2, fb0_3, fb0_4, fb0_z, fb1_0, fb1_1, fb1_2, fb1_3, fb1_4, fb1_z]) rfl ?_
        intro W hW
        clear fb0_0 fb0_1 fb0_2 fb0_3 fb0_4 fb0_z fb1_0 fb1_1 fb1_2 fb1_3 fb1_4 fb1_z
        have eF : Fr w3 W (fun k => k = w.heap.size) := by rw [hW]; (repeat (first | with_reducible refine Fr.setCell (S := fun k => k = w.heap.size) ?_ _ (fun _ => rfl) _)); exact Fr.refl _ _
        refine ⟨j, [Value.int IntKind.i64 j.kind, Value.int IntKind.i64 j.n, Value.string j.s, Value.slice A3 j.list.length c3, Value.slice A4 j.names.length c4], rfl, hDJ.out, Ty.O_mono _ (fun q h => h.1) (Ty.O_fr hO.out eF (fun k hk _ h => hk.2.1 h)), hC.out.fr eF (fun h => by have := hg.out; (try simp only at h); omega) (fun k h => by have := hg.out; have := hC.out.ge; (try simp only at h); omega), hB.out.then_ eF (fun k h hl => by (try simp only at h); omega)⟩
theorem spec_l1DrawRight : ∀ d : Nat, d ≤ 100 → DrawR d
  | 0, _ => spec_l1DrawRight_0
  | d + 1, h => spec_l1DrawRight_s (by omega) (spec_l1DrawRight d (by omega))
end Go.Proofs.Ytlkjpnlpankhpaa.X
