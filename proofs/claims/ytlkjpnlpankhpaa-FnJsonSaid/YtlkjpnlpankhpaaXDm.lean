/- What is proved here: a value is drawn. Conditions: none. -/
import Derived.Test.YtlkjpnlpankhpaaXDl
namespace Go.Proofs.Ytlkjpnlpankhpaa.X
open Go.RowKit Go.Sort
set_option linter.unusedVariables false
set_option linter.unusedSimpArgs false
open Ty
theorem bulk_s (m : Nat) (k n : Int) (s : ByteArray) (j : J) : bulkJ m ⟨k, n, s, j.list, j.names⟩ ≤ s.size + bulkJ m j := by
  cases m with
  | zero => exact Nat.zero_le _
  | succ m => simp only [bulkJ, J.s_mk, J.list_mk, J.names_mk]; omega
theorem bulk_kn (m : Nat) (k n : Int) (j : J) : bulkJ m ⟨k, n, j.s, j.list, j.names⟩ = bulkJ m j := by
  cases m <;> rfl
theorem bulk_n (m : Nat) (s : ByteArray) (j : J) : bulkJ m ⟨j.kind, j.n, j.s, j.list, j.names ++ [s]⟩ ≤ bulkJ m j + 1 + s.size := by
  cases m with
  | zero => exact Nat.zero_le _
  | succ m => simp only [bulkJ, J.s_mk, J.list_mk, J.names_mk, bulkStringS, bulkL_append, bulkL, List.length_append, List.length_cons, List.length_nil]; omega
theorem bulk_one1 {j : J} {B : Nat} (h : ∀ m, bulkJ m j ≤ B) (m : Nat) : bulkJ m ⟨4, 0, ⟨#[]⟩, [j], []⟩ ≤ B + 1 := by
  cases m with
  | zero => exact Nat.zero_le _
  | succ m =>
    have h1 := h m
    simp only [bulkJ, J.s_mk, J.list_mk, J.names_mk, bulkStringS, bulkL, List.length_cons, List.length_nil, show (⟨#[]⟩ : ByteArray).size = 0 from rfl]
    omega
theorem bulk_null (m : Nat) : bulkJ m J.null = 0 := by cases m <;> rfl
theorem bulk_nulls (c m : Nat) : bulkJ m ⟨4, 0, ⟨#[]⟩, List.replicate c J.null, []⟩ ≤ c := by
  cases m with
  | zero => exact Nat.zero_le _
  | succ m =>
    have h1 : ∀ c, bulkL (bulkJ m) (List.replicate c J.null) = 0 := by
      intro c
      induction c with
      | zero => rfl
      | succ c ih => rw [List.replicate_succ]; simp only [bulkL, ih, bulk_null]
    simp only [bulkJ, J.s_mk, J.list_mk, J.names_mk, bulkStringS, bulkL, h1, List.length_nil, List.length_replicate, show (⟨#[]⟩ : ByteArray).size = 0 from rfl]
    omega
theorem O_fld {m : Nat} {w : World} {S : Nat → Prop} {j : J} {v v2 : Value} (h : (tJ (m + 1)).O w S j [.int .i64 j.kind, .int .i64 j.n, .string j.s, v, v2]) (k n : Int) (s : ByteArray) (hs : s.size ≤ 9223372036854775807) : (tJ (m + 1)).O w S ⟨k, n, s, j.list, j.names⟩ [.int .i64 k, .int .i64 n, .string s, v, v2] := by
  obtain ⟨v3, v4, T0, T1, e, _, h3, h4, r⟩ := tJ_O.1 h
  simp only [List.cons.injEq, and_true, true_and] at e
  obtain ⟨rfl, rfl⟩ := e
  exact tJ_O.2 ⟨_, _, T0, T1, rfl, hs, h3, h4, r⟩
theorem O_ssz {m : Nat} {w : World} {S : Nat → Prop} {j : J} {cs : List Value} (h : (tJ (m + 1)).O w S j cs) : j.s.size ≤ 9223372036854775807 := by
  obtain ⟨v3, v4, T0, T1, e, hs, _⟩ := tJ_O.1 h
  exact hs
theorem O_one5 {m n : Nat} {W : World} {T : Nat → Prop} {j : J} {cs : List Value} (h : (tJ (m + 1)).O W T j cs) (h5 : cs.length = 5) (hn : W.heap.size = n) : (tJ (m + 2)).O (W.alloc (.cells cs.toArray 27)) (fun q => (T q ∧ q < n) ∨ q = n) ⟨4, 0, ⟨#[]⟩, [j], []⟩ [.int .i64 4, .int .i64 0, .string ⟨#[]⟩, .slice (some ⟨n, 0, none⟩) 1 1, .slice none 0 0] := by
  subst hn
  have hb : Below W.heap.size W (W.alloc (.cells cs.toArray 27)) := below_alloc (Below.refl _ _) _
  refine tJ_O.2 ⟨_, _, fun q => (T q ∧ q < W.heap.size) ∨ q = W.heap.size, fun _ => False, rfl, (show (⟨#[]⟩ : ByteArray).size ≤ 9223372036854775807 by decide), ?_, R_nil, fun _ h => h, fun _ h => h.elim, fun _ _ h => h⟩
  refine R_block (d := tJ (m + 1)) (xs := [j]) (cap := 1) (heap_alloc_new W _) (.inr rfl) (Nat.le_refl _) (by omega) (by rw [tJ_sz]; simpa using h5) (fun _ => 0) (fun i x hx => ?_)
  rcases i with _ | i
  · simp only [List.getElem?_cons_zero, Option.some.injEq] at hx
    subst hx
    rw [tJ_sz, Nat.zero_mul, List.drop_zero, List.take_of_length_le (by simp [h5])]
    exact Ty.O_mono _ (fun q hq => ⟨.inl hq, by have := hq.2; omega, rfl⟩) (Ty.O_below (Ty.O_bound _ h) hb)
  · simp at hx
theorem spec_l1DrawRight4 (W0 w : World) (g : Nat) (hc : Cur W0 w g) : Calls Try.prog 105 #[.pointer (some ⟨g, 0, none⟩), .int .i64 4] w fun e w' => ∃ (j : J) (cs : List Value), e = .returned (.agg cs.toArray) ∧ DrG 4 j ∧ (tJ 4).O w' (fun k => w.heap.size ≤ k) j cs ∧ Cur W0 w' g ∧ Fr w w' (fun k => k = g) := spec_l1DrawRight 3 (by decide) W0 w g hc
set_option maxHeartbeats 8000000 in
set_option maxRecDepth 100000 in
theorem spec_l1Draw (W0 w : World) (g : Nat) (hc : Cur W0 w g) :
    Calls Try.prog 72 #[.pointer (some ⟨g, 0, none⟩)] w fun e w' => ∃ (j : J) (cs : List Value), e = .returned (.agg cs.toArray) ∧ (∀ m, bulkJ m j ≤ 30000) ∧ (tJ 9).O w' (fun k => w.heap.size ≤ k) j cs ∧ Cur W0 w' g ∧ Fr w w' (fun k => k = g) := by
  have hg := Hd.mk hc.lt
  have hC := Hd.mk hc; clear hc
  have hB := Hd.mk (Fr.refl w (fun k => k = g))
  go_enter Try.func72, Try.ntmps72
  go_wp2_with fail
  apply calls_gen; intro W1 hW
  have hz_ : w.heap.size + 1 ≤ W1.heap.size := by rw [hW]; simp
  have hE : Below w.heap.size w W1 := by rw [hW]; (repeat (first | with_reducible refine below_alloc ?_ _ | with_reducible refine below_drew ?_)); exact Below.refl _ _
  have hB := Hd.mk (hB.out.trans (Fr.of_below hE _))
  have hC := Hd.mk (hC.out.below hE)
  have b0 := Hd.mk (show Blk W1 (w.heap.size) #[Value.int IntKind.i64 0, Value.int IntKind.i64 0, Value.string ⟨#[]⟩, Value.slice none 0 0, Value.slice none 0 0] 27 by rw [hW]; first | exact (Blk.new _ _ _) | (simpa using (Blk.new _ _ _)))
  clear hW hE
  have z1 := Hd.mk hz_; clear hz_
  refine (spec_l1DrawRight4 W0 _ g hC.out).mono ?_
  rintro e w2 ⟨j, cs, rfl, hDJ, hO, hC1, hX⟩
  have hC := Hd.mk hC1; clear hC1
  have hSz0 := hB.out.size
  have hg_ := hg.out
  have z1_ := z1.out
  have b0 := Hd.mk (b0.out.fr hX (fun h => by skip; (try simp only at h); omega))
  have hB := Hd.mk (hB.out.trans hX)
  have hz_ := hX.size
  clear hSz0 hg_ hX
  have z2 := Hd.mk hz_; clear hz_
  obtain ⟨v3, v4, _, _, rfl, _, hr3, hr4, _⟩ := tJ_O.1 hO
  obtain ⟨A3, c3, rfl, _, _⟩ := R_C hr3
  obtain ⟨A4, c4, rfl, _, _⟩ := R_C hr4
  clear hr3 hr4
  have HBK := Hd.mk (show ∀ m, bulkJ m j ≤ 26350 from fun m => DrG_bulk 4 m j hDJ)
  have hn4 : j.names.length ≤ 4 := hDJ.2.1
  clear hDJ
  have hO := Hd.mk (show (tJ 4).O w2 (rng W1.heap.size w2.heap.size) j _ from Ty.O_bound _ hO)
  have z1_ := z1.out; have z2_ := z2.out
  have hWl := Hd.mk (show w.heap.size < W1.heap.size by omega)
  have fb0_0 : w2.cell? ⟨w.heap.size, 0, none⟩ = some (Value.int IntKind.i64 0) := b0.out.cell 0 rfl
  have fb0_1 : w2.cell? ⟨w.heap.size, 1, none⟩ = some (Value.int IntKind.i64 0) := b0.out.cell 1 rfl
  have fb0_2 : w2.cell? ⟨w.heap.size, 2, none⟩ = some (Value.string ⟨#[]⟩) := b0.out.cell 2 rfl
  have fb0_3 : w2.cell? ⟨w.heap.size, 3, none⟩ = some (Value.slice none 0 0) := b0.out.cell 3 rfl
  have fb0_4 : w2.cell? ⟨w.heap.size, 4, none⟩ = some (Value.slice none 0 0) := b0.out.cell 4 rfl
  have fb0_z := b0.out.frozen
  go_wp2_with fail
  clear fb0_0 fb0_1 fb0_2 fb0_3 fb0_4 fb0_z
  apply calls_gen; intro W3 hW
  have hz_ : w2.heap.size + 1 ≤ W3.heap.size := by rw [hW]; simp
  have hE : Below w2.heap.size w2 W3 := by rw [hW]; (repeat (first | with_reducible refine below_alloc ?_ _ | with_reducible refine below_drew ?_)); exact Below.refl _ _
  have hB := Hd.mk (hB.out.trans (Fr.of_below hE _))
  have hC := Hd.mk (hC.out.below hE)
  have b0 := Hd.mk (b0.out.below hE)
  have b1 := Hd.mk (show Blk W3 (w2.heap.size) #[Value.int IntKind.i64 j.kind, Value.int IntKind.i64 j.n, Value.string j.s, Value.slice A3 j.list.length c3, Value.slice A4 j.names.length c4] 27 by rw [hW]; first | exact (Blk.new _ _ _) | (simpa using (Blk.new _ _ _)))
  have hO := Hd.mk (Ty.O_below hO.out hE)
  clear hW hE
  have z3 := Hd.mk hz_; clear hz_
  have z1_ := z1.out; have z2_ := z2.out; have z3_ := z3.out
  have hPW := Hd.mk (show w.heap.size < w2.heap.size by omega)
  refine (spec_l1Below 20 W0 _ g hC.out).mono ?_
  rintro e w4 ⟨x, rfl, x0, x1, _, hC1, hX⟩
  have hC := Hd.mk hC1; clear hC1
  have hSz0 := hB.out.size
  have hg_ := hg.out
  have z1_ := z1.out; have z2_ := z2.out; have z3_ := z3.out
  have b0 := Hd.mk (b0.out.fr hX (fun h => by skip; (try simp only at h); omega))
  have b1 := Hd.mk (b1.out.fr hX (fun h => by skip; (try simp only at h); omega))
  have hO := Hd.mk (Ty.O_fr hO.out hX (fun k hk hl h => by have q_ := hk; have hg_ := hg.out; (try simp only [rng] at hk); (try simp only at hk); (try simp only at h); omega))
  have hB := Hd.mk (hB.out.trans hX)
  have hz_ := hX.size
  clear hSz0 hg_ hX
  have z4 := Hd.mk hz_; clear hz_
  replace x1 := x1 (by omega)
  have hx : x = 0 ∨ x = 1 ∨ x = 2 ∨ x = 3 ∨ x = 4 ∨ x = 5 ∨ 6 ≤ x := by omega
  clear x0 x1
  rcases hx with rfl | rfl | rfl | rfl | rfl | rfl | hx
  · have fb0_0 : w4.cell? ⟨w.heap.size, 0, none⟩ = some (Value.int IntKind.i64 0) := b0.out.cell 0 rfl
    have fb0_1 : w4.cell? ⟨w.heap.size, 1, none⟩ = some (Value.int IntKind.i64 0) := b0.out.cell 1 rfl
    have fb0_2 : w4.cell? ⟨w.heap.size, 2, none⟩ = some (Value.string ⟨#[]⟩) := b0.out.cell 2 rfl
    have fb0_3 : w4.cell? ⟨w.heap.size, 3, none⟩ = some (Value.slice none 0 0) := b0.out.cell 3 rfl
    have fb0_4 : w4.cell? ⟨w.heap.size, 4, none⟩ = some (Value.slice none 0 0) := b0.out.cell 4 rfl
    have fb0_z := b0.out.frozen
    have fb1_0 : w4.cell? ⟨w2.heap.size, 0, none⟩ = some (Value.int IntKind.i64 j.kind) := b1.out.cell 0 rfl
    have fb1_1 : w4.cell? ⟨w2.heap.size, 1, none⟩ = some (Value.int IntKind.i64 j.n) := b1.out.cell 1 rfl
    have fb1_2 : w4.cell? ⟨w2.heap.size, 2, none⟩ = some (Value.string j.s) := b1.out.cell 2 rfl
    have fb1_3 : w4.cell? ⟨w2.heap.size, 3, none⟩ = some (Value.slice A3 j.list.length c3) := b1.out.cell 3 rfl
    have fb1_4 : w4.cell? ⟨w2.heap.size, 4, none⟩ = some (Value.slice A4 j.names.length c4) := b1.out.cell 4 rfl
    have fb1_z := b1.out.frozen
    go_wp2_with fail
    clear fb0_0 fb0_1 fb0_2 fb0_3 fb0_4 fb0_z fb1_0 fb1_1 fb1_2 fb1_3 fb1_4 fb1_z
    refine (spec_l1Below 8 W0 _ g hC.out).mono ?_
    rintro e w5 ⟨y, rfl, y0, y1, _, hC1, hX⟩
    have hC := Hd.mk hC1; clear hC1
    have hSz0 := hB.out.size
    have hg_ := hg.out
    have z1_ := z1.out; have z2_ := z2.out; have z3_ := z3.out; have z4_ := z4.out
    have b0 := Hd.mk (b0.out.fr hX (fun h => by skip; (try simp only at h); omega))
    have b1 := Hd.mk (b1.out.fr hX (fun h => by skip; (try simp only at h); omega))
    have hO := Hd.mk (Ty.O_fr hO.out hX (fun k hk hl h => by have q_ := hk; have hg_ := hg.out; (try simp only [rng] at hk); (try simp only at hk); (try simp only at h); omega))
    have hB := Hd.mk (hB.out.trans hX)
    have hz_ := hX.size
    clear hSz0 hg_ hX
    have z5 := Hd.mk hz_; clear hz_
    replace y1 := y1 (by omega)
    have fb0_0 : w5.cell? ⟨w.heap.size, 0, none⟩ = some (Value.int IntKind.i64 0) := b0.out.cell 0 rfl
    have fb0_1 : w5.cell? ⟨w.heap.size, 1, none⟩ = some (Value.int IntKind.i64 0) := b0.out.cell 1 rfl
    have fb0_2 : w5.cell? ⟨w.heap.size, 2, none⟩ = some (Value.string ⟨#[]⟩) := b0.out.cell 2 rfl
    have fb0_3 : w5.cell? ⟨w.heap.size, 3, none⟩ = some (Value.slice none 0 0) := b0.out.cell 3 rfl
    have fb0_4 : w5.cell? ⟨w.heap.size, 4, none⟩ = some (Value.slice none 0 0) := b0.out.cell 4 rfl
    have fb0_z := b0.out.frozen
    have fb1_0 : w5.cell? ⟨w2.heap.size, 0, none⟩ = some (Value.int IntKind.i64 j.kind) := b1.out.cell 0 rfl
    have fb1_1 : w5.cell? ⟨w2.heap.size, 1, none⟩ = some (Value.int IntKind.i64 j.n) := b1.out.cell 1 rfl
    have fb1_2 : w5.cell? ⟨w2.heap.size, 2, none⟩ = some (Value.string j.s) := b1.out.cell 2 rfl
    have fb1_3 : w5.cell? ⟨w2.heap.size, 3, none⟩ = some (Value.slice A3 j.list.length c3) := b1.out.cell 3 rfl
    have fb1_4 : w5.cell? ⟨w2.heap.size, 4, none⟩ = some (Value.slice A4 j.names.length c4) := b1.out.cell 4 rfl
    have fb1_z := b1.out.frozen
    go_wp2_with fail
    refine bodyPost_retW (v := .agg #[Value.int IntKind.i64 (y - 1), Value.int IntKind.i64 j.n, Value.string j.s, Value.slice A3 j.list.length c3, Value.slice A4 j.names.length c4]) (by simp [results, Try.results72, go_sem, fb0_0, fb0_1, fb0_2, fb0_3, fb0_4, fb0_z, fb1_0, fb1_1, fb1_2, fb1_3, fb1_4, fb1_z]) rfl ?_
    intro W hW
    clear fb0_0 fb0_1 fb0_2 fb0_3 fb0_4 fb0_z fb1_0 fb1_1 fb1_2 fb1_3 fb1_4 fb1_z
    have z1_ := z1.out; have z2_ := z2.out; have z3_ := z3.out; have z4_ := z4.out; have z5_ := z5.out
    have hSz_ := hB.out.size
    have hg_ := hg.out
    have hz_ : w5.heap.size ≤ W.heap.size := by rw [hW]; simp
    have eF : Fr w5 W (fun k => k = w2.heap.size ∨ k = w.heap.size ∨ w5.heap.size ≤ k) := by rw [hW]; (repeat (first | with_reducible refine Fr.setCell ?_ _ (fun _ => by simp <;> omega) _ | with_reducible refine Fr.alloc ?_ _ | with_reducible refine Fr.drew ?_)); exact Fr.refl _ _
    have z1_ := z1.out; have z2_ := z2.out; have z3_ := z3.out; have z4_ := z4.out; have z5_ := z5.out
    have hC := Hd.mk (hC.out.fr eF (fun h => by have hg_ := hg.out; have hlt_ := hC.out.lt; (try simp only [rng] at h); (try simp only at h); omega) (fun k h => by have hg_ := hg.out; have hge_ := hC.out.ge; (try simp only [rng] at h); (try simp only at h); omega))
    have hB := Hd.mk (hB.out.then_ eF (fun k h hl => by (try simp only [rng] at h); (try simp only at h); omega))
    have b0 := Hd.mk (show Blk W (w.heap.size) #[Value.int IntKind.i64 (y - 1), Value.int IntKind.i64 j.n, Value.string j.s, Value.slice A3 j.list.length c3, Value.slice A4 j.names.length c4] 27 by rw [hW]; exact ((((((b0.out.other _ (by simp <;> omega) _).set 0 (Value.int IntKind.i64 (y - 1))).set 1 (Value.int IntKind.i64 j.n)).set 2 (Value.string j.s)).set 3 (Value.slice A3 j.list.length c3)).set 4 (Value.slice A4 j.names.length c4)))
    have b1 := Hd.mk (show Blk W (w2.heap.size) #[Value.int IntKind.i64 (y - 1), Value.int IntKind.i64 j.n, Value.string j.s, Value.slice A3 j.list.length c3, Value.slice A4 j.names.length c4] 27 by rw [hW]; exact ((((((b1.out.set 0 (Value.int IntKind.i64 (y - 1))).other _ (by simp <;> omega) _).other _ (by simp <;> omega) _).other _ (by simp <;> omega) _).other _ (by simp <;> omega) _).other _ (by simp <;> omega) _))
    have hO := Hd.mk (Ty.O_fr hO.out eF (fun k hk hl h => by have q_ := hk; have hg_ := hg.out; (try simp only [rng] at hk); (try simp only at hk); (try simp only at h); omega))
    clear hW eF
    have z6 := Hd.mk hz_; clear hz_
    exact ⟨⟨y - 1, j.n, j.s, j.list, j.names⟩, [Value.int IntKind.i64 (y - 1), Value.int IntKind.i64 j.n, Value.string j.s, Value.slice A3 j.list.length c3, Value.slice A4 j.names.length c4], rfl, fun m => by rw [bulk_kn]; have := HBK.out m; omega, (tJ_le (show 4 ≤ 9 by decide)).O _ _ _ _ (Ty.O_mono _ (fun q h => by have h1 := h.1; omega) (O_fld hO.out (y - 1) j.n j.s (O_ssz hO.out))), hC.out, hB.out⟩
  · have fb0_0 : w4.cell? ⟨w.heap.size, 0, none⟩ = some (Value.int IntKind.i64 0) := b0.out.cell 0 rfl
    have fb0_1 : w4.cell? ⟨w.heap.size, 1, none⟩ = some (Value.int IntKind.i64 0) := b0.out.cell 1 rfl
    have fb0_2 : w4.cell? ⟨w.heap.size, 2, none⟩ = some (Value.string ⟨#[]⟩) := b0.out.cell 2 rfl
    have fb0_3 : w4.cell? ⟨w.heap.size, 3, none⟩ = some (Value.slice none 0 0) := b0.out.cell 3 rfl
    have fb0_4 : w4.cell? ⟨w.heap.size, 4, none⟩ = some (Value.slice none 0 0) := b0.out.cell 4 rfl
    have fb0_z := b0.out.frozen
    have fb1_0 : w4.cell? ⟨w2.heap.size, 0, none⟩ = some (Value.int IntKind.i64 j.kind) := b1.out.cell 0 rfl
    have fb1_1 : w4.cell? ⟨w2.heap.size, 1, none⟩ = some (Value.int IntKind.i64 j.n) := b1.out.cell 1 rfl
    have fb1_2 : w4.cell? ⟨w2.heap.size, 2, none⟩ = some (Value.string j.s) := b1.out.cell 2 rfl
    have fb1_3 : w4.cell? ⟨w2.heap.size, 3, none⟩ = some (Value.slice A3 j.list.length c3) := b1.out.cell 3 rfl
    have fb1_4 : w4.cell? ⟨w2.heap.size, 4, none⟩ = some (Value.slice A4 j.names.length c4) := b1.out.cell 4 rfl
    have fb1_z := b1.out.frozen
    go_wp2_with fail
    clear fb0_0 fb0_1 fb0_2 fb0_3 fb0_4 fb0_z fb1_0 fb1_1 fb1_2 fb1_3 fb1_4 fb1_z
    apply calls_gen; intro W5 hW
    have hE0 := Hd.mk (show int.R 3 W5 (fun k => k = w4.heap.size) (.slice (some ⟨w4.heap.size, 0, none⟩) 4 4) [1, 2, -1, 1000000001] by rw [hW]; exact R_ints (W0 := w4) [1, 2, -1, 1000000001] (by decide))
    have hz_ : w4.heap.size + 1 ≤ W5.heap.size := by rw [hW]; simp
    have hE : Below w4.heap.size w4 W5 := by rw [hW]; (repeat (first | with_reducible refine below_alloc ?_ _ | with_reducible refine below_drew ?_)); exact Below.refl _ _
    have hB := Hd.mk (hB.out.trans (Fr.of_below hE _))
    have hC := Hd.mk (hC.out.below hE)
    have b0 := Hd.mk (b0.out.below hE)
    have b1 := Hd.mk (b1.out.below hE)
    have hO := Hd.mk (Ty.O_below hO.out hE)
    clear hW hE
    have z5 := Hd.mk hz_; clear hz_
    have hEg := Hd.mk (show ¬ (fun k => k = w4.heap.size) g by have hg_ := hg.out; have hSz_ := hB.out.size; have z1_ := z1.out; have z2_ := z2.out; have z3_ := z3.out; have z4_ := z4.out; have z5_ := z5.out; (try simp only); omega)
    refine (spec_l1PickInt _ _ _ [1, 2, -1, 1000000001] W0 _ g hE0.out hEg.out rfl (by decide) (by decide) hC.out).mono ?_
    rintro e w6 ⟨y, rfl, hy, hC1, hX⟩
    have hC := Hd.mk hC1; clear hC1
    have hSz0 := hB.out.size
    have hg_ := hg.out
    have z1_ := z1.out; have z2_ := z2.out; have z3_ := z3.out; have z4_ := z4.out; have z5_ := z5.out
    have b0 := Hd.mk (b0.out.fr hX (fun h => by skip; (try simp only at h); omega))
    have b1 := Hd.mk (b1.out.fr hX (fun h => by skip; (try simp only at h); omega))
    have hO := Hd.mk (Ty.O_fr hO.out hX (fun k hk hl h => by have q_ := hk; have hg_ := hg.out; (try simp only [rng] at hk); (try simp only at hk); (try simp only at h); omega))
    have hB := Hd.mk (hB.out.trans hX)
    have hz_ := hX.size
    clear hSz0 hg_ hX
    have z6 := Hd.mk hz_; clear hz_
    clear hE0 hEg
    have fb0_0 : w6.cell? ⟨w.heap.size, 0, none⟩ = some (Value.int IntKind.i64 0) := b0.out.cell 0 rfl
    have fb0_1 : w6.cell? ⟨w.heap.size, 1, none⟩ = some (Value.int IntKind.i64 0) := b0.out.cell 1 rfl
    have fb0_2 : w6.cell? ⟨w.heap.size, 2, none⟩ = some (Value.string ⟨#[]⟩) := b0.out.cell 2 rfl
    have fb0_3 : w6.cell? ⟨w.heap.size, 3, none⟩ = some (Value.slice none 0 0) := b0.out.cell 3 rfl
    have fb0_4 : w6.cell? ⟨w.heap.size, 4, none⟩ = some (Value.slice none 0 0) := b0.out.cell 4 rfl
    have fb0_z := b0.out.frozen
    have fb1_0 : w6.cell? ⟨w2.heap.size, 0, none⟩ = some (Value.int IntKind.i64 j.kind) := b1.out.cell 0 rfl
    have fb1_1 : w6.cell? ⟨w2.heap.size, 1, none⟩ = some (Value.int IntKind.i64 j.n) := b1.out.cell 1 rfl
    have fb1_2 : w6.cell? ⟨w2.heap.size, 2, none⟩ = some (Value.string j.s) := b1.out.cell 2 rfl
    have fb1_3 : w6.cell? ⟨w2.heap.size, 3, none⟩ = some (Value.slice A3 j.list.length c3) := b1.out.cell 3 rfl
    have fb1_4 : w6.cell? ⟨w2.heap.size, 4, none⟩ = some (Value.slice A4 j.names.length c4) := b1.out.cell 4 rfl
    have fb1_z := b1.out.frozen
    go_wp2_with fail
    refine bodyPost_retW (v := .agg #[Value.int IntKind.i64 j.kind, Value.int IntKind.i64 y, Value.string j.s, Value.slice A3 j.list.length c3, Value.slice A4 j.names.length c4]) (by simp [results, Try.results72, go_sem, fb0_0, fb0_1, fb0_2, fb0_3, fb0_4, fb0_z, fb1_0, fb1_1, fb1_2, fb1_3, fb1_4, fb1_z]) rfl ?_
    intro W hW
    clear fb0_0 fb0_1 fb0_2 fb0_3 fb0_4 fb0_z fb1_0 fb1_1 fb1_2 fb1_3 fb1_4 fb1_z
    have z1_ := z1.out; have z2_ := z2.out; have z3_ := z3.out; have z4_ := z4.out; have z5_ := z5.out; have z6_ := z6.out
    have hSz_ := hB.out.size
    have hg_ := hg.out
    have hz_ : w6.heap.size ≤ W.heap.size := by rw [hW]; simp
    have eF : Fr w6 W (fun k => k = w2.heap.size ∨ k = w.heap.size ∨ w6.heap.size ≤ k) := by rw [hW]; (repeat (first | with_reducible refine Fr.setCell ?_ _ (fun _ => by simp <;> omega) _ | with_reducible refine Fr.alloc ?_ _ | with_reducible refine Fr.drew ?_)); exact Fr.refl _ _
    have z1_ := z1.out; have z2_ := z2.out; have z3_ := z3.out; have z4_ := z4.out; have z5_ := z5.out; have z6_ := z6.out
    have hC := Hd.mk (hC.out.fr eF (fun h => by have hg_ := hg.out; have hlt_ := hC.out.lt; (try simp only [rng] at h); (try simp only at h); omega) (fun k h => by have hg_ := hg.out; have hge_ := hC.out.ge; (try simp only [rng] at h); (try simp only at h); omega))
    have hB := Hd.mk (hB.out.then_ eF (fun k h hl => by (try simp only [rng] at h); (try simp only at h); omega))
    have b0 := Hd.mk (show Blk W (w.heap.size) #[Value.int IntKind.i64 j.kind, Value.int IntKind.i64 y, Value.string j.s, Value.slice A3 j.list.length c3, Value.slice A4 j.names.length c4] 27 by rw [hW]; exact ((((((b0.out.other _ (by simp <;> omega) _).set 0 (Value.int IntKind.i64 j.kind)).set 1 (Value.int IntKind.i64 y)).set 2 (Value.string j.s)).set 3 (Value.slice A3 j.list.length c3)).set 4 (Value.slice A4 j.names.length c4)))
    have b1 := Hd.mk (show Blk W (w2.heap.size) #[Value.int IntKind.i64 j.kind, Value.int IntKind.i64 y, Value.string j.s, Value.slice A3 j.list.length c3, Value.slice A4 j.names.length c4] 27 by rw [hW]; exact ((((((b1.out.set 1 (Value.int IntKind.i64 y)).other _ (by simp <;> omega) _).other _ (by simp <;> omega) _).other _ (by simp <;> omega) _).other _ (by simp <;> omega) _).other _ (by simp <;> omega) _))
    have hO := Hd.mk (Ty.O_fr hO.out eF (fun k hk hl h => by have q_ := hk; have hg_ := hg.out; (try simp only [rng] at hk); (try simp only at hk); (try simp only at h); omega))
    clear hW eF
    have z7 := Hd.mk hz_; clear hz_
    exact ⟨⟨j.kind, y, j.s, j.list, j.names⟩, [Value.int IntKind.i64 j.kind, Value.int IntKind.i64 y, Value.string j.s, Value.slice A3 j.list.length c3, Value.slice A4 j.names.length c4], rfl, fun m => by rw [bulk_kn]; have := HBK.out m; omega, (tJ_le (show 4 ≤ 9 by decide)).O _ _ _ _ (Ty.O_mono _ (fun q h => by have h1 := h.1; omega) (O_fld hO.out j.kind y j.s (O_ssz hO.out))), hC.out, hB.out⟩
  · have fb0_0 : w4.cell? ⟨w.heap.size, 0, none⟩ = some (Value.int IntKind.i64 0) := b0.out.cell 0 rfl
    have fb0_1 : w4.cell? ⟨w.heap.size, 1, none⟩ = some (Value.int IntKind.i64 0) := b0.out.cell 1 rfl
    have fb0_2 : w4.cell? ⟨w.heap.size, 2, none⟩ = some (Value.string ⟨#[]⟩) := b0.out.cell 2 rfl
    have fb0_3 : w4.cell? ⟨w.heap.size, 3, none⟩ = some (Value.slice none 0 0) := b0.out.cell 3 rfl
    have fb0_4 : w4.cell? ⟨w.heap.size, 4, none⟩ = some (Value.slice none 0 0) := b0.out.cell 4 rfl
    have fb0_z := b0.out.frozen
    have fb1_0 : w4.cell? ⟨w2.heap.size, 0, none⟩ = some (Value.int IntKind.i64 j.kind) := b1.out.cell 0 rfl
    have fb1_1 : w4.cell? ⟨w2.heap.size, 1, none⟩ = some (Value.int IntKind.i64 j.n) := b1.out.cell 1 rfl
    have fb1_2 : w4.cell? ⟨w2.heap.size, 2, none⟩ = some (Value.string j.s) := b1.out.cell 2 rfl
    have fb1_3 : w4.cell? ⟨w2.heap.size, 3, none⟩ = some (Value.slice A3 j.list.length c3) := b1.out.cell 3 rfl
    have fb1_4 : w4.cell? ⟨w2.heap.size, 4, none⟩ = some (Value.slice A4 j.names.length c4) := b1.out.cell 4 rfl
    have fb1_z := b1.out.frozen
    go_wp2_with fail
    clear fb0_0 fb0_1 fb0_2 fb0_3 fb0_4 fb0_z fb1_0 fb1_1 fb1_2 fb1_3 fb1_4 fb1_z
    apply calls_gen; intro W5 hW
    have hE0 := Hd.mk (show str.R 9 W5 (fun k => k = w4.heap.size) (.slice (some ⟨w4.heap.size, 0, none⟩) 3 3) [⟨#[120]⟩, ⟨#[1]⟩, ⟨#[127]⟩] by rw [hW]; exact R_strs (W0 := w4) [⟨#[120]⟩, ⟨#[1]⟩, ⟨#[127]⟩] (by decide) (by decide))
    have hz_ : w4.heap.size + 1 ≤ W5.heap.size := by rw [hW]; simp
    have hE : Below w4.heap.size w4 W5 := by rw [hW]; (repeat (first | with_reducible refine below_alloc ?_ _ | with_reducible refine below_drew ?_)); exact Below.refl _ _
    have hB := Hd.mk (hB.out.trans (Fr.of_below hE _))
    have hC := Hd.mk (hC.out.below hE)
    have b0 := Hd.mk (b0.out.below hE)
    have b1 := Hd.mk (b1.out.below hE)
    have hO := Hd.mk (Ty.O_below hO.out hE)
    clear hW hE
    have z5 := Hd.mk hz_; clear hz_
    have hEg := Hd.mk (show ¬ (fun k => k = w4.heap.size) g by have hg_ := hg.out; have hSz_ := hB.out.size; have z1_ := z1.out; have z2_ := z2.out; have z3_ := z3.out; have z4_ := z4.out; have z5_ := z5.out; (try simp only); omega)
    refine (spec_l1Pick _ _ _ [⟨#[120]⟩, ⟨#[1]⟩, ⟨#[127]⟩] W0 _ g hE0.out hEg.out rfl (by decide) (by decide) hC.out).mono ?_
    rintro e w6 ⟨y, rfl, hy, hC1, hX⟩
    have hC := Hd.mk hC1; clear hC1
    have hSz0 := hB.out.size
    have hg_ := hg.out
    have z1_ := z1.out; have z2_ := z2.out; have z3_ := z3.out; have z4_ := z4.out; have z5_ := z5.out
    have b0 := Hd.mk (b0.out.fr hX (fun h => by skip; (try simp only at h); omega))
    have b1 := Hd.mk (b1.out.fr hX (fun h => by skip; (try simp only at h); omega))
    have hO := Hd.mk (Ty.O_fr hO.out hX (fun k hk hl h => by have q_ := hk; have hg_ := hg.out; (try simp only [rng] at hk); (try simp only at hk); (try simp only at h); omega))
    have hB := Hd.mk (hB.out.trans hX)
    have hz_ := hX.size
    clear hSz0 hg_ hX
    have z6 := Hd.mk hz_; clear hz_
    clear hE0 hEg
    have hy6 : y.size ≤ 60 := (show ∀ s ∈ ([⟨#[120]⟩, ⟨#[1]⟩, ⟨#[127]⟩] : List ByteArray), s.size ≤ 60 by decide) y hy
    clear hy
    have fb0_0 : w6.cell? ⟨w.heap.size, 0, none⟩ = some (Value.int IntKind.i64 0) := b0.out.cell 0 rfl
    have fb0_1 : w6.cell? ⟨w.heap.size, 1, none⟩ = some (Value.int IntKind.i64 0) := b0.out.cell 1 rfl
    have fb0_2 : w6.cell? ⟨w.heap.size, 2, none⟩ = some (Value.string ⟨#[]⟩) := b0.out.cell 2 rfl
    have fb0_3 : w6.cell? ⟨w.heap.size, 3, none⟩ = some (Value.slice none 0 0) := b0.out.cell 3 rfl
    have fb0_4 : w6.cell? ⟨w.heap.size, 4, none⟩ = some (Value.slice none 0 0) := b0.out.cell 4 rfl
    have fb0_z := b0.out.frozen
    have fb1_0 : w6.cell? ⟨w2.heap.size, 0, none⟩ = some (Value.int IntKind.i64 j.kind) := b1.out.cell 0 rfl
    have fb1_1 : w6.cell? ⟨w2.heap.size, 1, none⟩ = some (Value.int IntKind.i64 j.n) := b1.out.cell 1 rfl
    have fb1_2 : w6.cell? ⟨w2.heap.size, 2, none⟩ = some (Value.string j.s) := b1.out.cell 2 rfl
    have fb1_3 : w6.cell? ⟨w2.heap.size, 3, none⟩ = some (Value.slice A3 j.list.length c3) := b1.out.cell 3 rfl
    have fb1_4 : w6.cell? ⟨w2.heap.size, 4, none⟩ = some (Value.slice A4 j.names.length c4) := b1.out.cell 4 rfl
    have fb1_z := b1.out.frozen
    go_wp2_with fail
    refine bodyPost_retW (v := .agg #[Value.int IntKind.i64 j.kind, Value.int IntKind.i64 j.n, Value.string y, Value.slice A3 j.list.length c3, Value.slice A4 j.names.length c4]) (by simp [results, Try.results72, go_sem, fb0_0, fb0_1, fb0_2, fb0_3, fb0_4, fb0_z, fb1_0, fb1_1, fb1_2, fb1_3, fb1_4, fb1_z]) rfl ?_
    intro W hW
    clear fb0_0 fb0_1 fb0_2 fb0_3 fb0_4 fb0_z fb1_0 fb1_1 fb1_2 fb1_3 fb1_4 fb1_z
    have z1_ := z1.out; have z2_ := z2.out; have z3_ := z3.out; have z4_ := z4.out; have z5_ := z5.out; have z6_ := z6.out
    have hSz_ := hB.out.size
    have hg_ := hg.out
    have hz_ : w6.heap.size ≤ W.heap.size := by rw [hW]; simp
    have eF : Fr w6 W (fun k => k = w2.heap.size ∨ k = w.heap.size ∨ w6.heap.size ≤ k) := by rw [hW]; (repeat (first | with_reducible refine Fr.setCell ?_ _ (fun _ => by simp <;> omega) _ | with_reducible refine Fr.alloc ?_ _ | with_reducible refine Fr.drew ?_)); exact Fr.refl _ _
    have z1_ := z1.out; have z2_ := z2.out; have z3_ := z3.out; have z4_ := z4.out; have z5_ := z5.out; have z6_ := z6.out
    have hC := Hd.mk (hC.out.fr eF (fun h => by have hg_ := hg.out; have hlt_ := hC.out.lt; (try simp only [rng] at h); (try simp only at h); omega) (fun k h => by have hg_ := hg.out; have hge_ := hC.out.ge; (try simp only [rng] at h); (try simp only at h); omega))
    have hB := Hd.mk (hB.out.then_ eF (fun k h hl => by (try simp only [rng] at h); (try simp only at h); omega))
    have b0 := Hd.mk (show Blk W (w.heap.size) #[Value.int IntKind.i64 j.kind, Value.int IntKind.i64 j.n, Value.string y, Value.slice A3 j.list.length c3, Value.slice A4 j.names.length c4] 27 by rw [hW]; exact ((((((b0.out.other _ (by simp <;> omega) _).set 0 (Value.int IntKind.i64 j.kind)).set 1 (Value.int IntKind.i64 j.n)).set 2 (Value.string y)).set 3 (Value.slice A3 j.list.length c3)).set 4 (Value.slice A4 j.names.length c4)))
    have b1 := Hd.mk (show Blk W (w2.heap.size) #[Value.int IntKind.i64 j.kind, Value.int IntKind.i64 j.n, Value.string y, Value.slice A3 j.list.length c3, Value.slice A4 j.names.length c4] 27 by rw [hW]; exact ((((((b1.out.set 2 (Value.string y)).other _ (by simp <;> omega) _).other _ (by simp <;> omega) _).other _ (by simp <;> omega) _).other _ (by simp <;> omega) _).other _ (by simp <;> omega) _))
    have hO := Hd.mk (Ty.O_fr hO.out eF (fun k hk hl h => by have q_ := hk; have hg_ := hg.out; (try simp only [rng] at hk); (try simp only at hk); (try simp only at h); omega))
    clear hW eF
    have z7 := Hd.mk hz_; clear hz_
    exact ⟨⟨j.kind, j.n, y, j.list, j.names⟩, [Value.int IntKind.i64 j.kind, Value.int IntKind.i64 j.n, Value.string y, Value.slice A3 j.list.length c3, Value.slice A4 j.names.length c4], rfl, fun m => by have h1 := bulk_s m j.kind j.n y j; have := HBK.out m; omega, (tJ_le (show 4 ≤ 9 by decide)).O _ _ _ _ (Ty.O_mono _ (fun q h => by have h1 := h.1; omega) (O_fld hO.out j.kind j.n y (by omega))), hC.out, hB.out⟩
  · obtain ⟨v3, v4, T3, T4, e_, hs_, hr3, hr4, t3, t4, t34⟩ := tJ_O.1 hO.out
    simp only [List.cons.injEq, and_true, true_and] at e_
    obtain ⟨rfl, rfl⟩ := e_
    have hL3 := Hd.mk (show (tJ 3).R 27 w4 T3 _ j.list from hr3)
    have hN4 := Hd.mk hr4
    have hT3 := Hd.mk t3
    have hT34 := Hd.mk t34
    have hs_ := Hd.mk hs_
    have hT4 := Hd.mk (show ∀ q, T4 q → W1.heap.size ≤ q ∧ q < w2.heap.size from t4)
    clear hr3 hr4 t3 t4 t34
    have hE0 := Hd.mk (R_strs (W0 := w4) [⟨#[97]⟩] (by decide) (by decide))
    simp only [List.map_cons, List.map_nil, List.length_cons, List.length_nil] at hE0
    have z1_ := z1.out; have z2_ := z2.out; have z3_ := z3.out; have z4_ := z4.out
    have hWl_ := hWl.out
    have hPW_ := hPW.out
    have fb0_0 : w4.cell? ⟨w.heap.size, 0, none⟩ = some (Value.int IntKind.i64 0) := b0.out.cell 0 rfl
    have fb0_1 : w4.cell? ⟨w.heap.size, 1, none⟩ = some (Value.int IntKind.i64 0) := b0.out.cell 1 rfl
    have fb0_2 : w4.cell? ⟨w.heap.size, 2, none⟩ = some (Value.string ⟨#[]⟩) := b0.out.cell 2 rfl
    have fb0_3 : w4.cell? ⟨w.heap.size, 3, none⟩ = some (Value.slice none 0 0) := b0.out.cell 3 rfl
    have fb0_4 : w4.cell? ⟨w.heap.size, 4, none⟩ = some (Value.slice none 0 0) := b0.out.cell 4 rfl
    have fb0_z := b0.out.frozen
    have fb1_0 : w4.cell? ⟨w2.heap.size, 0, none⟩ = some (Value.int IntKind.i64 j.kind) := b1.out.cell 0 rfl
    have fb1_1 : w4.cell? ⟨w2.heap.size, 1, none⟩ = some (Value.int IntKind.i64 j.n) := b1.out.cell 1 rfl
    have fb1_2 : w4.cell? ⟨w2.heap.size, 2, none⟩ = some (Value.string j.s) := b1.out.cell 2 rfl
    have fb1_3 : w4.cell? ⟨w2.heap.size, 3, none⟩ = some (Value.slice A3 j.list.length c3) := b1.out.cell 3 rfl
    have fb1_4 : w4.cell? ⟨w2.heap.size, 4, none⟩ = some (Value.slice A4 j.names.length c4) := b1.out.cell 4 rfl
    have fb1_z := b1.out.frozen
    go_wp2_with (at_builtin; refine append_str rfl _ _ 25 9 (.string ByteArray.empty) 16 rfl Try.underlying25 info_str rfl (by decide) (S := fun q => T4 q ∧ q < w4.heap.size) (S' := (fun q => T4 q ∨ w4.heap.size ≤ q)) (v := .slice A4 j.names.length c4) (xs := j.names) (ys := [⟨#[97]⟩]) (A := some ⟨w4.heap.size, 0, none⟩) (c := 1) rfl rfl (R_below (R_bound hN4.out) (below_alloc (Below.refl _ _) _)) (R_Cv hE0.out) (fun q h => .inl h.1) (fun q h => .inr (by simp at h; omega)) (by simp; omega) (fun v2 w5 hv2 hX0 => ?_); obtain ⟨l2, hl2⟩ : ∃ z, z = j.names ++ [⟨#[97]⟩] := ⟨_, rfl⟩; rw [← hl2] at hv2; have HL2 := Hd.mk hl2; clear hl2; obtain ⟨A5, c5, hv2e, hc5, _⟩ := R_C hv2; subst hv2e; have hX := (Fr.of_below (below_alloc (Below.refl w4.heap.size w4) _) _).trans hX0; have Yb0 := b0.out.fr hX (fun h => by have q_ := hT4.out _ h.1; (try simp only at q_); omega); have yb0_0 := Yb0.cell 0 rfl; have yb0_1 := Yb0.cell 1 rfl; have yb0_2 := Yb0.cell 2 rfl; have yb0_3 := Yb0.cell 3 rfl; have yb0_4 := Yb0.cell 4 rfl; have yb0_z := Yb0.frozen; have Yb1 := b1.out.fr hX (fun h => by have q_ := hT4.out _ h.1; (try simp only at q_); omega); have yb1_0 := Yb1.cell 0 rfl; have yb1_1 := Yb1.cell 1 rfl; have yb1_2 := Yb1.cell 2 rfl; have yb1_3 := Yb1.cell 3 rfl; have yb1_4 := Yb1.cell 4 rfl; have yb1_z := Yb1.frozen)
    clear fb0_0 fb0_1 fb0_2 fb0_3 fb0_4 fb0_z fb1_0 fb1_1 fb1_2 fb1_3 fb1_4 fb1_z
    refine bodyPost_retW (v := .agg #[Value.int IntKind.i64 j.kind, Value.int IntKind.i64 j.n, Value.string j.s, Value.slice A3 j.list.length c3, Value.slice A5 l2.length c5]) (by simp [results, Try.results72, go_sem, yb0_0, yb0_1, yb0_2, yb0_3, yb0_4, yb0_z, yb1_0, yb1_1, yb1_2, yb1_3, yb1_4, yb1_z]) rfl ?_
    intro W hW
    clear Yb0 yb0_0 yb0_1 yb0_2 yb0_3 yb0_4 yb0_z Yb1 yb1_0 yb1_1 yb1_2 yb1_3 yb1_4 yb1_z
    clear hX0 hE0 hN4 hO
    have hN := Hd.mk hv2; clear hv2
    have hL3 := Hd.mk (R_fr hL3.out hX (fun k hk _ h => hT34.out k hk h.1))
    have z1_ := z1.out; have z2_ := z2.out; have z3_ := z3.out; have z4_ := z4.out
    have hSz := hB.out.size
    have b0 := Hd.mk (b0.out.fr hX (fun h => by have hlt_ := b0.out.lt; have q_ := hT4.out _ h.1; (try simp only at q_); (try simp only [rng] at h); (try simp only at h); omega))
    have b1 := Hd.mk (b1.out.fr hX (fun h => by have hlt_ := b1.out.lt; have q_ := hT4.out _ h.1; (try simp only at q_); (try simp only [rng] at h); (try simp only at h); omega))
    have hC := Hd.mk (hC.out.fr hX (fun h => by have hg_ := hg.out; have hlt_ := hC.out.lt; have q_ := hT4.out _ h.1; (try simp only [rng] at h); (try simp only at h); omega) (fun k h => by have hg_ := hg.out; have hge_ := hC.out.ge; have q_ := hT4.out _ h.1; (try simp only [rng] at h); (try simp only at h); omega))
    have hB := Hd.mk (hB.out.then_ hX (fun k h hl => by have q_ := hT4.out _ h.1; (try simp only [rng] at h); (try simp only at h); omega))
    have hz_ := hX.size
    clear hX
    have z5 := Hd.mk hz_; clear hz_
    have z1_ := z1.out; have z2_ := z2.out; have z3_ := z3.out; have z4_ := z4.out; have z5_ := z5.out
    have hSz_ := hB.out.size
    have hg_ := hg.out
    have hN := Hd.mk (R_bound hN.out)
    have hz_ : w5.heap.size ≤ W.heap.size := by rw [hW]; simp
    have eF : Fr w5 W (fun k => k = w2.heap.size ∨ k = w.heap.size ∨ w5.heap.size ≤ k) := by rw [hW]; (repeat (first | with_reducible refine Fr.setCell ?_ _ (fun _ => by simp <;> omega) _ | with_reducible refine Fr.alloc ?_ _ | with_reducible refine Fr.drew ?_)); exact Fr.refl _ _
    have z1_ := z1.out; have z2_ := z2.out; have z3_ := z3.out; have z4_ := z4.out; have z5_ := z5.out
    have hC := Hd.mk (hC.out.fr eF (fun h => by have hg_ := hg.out; have hlt_ := hC.out.lt; (try simp only [rng] at h); (try simp only at h); omega) (fun k h => by have hg_ := hg.out; have hge_ := hC.out.ge; (try simp only [rng] at h); (try simp only at h); omega))
    have hB := Hd.mk (hB.out.then_ eF (fun k h hl => by (try simp only [rng] at h); (try simp only at h); omega))
    have b0 := Hd.mk (show Blk W (w.heap.size) #[Value.int IntKind.i64 j.kind, Value.int IntKind.i64 j.n, Value.string j.s, Value.slice A3 j.list.length c3, Value.slice A5 l2.length c5] 27 by rw [hW]; exact ((((((b0.out.other _ (by simp <;> omega) _).set 0 (Value.int IntKind.i64 j.kind)).set 1 (Value.int IntKind.i64 j.n)).set 2 (Value.string j.s)).set 3 (Value.slice A3 j.list.length c3)).set 4 (Value.slice A5 l2.length c5)))
    have b1 := Hd.mk (show Blk W (w2.heap.size) #[Value.int IntKind.i64 j.kind, Value.int IntKind.i64 j.n, Value.string j.s, Value.slice A3 j.list.length c3, Value.slice A5 l2.length c5] 27 by rw [hW]; exact ((((((b1.out.set 4 (Value.slice A5 l2.length c5)).other _ (by simp <;> omega) _).other _ (by simp <;> omega) _).other _ (by simp <;> omega) _).other _ (by simp <;> omega) _).other _ (by simp <;> omega) _))
    have hL3 := Hd.mk (R_fr hL3.out eF (fun k hk hl h => by have q_ := hT3.out k hk; (try simp only [rng] at q_); (try simp only [rng] at hk); (try simp only at hk); (try simp only at h); omega))
    have hN := Hd.mk (R_fr hN.out eF (fun k hk hl h => by have q_ := hk.2; (rcases hk.1 with hk1 | hk1); have q2_ := hT4.out k hk1; omega; (try simp only [rng] at hk); (try simp only at hk); (try simp only at h); omega))
    clear hW eF
    have z6 := Hd.mk hz_; clear hz_
    have hs2 := hs_.out
    refine ⟨⟨j.kind, j.n, j.s, j.list, l2⟩, [Value.int IntKind.i64 j.kind, Value.int IntKind.i64 j.n, Value.string j.s, Value.slice A3 j.list.length c3, Value.slice A5 l2.length c5], rfl, fun m => ?_, (tJ_le (show 4 ≤ 9 by decide)).O _ _ _ _ (tJ_O.2 ⟨_, _, T3, fun q => (fun q => T4 q ∨ w4.heap.size ≤ q) q ∧ q < w5.heap.size, rfl, hs2, hL3.out, hN.out, fun q h => ?_, fun q h => ?_, fun q h h2 => ?_⟩), hC.out, hB.out⟩
    · rw [HL2.out]; have h1 := bulk_n m ⟨#[97]⟩ j; have h2 := HBK.out m; have h3 : ByteArray.size ⟨#[97]⟩ = 1 := rfl; omega
    · have h1 := (hT3.out q h).1; omega
    · rcases h.1 with h1 | h1
      · have h2 := hT4.out q h1; omega
      · omega
    · rcases h2.1 with h1 | h1
      · exact hT34.out q h h1
      · have h3 := (hT3.out q h).2; omega
  · have fb0_0 : w4.cell? ⟨w.heap.size, 0, none⟩ = some (Value.int IntKind.i64 0) := b0.out.cell 0 rfl
    have fb0_1 : w4.cell? ⟨w.heap.size, 1, none⟩ = some (Value.int IntKind.i64 0) := b0.out.cell 1 rfl
    have fb0_2 : w4.cell? ⟨w.heap.size, 2, none⟩ = some (Value.string ⟨#[]⟩) := b0.out.cell 2 rfl
    have fb0_3 : w4.cell? ⟨w.heap.size, 3, none⟩ = some (Value.slice none 0 0) := b0.out.cell 3 rfl
    have fb0_4 : w4.cell? ⟨w.heap.size, 4, none⟩ = some (Value.slice none 0 0) := b0.out.cell 4 rfl
    have fb0_z := b0.out.frozen
    have fb1_0 : w4.cell? ⟨w2.heap.size, 0, none⟩ = some (Value.int IntKind.i64 j.kind) := b1.out.cell 0 rfl
    have fb1_1 : w4.cell? ⟨w2.heap.size, 1, none⟩ = some (Value.int IntKind.i64 j.n) := b1.out.cell 1 rfl
    have fb1_2 : w4.cell? ⟨w2.heap.size, 2, none⟩ = some (Value.string j.s) := b1.out.cell 2 rfl
    have fb1_3 : w4.cell? ⟨w2.heap.size, 3, none⟩ = some (Value.slice A3 j.list.length c3) := b1.out.cell 3 rfl
    have fb1_4 : w4.cell? ⟨w2.heap.size, 4, none⟩ = some (Value.slice A4 j.names.length c4) := b1.out.cell 4 rfl
    have fb1_z := b1.out.frozen
    go_wp2_with fail
    clear fb0_0 fb0_1 fb0_2 fb0_3 fb0_4 fb0_z fb1_0 fb1_1 fb1_2 fb1_3 fb1_4 fb1_z
    have z1_ := z1.out; have z2_ := z2.out; have z3_ := z3.out; have z4_ := z4.out
    have hPW_ := hPW.out
    have hWl_ := hWl.out
    have hO2 := Hd.mk (show (tJ 4).O w4 (fun q => w.heap.size ≤ q ∧ q ≠ w.heap.size ∧ q ≠ w2.heap.size) j _ from Ty.O_mono _ (fun q h => by have h1 := h.1; have h2 := h.2; exact ⟨by omega, by omega, by omega⟩) hO.out)
    clear z1_ z2_ z3_ z4_
    go_loopw [4] (fun i wr => ∃ (k : Nat) (j : J) (A3 A4 : Option Addr) (c3 c4 : Nat), i = .int .i64 k ∧ k ≤ 5 ∧ Hd (∀ m, bulkJ m j ≤ 26350 + k) ∧ Hd (Blk wr w.heap.size #[Value.int IntKind.i64 0, Value.int IntKind.i64 0, Value.string ⟨#[]⟩, Value.slice none 0 0, Value.slice none 0 0] 27) ∧ Hd (Blk wr (w2.heap.size) #[Value.int IntKind.i64 j.kind, Value.int IntKind.i64 j.n, Value.string j.s, Value.slice A3 j.list.length c3, Value.slice A4 j.names.length c4] 27) ∧ Hd ((tJ (k + 4)).O wr (fun q => w.heap.size ≤ q ∧ q ≠ w.heap.size ∧ q ≠ w2.heap.size) j [Value.int IntKind.i64 j.kind, Value.int IntKind.i64 j.n, Value.string j.s, Value.slice A3 j.list.length c3, Value.slice A4 j.names.length c4]) ∧ Hd (Cur W0 wr g) ∧ Hd (Fr w wr (fun k => k = g)) ∧ Hd (w4.heap.size ≤ wr.heap.size)) (fun i _ => 5 - (intOf i).toNat)
    case atStart => exact ⟨0, j, A3, A4, c3, c4, rfl, Nat.zero_le _, HBK, b0, b1, hO2, hC, hB, ⟨Nat.le_refl _⟩⟩
    case round =>
      clear b0 b1 hB hC hO hO2 HBK hn4
      obtain ⟨k, j, A3, A4, c3, c4, rfl, hk5, HBK, b0, b1, hO, hC, hB, hzw⟩ := hrel
      have hk0 : (0 : Int) ≤ (k : Int) := by omega
      by_cases hlt : (k : Int) < 5
      · have z1_ := z1.out; have z2_ := z2.out; have z3_ := z3.out; have z4_ := z4.out; have hzw_ := hzw.out
        have hne_ : ¬ w2.heap.size = wr.heap.size := by omega
        have hlt_ : w2.heap.size < wr.heap.size := by omega
        have hne2_ : ¬ wr.heap.size = w2.heap.size := by omega
        have key : ∀ W, W = (((((wr.setCell ⟨w2.heap.size, 0, none⟩ (Value.int IntKind.i64 4)).setCell ⟨w2.heap.size, 1, none⟩ (Value.int IntKind.i64 0)).setCell ⟨w2.heap.size, 2, none⟩ (Value.string ⟨#[]⟩)).setCell ⟨w2.heap.size, 3, none⟩ (Value.slice (some ⟨wr.heap.size, 0, none⟩) 1 1)).setCell ⟨w2.heap.size, 4, none⟩ (Value.slice none 0 0)).alloc (.cells #[Value.int IntKind.i64 j.kind, Value.int IntKind.i64 j.n, Value.string j.s, Value.slice A3 j.list.length c3, Value.slice A4 j.names.length c4] 27) → ∃ (k1 : Nat) (j : J) (A3 A4 : Option Addr) (c3 c4 : Nat), Value.int IntKind.i64 ((k : Int) + 1) = .int .i64 k1 ∧ k1 ≤ 5 ∧ Hd (∀ m, bulkJ m j ≤ 26350 + k1) ∧ Hd (Blk W w.heap.size #[Value.int IntKind.i64 0, Value.int IntKind.i64 0, Value.string ⟨#[]⟩, Value.slice none 0 0, Value.slice none 0 0] 27) ∧ Hd (Blk W (w2.heap.size) #[Value.int IntKind.i64 j.kind, Value.int IntKind.i64 j.n, Value.string j.s, Value.slice A3 j.list.length c3, Value.slice A4 j.names.length c4] 27) ∧ Hd ((tJ (k1 + 4)).O W (fun q => w.heap.size ≤ q ∧ q ≠ w.heap.size ∧ q ≠ w2.heap.size) j [Value.int IntKind.i64 j.kind, Value.int IntKind.i64 j.n, Value.string j.s, Value.slice A3 j.list.length c3, Value.slice A4 j.names.length c4]) ∧ Hd (Cur W0 W g) ∧ Hd (Fr w W (fun k => k = g)) ∧ Hd (w4.heap.size ≤ W.heap.size) := by
          intro W hW
          obtain ⟨W2, hW2⟩ : ∃ W2, W2 = (((((wr.setCell ⟨w2.heap.size, 0, none⟩ (Value.int IntKind.i64 4)).setCell ⟨w2.heap.size, 1, none⟩ (Value.int IntKind.i64 0)).setCell ⟨w2.heap.size, 2, none⟩ (Value.string ⟨#[]⟩)).setCell ⟨w2.heap.size, 3, none⟩ (Value.slice (some ⟨wr.heap.size, 0, none⟩) 1 1)).setCell ⟨w2.heap.size, 4, none⟩ (Value.slice none 0 0)) := ⟨_, rfl⟩
          have eF2 : Fr wr W2 (fun q => q = w2.heap.size) := by rw [hW2]; (repeat (first | with_reducible refine Fr.setCell (S := fun q => q = w2.heap.size) ?_ _ (fun _ => rfl) _)); exact Fr.refl _ _
          have hO5 := Ty.O_fr hO.out eF2 (fun q hq _ h => by have h : q = w2.heap.size := h; exact hq.2.2 h)
          have hO6 := O_one5 hO5 rfl (show W2.heap.size = wr.heap.size by rw [hW2]; simp)
          rw [hW2] at hO6
          replace hO6 := Hd.mk (show (tJ (k + 5)).O W _ _ _ by rw [hW]; exact hO6)
          clear hO5 eF2 hW2 W2
          have hz_ : wr.heap.size + 1 ≤ W.heap.size := by rw [hW]; simp
          have eF : Fr wr W (fun k => k = w2.heap.size ∨ wr.heap.size ≤ k) := by rw [hW]; (repeat (first | with_reducible refine Fr.setCell ?_ _ (fun _ => by simp <;> omega) _ | with_reducible refine Fr.alloc ?_ _ | with_reducible refine Fr.drew ?_)); exact Fr.refl _ _
          have z1_ := z1.out; have z2_ := z2.out; have z3_ := z3.out; have z4_ := z4.out; have hzw_ := hzw.out
          have hC := Hd.mk (hC.out.fr eF (fun h => by have hg_ := hg.out; have hlt_ := hC.out.lt; (try simp only [rng] at h); (try simp only at h); omega) (fun k h => by have hg_ := hg.out; have hge_ := hC.out.ge; (try simp only [rng] at h); (try simp only at h); omega))
          have hB := Hd.mk (hB.out.then_ eF (fun k h hl => by (try simp only [rng] at h); (try simp only at h); omega))
          have b0 := Hd.mk (b0.out.fr eF (fun h => by have hlt_ := b0.out.lt; (try simp only at h); omega))
          have b1 := Hd.mk (show Blk W (w2.heap.size) #[Value.int IntKind.i64 4, Value.int IntKind.i64 0, Value.string ⟨#[]⟩, Value.slice (some ⟨wr.heap.size, 0, none⟩) 1 1, Value.slice none 0 0] 27 by rw [hW]; exact ((((((b1.out.set 0 (Value.int IntKind.i64 4)).set 1 (Value.int IntKind.i64 0)).set 2 (Value.string ⟨#[]⟩)).set 3 (Value.slice (some ⟨wr.heap.size, 0, none⟩) 1 1)).set 4 (Value.slice none 0 0)).alloc _))
          clear hW eF
          have z5 := Hd.mk hz_; clear hz_
          exact ⟨k + 1, ⟨4, 0, ⟨#[]⟩, [j], []⟩, _, _, _, _, by go_num, by omega, ⟨fun m => bulk_one1 HBK.out m⟩, b0, b1, ⟨Ty.O_mono _ (fun q h => by rcases h with h | h; exact h.1; exact ⟨by omega, by omega, by omega⟩) hO6.out⟩, hC, hB, ⟨by have z1_ := z1.out; have z2_ := z2.out; have z3_ := z3.out; have z4_ := z4.out; have hzw_ := hzw.out; have z5_ := z5.out; omega⟩⟩
        have fb0_0 : wr.cell? ⟨w.heap.size, 0, none⟩ = some (Value.int IntKind.i64 0) := b0.out.cell 0 rfl
        have fb0_1 : wr.cell? ⟨w.heap.size, 1, none⟩ = some (Value.int IntKind.i64 0) := b0.out.cell 1 rfl
        have fb0_2 : wr.cell? ⟨w.heap.size, 2, none⟩ = some (Value.string ⟨#[]⟩) := b0.out.cell 2 rfl
        have fb0_3 : wr.cell? ⟨w.heap.size, 3, none⟩ = some (Value.slice none 0 0) := b0.out.cell 3 rfl
        have fb0_4 : wr.cell? ⟨w.heap.size, 4, none⟩ = some (Value.slice none 0 0) := b0.out.cell 4 rfl
        have fb0_z := b0.out.frozen
        have fb1_0 : wr.cell? ⟨w2.heap.size, 0, none⟩ = some (Value.int IntKind.i64 j.kind) := b1.out.cell 0 rfl
        have fb1_1 : wr.cell? ⟨w2.heap.size, 1, none⟩ = some (Value.int IntKind.i64 j.n) := b1.out.cell 1 rfl
        have fb1_2 : wr.cell? ⟨w2.heap.size, 2, none⟩ = some (Value.string j.s) := b1.out.cell 2 rfl
        have fb1_3 : wr.cell? ⟨w2.heap.size, 3, none⟩ = some (Value.slice A3 j.list.length c3) := b1.out.cell 3 rfl
        have fb1_4 : wr.cell? ⟨w2.heap.size, 4, none⟩ = some (Value.slice A4 j.names.length c4) := b1.out.cell 4 rfl
        have fb1_z := b1.out.frozen
        go_wp2_with fail
        clear fb0_0 fb0_1 fb0_2 fb0_3 fb0_4 fb0_z fb1_0 fb1_1 fb1_2 fb1_3 fb1_4 fb1_z
        go_roundw
        case rel => exact key _ rfl
        case measure => simp [intOf]; omega
      · obtain rfl : k = 5 := by omega
        have fb0_0 : wr.cell? ⟨w.heap.size, 0, none⟩ = some (Value.int IntKind.i64 0) := b0.out.cell 0 rfl
        have fb0_1 : wr.cell? ⟨w.heap.size, 1, none⟩ = some (Value.int IntKind.i64 0) := b0.out.cell 1 rfl
        have fb0_2 : wr.cell? ⟨w.heap.size, 2, none⟩ = some (Value.string ⟨#[]⟩) := b0.out.cell 2 rfl
        have fb0_3 : wr.cell? ⟨w.heap.size, 3, none⟩ = some (Value.slice none 0 0) := b0.out.cell 3 rfl
        have fb0_4 : wr.cell? ⟨w.heap.size, 4, none⟩ = some (Value.slice none 0 0) := b0.out.cell 4 rfl
        have fb0_z := b0.out.frozen
        have fb1_0 : wr.cell? ⟨w2.heap.size, 0, none⟩ = some (Value.int IntKind.i64 j.kind) := b1.out.cell 0 rfl
        have fb1_1 : wr.cell? ⟨w2.heap.size, 1, none⟩ = some (Value.int IntKind.i64 j.n) := b1.out.cell 1 rfl
        have fb1_2 : wr.cell? ⟨w2.heap.size, 2, none⟩ = some (Value.string j.s) := b1.out.cell 2 rfl
        have fb1_3 : wr.cell? ⟨w2.heap.size, 3, none⟩ = some (Value.slice A3 j.list.length c3) := b1.out.cell 3 rfl
        have fb1_4 : wr.cell? ⟨w2.heap.size, 4, none⟩ = some (Value.slice A4 j.names.length c4) := b1.out.cell 4 rfl
        have fb1_z := b1.out.frozen
        go_wp2_with fail
        refine bodyPost_retW (v := .agg #[Value.int IntKind.i64 j.kind, Value.int IntKind.i64 j.n, Value.string j.s, Value.slice A3 j.list.length c3, Value.slice A4 j.names.length c4]) (by simp [results, Try.results72, go_sem, fb0_0, fb0_1, fb0_2, fb0_3, fb0_4, fb0_z, fb1_0, fb1_1, fb1_2, fb1_3, fb1_4, fb1_z]) rfl ?_
        intro W hW
        clear fb0_0 fb0_1 fb0_2 fb0_3 fb0_4 fb0_z fb1_0 fb1_1 fb1_2 fb1_3 fb1_4 fb1_z
        have z1_ := z1.out; have z2_ := z2.out; have z3_ := z3.out; have z4_ := z4.out; have hzw_ := hzw.out
        have hSz_ := hB.out.size
        have hg_ := hg.out
        have hz_ : wr.heap.size ≤ W.heap.size := by rw [hW]; simp
        have eF : Fr wr W (fun k => k = w.heap.size ∨ wr.heap.size ≤ k) := by rw [hW]; (repeat (first | with_reducible refine Fr.setCell ?_ _ (fun _ => by simp <;> omega) _ | with_reducible refine Fr.alloc ?_ _ | with_reducible refine Fr.drew ?_)); exact Fr.refl _ _
        have z1_ := z1.out; have z2_ := z2.out; have z3_ := z3.out; have z4_ := z4.out; have hzw_ := hzw.out
        have hC := Hd.mk (hC.out.fr eF (fun h => by have hg_ := hg.out; have hlt_ := hC.out.lt; (try simp only [rng] at h); (try simp only at h); omega) (fun k h => by have hg_ := hg.out; have hge_ := hC.out.ge; (try simp only [rng] at h); (try simp only at h); omega))
        have hB := Hd.mk (hB.out.then_ eF (fun k h hl => by (try simp only [rng] at h); (try simp only at h); omega))
        have b0 := Hd.mk (show Blk W (w.heap.size) #[Value.int IntKind.i64 j.kind, Value.int IntKind.i64 j.n, Value.string j.s, Value.slice A3 j.list.length c3, Value.slice A4 j.names.length c4] 27 by rw [hW]; exact (Blk.all b0.out [Value.int IntKind.i64 j.kind, Value.int IntKind.i64 j.n, Value.string j.s, Value.slice A3 j.list.length c3, Value.slice A4 j.names.length c4] rfl))
        have b1 := Hd.mk (b1.out.fr eF (fun h => by have hlt_ := b1.out.lt; (try simp only at h); omega))
        have hO := Hd.mk (Ty.O_fr hO.out eF (fun k hk hl h => by have q_ := hk; (try simp only [rng] at hk); (try simp only at hk); (try simp only at h); omega))
        clear hW eF
        have z5 := Hd.mk hz_; clear hz_
        exact ⟨j, [Value.int IntKind.i64 j.kind, Value.int IntKind.i64 j.n, Value.string j.s, Value.slice A3 j.list.length c3, Value.slice A4 j.names.length c4], rfl, fun m => by have := HBK.out m; omega, (tJ_le (show 9 ≤ 9 by decide)).O _ _ _ _ (Ty.O_mono _ (fun q h => by have h1 := h.1; omega) (hO.out)), hC.out, hB.out⟩
  · have fb0_0 : w4.cell? ⟨w.heap.size, 0, none⟩ = some (Value.int IntKind.i64 0) := b0.out.cell 0 rfl
    have fb0_1 : w4.cell? ⟨w.heap.size, 1, none⟩ = some (Value.int IntKind.i64 0) := b0.out.cell 1 rfl
    have fb0_2 : w4.cell? ⟨w.heap.size, 2, none⟩ = some (Value.string ⟨#[]⟩) := b0.out.cell 2 rfl
    have fb0_3 : w4.cell? ⟨w.heap.size, 3, none⟩ = some (Value.slice none 0 0) := b0.out.cell 3 rfl
    have fb0_4 : w4.cell? ⟨w.heap.size, 4, none⟩ = some (Value.slice none 0 0) := b0.out.cell 4 rfl
    have fb0_z := b0.out.frozen
    have fb1_0 : w4.cell? ⟨w2.heap.size, 0, none⟩ = some (Value.int IntKind.i64 j.kind) := b1.out.cell 0 rfl
    have fb1_1 : w4.cell? ⟨w2.heap.size, 1, none⟩ = some (Value.int IntKind.i64 j.n) := b1.out.cell 1 rfl
    have fb1_2 : w4.cell? ⟨w2.heap.size, 2, none⟩ = some (Value.string j.s) := b1.out.cell 2 rfl
    have fb1_3 : w4.cell? ⟨w2.heap.size, 3, none⟩ = some (Value.slice A3 j.list.length c3) := b1.out.cell 3 rfl
    have fb1_4 : w4.cell? ⟨w2.heap.size, 4, none⟩ = some (Value.slice A4 j.names.length c4) := b1.out.cell 4 rfl
    have fb1_z := b1.out.frozen
    go_wp2_with fail
    clear fb0_0 fb0_1 fb0_2 fb0_3 fb0_4 fb0_z fb1_0 fb1_1 fb1_2 fb1_3 fb1_4 fb1_z
    refine (spec_l1Below 2 W0 _ g hC.out).mono ?_
    rintro e w5 ⟨y, rfl, y0, y1, _, hC1, hX⟩
    have hC := Hd.mk hC1; clear hC1
    have hSz0 := hB.out.size
    have hg_ := hg.out
    have z1_ := z1.out; have z2_ := z2.out; have z3_ := z3.out; have z4_ := z4.out
    have b0 := Hd.mk (b0.out.fr hX (fun h => by skip; (try simp only at h); omega))
    have b1 := Hd.mk (b1.out.fr hX (fun h => by skip; (try simp only at h); omega))
    have hO := Hd.mk (Ty.O_fr hO.out hX (fun k hk hl h => by have q_ := hk; have hg_ := hg.out; (try simp only [rng] at hk); (try simp only at hk); (try simp only at h); omega))
    have hB := Hd.mk (hB.out.trans hX)
    have hz_ := hX.size
    clear hSz0 hg_ hX
    have z5 := Hd.mk hz_; clear hz_
    replace y1 := y1 (by omega)
    obtain ⟨u, hu⟩ : ∃ u : Nat, y = (u : Int) := ⟨y.toNat, by omega⟩
    subst hu
    clear y0
    obtain ⟨m, hm⟩ : ∃ m : Nat, m = 399 + u := ⟨_, rfl⟩
    have hmi : (399 : Int) + (u : Int) = (m : Int) := by omega
    have hm4 : m ≤ 400 := by omega
    clear hm
    have hmk := make_eq (P := Try.prog) 24 27 (.agg #[.int .i64 0, .int .i64 0, .string ByteArray.empty, .slice none 0 0, .slice none 0 0]) 5 80 Try.underlying24 info_JsonS m (by omega) (by omega)
    clear hO
    have z1_ := z1.out; have z2_ := z2.out; have z3_ := z3.out; have z4_ := z4.out; have z5_ := z5.out
    have hPW_ := hPW.out
    have hne_ : ¬ w2.heap.size = w5.heap.size := by omega
    have hlt_ : w2.heap.size < w5.heap.size := by omega
    have hne2_ : ¬ w5.heap.size = w2.heap.size := by omega
    have hne3_ : ¬ w.heap.size = w5.heap.size := by omega
    have hlt3_ : w.heap.size < w5.heap.size := by omega
    have hne4_ : ¬ w5.heap.size = w.heap.size := by omega
    have fb0_0 : w5.cell? ⟨w.heap.size, 0, none⟩ = some (Value.int IntKind.i64 0) := b0.out.cell 0 rfl
    have fb0_1 : w5.cell? ⟨w.heap.size, 1, none⟩ = some (Value.int IntKind.i64 0) := b0.out.cell 1 rfl
    have fb0_2 : w5.cell? ⟨w.heap.size, 2, none⟩ = some (Value.string ⟨#[]⟩) := b0.out.cell 2 rfl
    have fb0_3 : w5.cell? ⟨w.heap.size, 3, none⟩ = some (Value.slice none 0 0) := b0.out.cell 3 rfl
    have fb0_4 : w5.cell? ⟨w.heap.size, 4, none⟩ = some (Value.slice none 0 0) := b0.out.cell 4 rfl
    have fb0_z := b0.out.frozen
    have fb1_0 : w5.cell? ⟨w2.heap.size, 0, none⟩ = some (Value.int IntKind.i64 j.kind) := b1.out.cell 0 rfl
    have fb1_1 : w5.cell? ⟨w2.heap.size, 1, none⟩ = some (Value.int IntKind.i64 j.n) := b1.out.cell 1 rfl
    have fb1_2 : w5.cell? ⟨w2.heap.size, 2, none⟩ = some (Value.string j.s) := b1.out.cell 2 rfl
    have fb1_3 : w5.cell? ⟨w2.heap.size, 3, none⟩ = some (Value.slice A3 j.list.length c3) := b1.out.cell 3 rfl
    have fb1_4 : w5.cell? ⟨w2.heap.size, 4, none⟩ = some (Value.slice A4 j.names.length c4) := b1.out.cell 4 rfl
    have fb1_z := b1.out.frozen
    go_wp2_with fail
    refine bodyPost_retW (v := .agg #[Value.int IntKind.i64 4, Value.int IntKind.i64 0, Value.string ⟨#[]⟩, Value.slice (some ⟨w5.heap.size, 0, none⟩) m m, Value.slice none 0 0]) (by simp [results, Try.results72, go_sem, fb0_0, fb0_1, fb0_2, fb0_3, fb0_4, fb0_z, fb1_0, fb1_1, fb1_2, fb1_3, fb1_4, fb1_z, hne_, hlt_, hne2_, hne3_, hlt3_, hne4_]) rfl ?_
    intro W hW
    clear fb0_0 fb0_1 fb0_2 fb0_3 fb0_4 fb0_z fb1_0 fb1_1 fb1_2 fb1_3 fb1_4 fb1_z
    obtain ⟨W2, hW2⟩ : ∃ W2, W2 = ((((((((((w5.setCell ⟨w2.heap.size, 0, none⟩ (Value.int IntKind.i64 4)).setCell ⟨w2.heap.size, 1, none⟩ (Value.int IntKind.i64 0)).setCell ⟨w2.heap.size, 2, none⟩ (Value.string ⟨#[]⟩)).setCell ⟨w2.heap.size, 3, none⟩ (Value.slice (some ⟨w5.heap.size, 0, none⟩) m m)).setCell ⟨w2.heap.size, 4, none⟩ (Value.slice none 0 0)).setCell ⟨w.heap.size, 0, none⟩ (Value.int IntKind.i64 4)).setCell ⟨w.heap.size, 1, none⟩ (Value.int IntKind.i64 0)).setCell ⟨w.heap.size, 2, none⟩ (Value.string ⟨#[]⟩)).setCell ⟨w.heap.size, 3, none⟩ (Value.slice (some ⟨w5.heap.size, 0, none⟩) m m)).setCell ⟨w.heap.size, 4, none⟩ (Value.slice none 0 0)) := ⟨_, rfl⟩
    have hM0 := R_made (d := tJ 1) (e := 27) (W := W2) (z := .agg #[.int .i64 0, .int .i64 0, .string ByteArray.empty, .slice none 0 0, .slice none 0 0]) (S := fun q => q = W2.heap.size) J.null m (by rw [tJ_sz]; omega) (by omega) (tJ_sz 1).symm (fun _ w S => ZJ 0 w S) rfl
    simp only [tJ_sz, show W2.heap.size = w5.heap.size by rw [hW2]; simp] at hM0
    rw [hW2] at hM0
    replace hM0 := Hd.mk (show (tJ 1).R 27 W _ _ _ by rw [hW]; exact hM0)
    clear hW2 W2 hmk
    have hz_ : w5.heap.size + 1 ≤ W.heap.size := by rw [hW]; simp
    have eF : Fr w5 W (fun k => k = w2.heap.size ∨ k = w.heap.size ∨ w5.heap.size ≤ k) := by rw [hW]; (repeat (first | with_reducible refine Fr.setCell ?_ _ (fun _ => by simp <;> omega) _ | with_reducible refine Fr.alloc ?_ _ | with_reducible refine Fr.drew ?_)); exact Fr.refl _ _
    have z1_ := z1.out; have z2_ := z2.out; have z3_ := z3.out; have z4_ := z4.out; have z5_ := z5.out
    have hC := Hd.mk (hC.out.fr eF (fun h => by have hg_ := hg.out; have hlt_ := hC.out.lt; (try simp only [rng] at h); (try simp only at h); omega) (fun k h => by have hg_ := hg.out; have hge_ := hC.out.ge; (try simp only [rng] at h); (try simp only at h); omega))
    have hB := Hd.mk (hB.out.then_ eF (fun k h hl => by (try simp only [rng] at h); (try simp only at h); omega))
    have b0 := Hd.mk (show Blk W (w.heap.size) #[Value.int IntKind.i64 4, Value.int IntKind.i64 0, Value.string ⟨#[]⟩, Value.slice (some ⟨w5.heap.size, 0, none⟩) m m, Value.slice none 0 0] 27 by rw [hW]; exact (((((((((((b0.out.other _ (by simp <;> omega) _).other _ (by simp <;> omega) _).other _ (by simp <;> omega) _).other _ (by simp <;> omega) _).other _ (by simp <;> omega) _).set 0 (Value.int IntKind.i64 4)).set 1 (Value.int IntKind.i64 0)).set 2 (Value.string ⟨#[]⟩)).set 3 (Value.slice (some ⟨w5.heap.size, 0, none⟩) m m)).set 4 (Value.slice none 0 0)).alloc _))
    have b1 := Hd.mk (show Blk W (w2.heap.size) #[Value.int IntKind.i64 4, Value.int IntKind.i64 0, Value.string ⟨#[]⟩, Value.slice (some ⟨w5.heap.size, 0, none⟩) m m, Value.slice none 0 0] 27 by rw [hW]; exact (((((((((((b1.out.set 0 (Value.int IntKind.i64 4)).set 1 (Value.int IntKind.i64 0)).set 2 (Value.string ⟨#[]⟩)).set 3 (Value.slice (some ⟨w5.heap.size, 0, none⟩) m m)).set 4 (Value.slice none 0 0)).other _ (by simp <;> omega) _).other _ (by simp <;> omega) _).other _ (by simp <;> omega) _).other _ (by simp <;> omega) _).other _ (by simp <;> omega) _).alloc _))
    clear hW eF
    have z6 := Hd.mk hz_; clear hz_
    exact ⟨⟨4, 0, ⟨#[]⟩, List.replicate m J.null, []⟩, [Value.int IntKind.i64 4, Value.int IntKind.i64 0, Value.string ⟨#[]⟩, Value.slice (some ⟨w5.heap.size, 0, none⟩) m m, Value.slice none 0 0], rfl, fun m2 => Nat.le_trans (bulk_nulls m m2) (by omega), (tJ_le (show 2 ≤ 9 by decide)).O _ _ _ _ (tJ_O.2 ⟨_, _, fun q => q = w5.heap.size, fun _ => False, by simp, (show (⟨#[]⟩ : ByteArray).size ≤ 9223372036854775807 by decide), hM0.out, R_nil, fun q h => by have h : q = _ := h; omega, fun _ h => h.elim, fun _ _ h => h⟩), hC.out, hB.out⟩
  · have hd_ : (x == 0) = false ∧ (x == 1) = false ∧ (x == 2) = false ∧ (x == 3) = false ∧ (x == 4) = false ∧ (x == 5) = false := ⟨by simp; omega, by simp; omega, by simp; omega, by simp; omega, by simp; omega, by simp; omega⟩
    obtain ⟨e0, e1, e2, e3, e4, e5⟩ := hd_
    have d0 : decide (x = 0) = false ∧ decide (x = 1) = false ∧ decide (x = 2) = false ∧ decide (x = 3) = false ∧ decide (x = 4) = false ∧ decide (x = 5) = false := ⟨by simp; omega, by simp; omega, by simp; omega, by simp; omega, by simp; omega, by simp; omega⟩
    obtain ⟨d0, d1, d2, d3, d4, d5⟩ := d0
    have fb0_0 : w4.cell? ⟨w.heap.size, 0, none⟩ = some (Value.int IntKind.i64 0) := b0.out.cell 0 rfl
    have fb0_1 : w4.cell? ⟨w.heap.size, 1, none⟩ = some (Value.int IntKind.i64 0) := b0.out.cell 1 rfl
    have fb0_2 : w4.cell? ⟨w.heap.size, 2, none⟩ = some (Value.string ⟨#[]⟩) := b0.out.cell 2 rfl
    have fb0_3 : w4.cell? ⟨w.heap.size, 3, none⟩ = some (Value.slice none 0 0) := b0.out.cell 3 rfl
    have fb0_4 : w4.cell? ⟨w.heap.size, 4, none⟩ = some (Value.slice none 0 0) := b0.out.cell 4 rfl
    have fb0_z := b0.out.frozen
    have fb1_0 : w4.cell? ⟨w2.heap.size, 0, none⟩ = some (Value.int IntKind.i64 j.kind) := b1.out.cell 0 rfl
    have fb1_1 : w4.cell? ⟨w2.heap.size, 1, none⟩ = some (Value.int IntKind.i64 j.n) := b1.out.cell 1 rfl
    have fb1_2 : w4.cell? ⟨w2.heap.size, 2, none⟩ = some (Value.string j.s) := b1.out.cell 2 rfl
    have fb1_3 : w4.cell? ⟨w2.heap.size, 3, none⟩ = some (Value.slice A3 j.list.length c3) := b1.out.cell 3 rfl
    have fb1_4 : w4.cell? ⟨w2.heap.size, 4, none⟩ = some (Value.slice A4 j.names.length c4) := b1.out.cell 4 rfl
    have fb1_z := b1.out.frozen
    go_wp2_with fail
    refine bodyPost_retW (v := .agg #[Value.int IntKind.i64 j.kind, Value.int IntKind.i64 j.n, Value.string j.s, Value.slice A3 j.list.length c3, Value.slice A4 j.names.length c4]) (by simp [results, Try.results72, go_sem, fb0_0, fb0_1, fb0_2, fb0_3, fb0_4, fb0_z, fb1_0, fb1_1, fb1_2, fb1_3, fb1_4, fb1_z]) rfl ?_
    intro W hW
    clear fb0_0 fb0_1 fb0_2 fb0_3 fb0_4 fb0_z fb1_0 fb1_1 fb1_2 fb1_3 fb1_4 fb1_z
    have z1_ := z1.out; have z2_ := z2.out; have z3_ := z3.out; have z4_ := z4.out
    have hSz_ := hB.out.size
    have hg_ := hg.out
    have hz_ : w4.heap.size ≤ W.heap.size := by rw [hW]; simp
    have eF : Fr w4 W (fun k => k = w.heap.size ∨ w4.heap.size ≤ k) := by rw [hW]; (repeat (first | with_reducible refine Fr.setCell ?_ _ (fun _ => by simp <;> omega) _ | with_reducible refine Fr.alloc ?_ _ | with_reducible refine Fr.drew ?_)); exact Fr.refl _ _
    have z1_ := z1.out; have z2_ := z2.out; have z3_ := z3.out; have z4_ := z4.out
    have hC := Hd.mk (hC.out.fr eF (fun h => by have hg_ := hg.out; have hlt_ := hC.out.lt; (try simp only [rng] at h); (try simp only at h); omega) (fun k h => by have hg_ := hg.out; have hge_ := hC.out.ge; (try simp only [rng] at h); (try simp only at h); omega))
    have hB := Hd.mk (hB.out.then_ eF (fun k h hl => by (try simp only [rng] at h); (try simp only at h); omega))
    have b0 := Hd.mk (show Blk W (w.heap.size) #[Value.int IntKind.i64 j.kind, Value.int IntKind.i64 j.n, Value.string j.s, Value.slice A3 j.list.length c3, Value.slice A4 j.names.length c4] 27 by rw [hW]; exact (Blk.all b0.out [Value.int IntKind.i64 j.kind, Value.int IntKind.i64 j.n, Value.string j.s, Value.slice A3 j.list.length c3, Value.slice A4 j.names.length c4] rfl))
    have b1 := Hd.mk (b1.out.fr eF (fun h => by have hlt_ := b1.out.lt; (try simp only at h); omega))
    have hO := Hd.mk (Ty.O_fr hO.out eF (fun k hk hl h => by have q_ := hk; have hg_ := hg.out; (try simp only [rng] at hk); (try simp only at hk); (try simp only at h); omega))
    clear hW eF
    have z5 := Hd.mk hz_; clear hz_
    exact ⟨j, [Value.int IntKind.i64 j.kind, Value.int IntKind.i64 j.n, Value.string j.s, Value.slice A3 j.list.length c3, Value.slice A4 j.names.length c4], rfl, fun m => by have := HBK.out m; omega, (tJ_le (show 4 ≤ 9 by decide)).O _ _ _ _ (Ty.O_mono _ (fun q h => by have h1 := h.1; omega) (hO.out)), hC.out, hB.out⟩
end Go.Proofs.Ytlkjpnlpankhpaa.X
