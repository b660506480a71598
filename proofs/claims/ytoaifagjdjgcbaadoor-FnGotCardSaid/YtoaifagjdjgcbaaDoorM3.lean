/- What is proved here: lemmas about the functions that the statement reaches, and what they compute (part 3). Conditions: none. -/
import Derived.Test.YtoaifagjdjgcbaaDoorM2
import Derived.Lib.ItoaNum
import Derived.Lib.ItoaMem
import Derived.Lib.AtoiAll
import Derived.Lib.AtoiAllCases
import Derived.Test.YtoaifagjdjgcbaaDoorM1
import Derived.Test.YtoaifagjdjgcbaaDoorShN
import Derived.Laws.IdiomStrings
import Derived.Lib.AtoiErrMem
import Derived.Lib.AppendIntMem
import Derived.Lib.MinMaxS
import Derived.Lib.Join
import Derived.Lib.ItoaLen
import Derived.StillTailTactics
import Derived.Deep.RegionWith
namespace Go.Proofs.YtoaifagjdjgcbaaDoor.X
open Go.RowKit Go.Sort
set_option linter.unusedVariables false
set_option linter.unusedSimpArgs false
open Ty
theorem bulk_sJ (m : Nat) (k n : Int) (s : ByteArray) (j : J) : bulkJ m ⟨k, n, s, j.list, j.names⟩ ≤ s.size + bulkJ m j := by
 cases m with
 | zero => exact Nat.zero_le _
 | succ m => simp only [bulkJ, J.s_mk, J.list_mk, J.names_mk]; omega
theorem bulk_kn (m : Nat) (k n : Int) (j : J) : bulkJ m ⟨k, n, j.s, j.list, j.names⟩ = bulkJ m j := by
 cases m <;> rfl
theorem bulk_n (m : Nat) (s : ByteArray) (j : J) : bulkJ m ⟨j.kind, j.n, j.s, j.list, j.names ++ [s]⟩ ≤ bulkJ m j + 1 + s.size := by
 cases m with
 | zero => exact Nat.zero_le _
 | succ m => simp only [bulkJ, J.s_mk, J.list_mk, J.names_mk, bulkStringS, bulkL_append, bulkL, List.length_append, List.length_cons, List.length_nil]; omega
theorem bulk_one1 {j : J} {B : Nat} (h : ∀ m, bulkJ m j ≤ B) (m : Nat) : bulkJ m ⟨4, 0, ⟨#[]⟩, [j], []⟩ ≤ B + 1 := by
 cases m with
 | zero => exact Nat.zero_le _
 | succ m =>
  have h1 := h m
  simp only [bulkJ, J.s_mk, J.list_mk, J.names_mk, bulkStringS, bulkL, List.length_cons, List.length_nil, show (⟨#[]⟩ : ByteArray).size = 0 from rfl]
  omega
theorem bulk_nullJ (m : Nat) : bulkJ m J.null = 0 := by cases m <;> rfl
theorem bulk_nulls (c m : Nat) : bulkJ m ⟨4, 0, ⟨#[]⟩, List.replicate c J.null, []⟩ ≤ c := by
 cases m with
 | zero => exact Nat.zero_le _
 | succ m =>
  have h1 : ∀ c, bulkL (bulkJ m) (List.replicate c J.null) = 0 := by
   intro c
   induction c with
   | zero => rfl
   | succ c ih => rw [List.replicate_succ]; simp only [bulkL, ih, bulk_nullJ]
  simp only [bulkJ, J.s_mk, J.list_mk, J.names_mk, bulkStringS, bulkL, h1, List.length_nil, List.length_replicate, show (⟨#[]⟩ : ByteArray).size = 0 from rfl]
  omega
theorem O_fld {m : Nat} {w : World} {S : Nat → Prop} {j : J} {v v2 : Value} (h : (tJ (m + 1)).O w S j [.int .i64 j.kind, .int .i64 j.n, .string j.s, v, v2]) (k n : Int) (s : ByteArray) (hs : s.size ≤ 9223372036854775807) : (tJ (m + 1)).O w S ⟨k, n, s, j.list, j.names⟩ [.int .i64 k, .int .i64 n, .string s, v, v2] := by
 obtain ⟨v3, v4, T0, T1, e, _, h3, h4, r⟩ := tJ_O.1 h
 simp only [List.cons.injEq, and_true, true_and] at e
 obtain ⟨rfl, rfl⟩ := e
 exact tJ_O.2 ⟨_, _, T0, T1, rfl, hs, h3, h4, r⟩
theorem O_ssz {m : Nat} {w : World} {S : Nat → Prop} {j : J} {cs : List Value} (h : (tJ (m + 1)).O w S j cs) : j.s.size ≤ 9223372036854775807 := by
 obtain ⟨v3, v4, T0, T1, e, hs, _⟩ := tJ_O.1 h
 exact hs
theorem O_one5 {m n : Nat} {W : World} {T : Nat → Prop} {j : J} {cs : List Value} (h : (tJ (m + 1)).O W T j cs) (h5 : cs.length = 5) (hn : W.heap.size = n) : (tJ (m + 2)).O (W.alloc (.cells cs.toArray 27)) (fun q => (T q ∧ q < n) ∨ q = n) ⟨4, 0, ⟨#[]⟩, [j], []⟩ [.int .i64 4, .int .i64 0, .string ⟨#[]⟩, .slice (some ⟨n, 0, none⟩) 1 1, .slice none 0 0] := by
 subst hn
 have hb : Below W.heap.size W (W.alloc (.cells cs.toArray 27)) := below_alloc (Below.refl _ _) _
 refine tJ_O.2 ⟨_, _, fun q => (T q ∧ q < W.heap.size) ∨ q = W.heap.size, fun _ => False, rfl, (show (⟨#[]⟩ : ByteArray).size ≤ 9223372036854775807 by decide), ?_, R_nil, fun _ h => h, fun _ h => h.elim, fun _ _ h => h⟩
 refine R_block (d := tJ (m + 1)) (xs := [j]) (cap := 1) (heap_alloc_new W _) (.inr rfl) (Nat.le_refl _) (by omega) (by rw [tJ_sz]; simpa using h5) (fun _ => 0) (fun i x hx => ?_)
 rcases i with _ | i
 ·simp only [List.getElem?_cons_zero, Option.some.injEq] at hx
  subst hx
  rw [tJ_sz, Nat.zero_mul, List.drop_zero, List.take_of_length_le (by simp [h5])]
  exact Ty.O_mono _ (fun q hq => ⟨.inl hq, by have := hq.2; omega, rfl⟩) (Ty.O_below (Ty.O_bound _ h) hb)
 ·simp at hx
theorem spec_l1DrawRight4 (W0 w : World) (g : Nat) (hc : Cur W0 w g) : Calls Tryd.prog 62 #[.pointer (some ⟨g, 0, none⟩), .int .i64 4] w fun e w' => ∃ (j : J) (cs : List Value), e = .returned (.agg cs.toArray) ∧ DrG 4 j ∧ (tJ 4).O w' (fun k => w.heap.size ≤ k) j cs ∧ Cur W0 w' g ∧ Fr w w' (fun k => k = g) := spec_l1DrawRight 3 (by decide) W0 w g hc
set_option maxHeartbeats 8000000 in
set_option maxRecDepth 100000 in
theorem spec_l1Draw (W0 w : World) (g : Nat) (hc : Cur W0 w g) :
  Calls Tryd.prog 40 #[.pointer (some ⟨g, 0, none⟩)] w fun e w' => ∃ (j : J) (cs : List Value), e = .returned (.agg cs.toArray) ∧ (∀ m, bulkJ m j ≤ 30000) ∧ (tJ 9).O w' (fun k => w.heap.size ≤ k) j cs ∧ Cur W0 w' g ∧ Fr w w' (fun k => k = g) := by
 have hg := Hd.mk hc.lt
 have hC := Hd.mk hc; clear hc
 have hB := Hd.mk (Fr.refl w (fun k => k = g))
 go_enter Tryd.func40, Tryd.ntmps40
 go_wp2_with fail
 apply calls_gen; intro W1 hW
 have hz_ : w.heap.size + 1 ≤ W1.heap.size := by rw [hW]; simp
 have hE : Below w.heap.size w W1 := by rw [hW]; (repeat (first | with_reducible refine below_alloc ?_ _ | with_reducible refine below_drew ?_)); exact Below.refl _ _
 have hB := Hd.mk (hB.out.trans (Fr.of_below hE _))
 have hC := Hd.mk (hC.out.below hE)
 have b0 := Hd.mk (show Blk W1 (w.heap.size) #[.int .i64 0, .int .i64 0, .string ⟨#[]⟩, .slice none 0 0, .slice none 0 0] 27 by rw [hW]; first | exact (Blk.new _ _ _) | (simpa using (Blk.new _ _ _)))
 clear hW hE
 have z1 := Hd.mk hz_; clear hz_
 refine (spec_l1DrawRight4 W0 _ g hC.out).mono ?_
 rintro e w2 ⟨j, cs, rfl, hDJ, hO, hC1, hX⟩
 have hC := Hd.mk hC1; clear hC1
 have hSz0 := hB.out.size
 have hg_ := hg.out
 have z1_ := z1.out
 have b0 := Hd.mk (b0.out.fr hX (fun h => by skip; (try simp only at h); omega))
 have hB := Hd.mk (hB.out.trans hX)
 have hz_ := hX.size
 clear hSz0 hg_ hX
 have z2 := Hd.mk hz_; clear hz_
 obtain ⟨v3, v4, _, _, rfl, _, hr3, hr4, _⟩ := tJ_O.1 hO
 obtain ⟨A3, c3, rfl, _, _⟩ := R_C hr3
 obtain ⟨A4, c4, rfl, _, _⟩ := R_C hr4
 clear hr3 hr4
 have HBK := Hd.mk (show ∀ m, bulkJ m j ≤ 26350 from fun m => DrG_bulk 4 m j hDJ)
 have hn4 : j.names.length ≤ 4 := hDJ.2.1
 clear hDJ
 have hO := Hd.mk (show (tJ 4).O w2 (rng W1.heap.size w2.heap.size) j _ from Ty.O_bound _ hO)
 have z1_ := z1.out; have z2_ := z2.out
 have hWl := Hd.mk (show w.heap.size < W1.heap.size by omega)
 obtain ⟨v00, v01, v02, v03, v04, v0z⟩ := blk5 b0.out
 go_wp2_with fail
 clear v00 v01 v02 v03 v04 v0z
 apply calls_gen; intro W3 hW
 have hz_ : w2.heap.size + 1 ≤ W3.heap.size := by rw [hW]; simp
 have hE : Below w2.heap.size w2 W3 := by rw [hW]; (repeat (first | with_reducible refine below_alloc ?_ _ | with_reducible refine below_drew ?_)); exact Below.refl _ _
 have hB := Hd.mk (hB.out.trans (Fr.of_below hE _))
 have hC := Hd.mk (hC.out.below hE)
 have b0 := b0.dn hE
 have b1 := Hd.mk (show Blk W3 (w2.heap.size) #[.int .i64 j.kind, .int .i64 j.n, .string j.s, .slice A3 j.list.length c3, .slice A4 j.names.length c4] 27 by rw [hW]; first | exact (Blk.new _ _ _) | (simpa using (Blk.new _ _ _)))
 have hO := hO.ob hE
 clear hW hE
 have z3 := Hd.mk hz_; clear hz_
 have z1_ := z1.out; have z2_ := z2.out; have z3_ := z3.out
 have hPW := Hd.mk (show w.heap.size < w2.heap.size by omega)
 refine (spec_l1Below 20 W0 _ g hC.out).mono ?_
 rintro e w4 ⟨x, rfl, x0, x1, _, hC1, hX⟩
 have hC := Hd.mk hC1; clear hC1
 have hSz0 := hB.out.size
 have hg_ := hg.out
 have z1_ := z1.out; have z2_ := z2.out; have z3_ := z3.out
 have b0 := Hd.mk (b0.out.fr hX (fun h => by skip; (try simp only at h); omega))
 have b1 := Hd.mk (b1.out.fr hX (fun h => by skip; (try simp only at h); omega))
 have hO := Hd.mk (Ty.O_fr hO.out hX (fun k hk hl h => by have q_ := hk; have hg_ := hg.out; (try simp only [rng] at hk); (try simp only at hk); (try simp only at h); omega))
 have hB := Hd.mk (hB.out.trans hX)
 have hz_ := hX.size
 clear hSz0 hg_ hX
 have z4 := Hd.mk hz_; clear hz_
 replace x1 := x1 (by omega)
 have hx : x = 0 ∨ x = 1 ∨ x = 2 ∨ x = 3 ∨ x = 4 ∨ x = 5 ∨ 6 ≤ x := by omega
 clear x0 x1
 rcases hx with rfl | rfl | rfl | rfl | rfl | rfl | hx
 ·have v00 : w4.cell? ⟨w.heap.size, 0, none⟩ = some (.int .i64 0) := b0.out.cell 0 rfl
  have v01 : w4.cell? ⟨w.heap.size, 1, none⟩ = some (.int .i64 0) := b0.out.cell 1 rfl
  have v02 : w4.cell? ⟨w.heap.size, 2, none⟩ = some (.string ⟨#[]⟩) := b0.out.cell 2 rfl
  have v03 : w4.cell? ⟨w.heap.size, 3, none⟩ = some (.slice none 0 0) := b0.out.cell 3 rfl
  have v04 : w4.cell? ⟨w.heap.size, 4, none⟩ = some (.slice none 0 0) := b0.out.cell 4 rfl
  have v0z := b0.out.frozen
  obtain ⟨v10, v11, v12, v13, v14, v1z⟩ := blk5 b1.out
  go_wp2_with fail
  clear v00 v01 v02 v03 v04 v0z v10 v11 v12 v13 v14 v1z
  refine (spec_l1Below 8 W0 _ g hC.out).mono ?_
  rintro e w5 ⟨y, rfl, y0, y1, _, hC1, hX⟩
  have hC := Hd.mk hC1; clear hC1
  have hSz0 := hB.out.size
  have hg_ := hg.out
  have z1_ := z1.out; have z2_ := z2.out; have z3_ := z3.out; have z4_ := z4.out
  have b0 := Hd.mk (b0.out.fr hX (fun h => by skip; (try simp only at h); omega))
  have b1 := Hd.mk (b1.out.fr hX (fun h => by skip; (try simp only at h); omega))
  have hO := Hd.mk (Ty.O_fr hO.out hX (fun k hk hl h => by have q_ := hk; have hg_ := hg.out; (try simp only [rng] at hk); (try simp only at hk); (try simp only at h); omega))
  have hB := Hd.mk (hB.out.trans hX)
  have hz_ := hX.size
  clear hSz0 hg_ hX
  have z5 := Hd.mk hz_; clear hz_
  replace y1 := y1 (by omega)
  obtain ⟨v00, v01, v02, v03, v04, v0z⟩ := blk5 b0.out
  obtain ⟨v10, v11, v12, v13, v14, v1z⟩ := blk5 b1.out
  go_wp2_with fail
  refine bodyPost_retW (v := .agg #[.int .i64 (y - 1), .int .i64 j.n, .string j.s, .slice A3 j.list.length c3, .slice A4 j.names.length c4]) (by simp [results, Tryd.results40, go_sem, v00, v01, v02, v03, v04, v0z, v10, v11, v12, v13, v14, v1z]) rfl ?_
  intro W hW
  clear v00 v01 v02 v03 v04 v0z v10 v11 v12 v13 v14 v1z
  have z1_ := z1.out; have z2_ := z2.out; have z3_ := z3.out; have z4_ := z4.out; have z5_ := z5.out
  have hSz_ := hB.out.size
  have hg_ := hg.out
  have hz_ : w5.heap.size ≤ W.heap.size := by rw [hW]; simp
  have eF : Fr w5 W (fun k => k = w2.heap.size ∨ k = w.heap.size ∨ w5.heap.size ≤ k) := by rw [hW]; (repeat (first | with_reducible refine Fr.setCell ?_ _ (fun _ => by simp <;> omega) _ | with_reducible refine Fr.alloc ?_ _ | with_reducible refine Fr.drew ?_)); exact Fr.refl _ _
  have z1_ := z1.out; have z2_ := z2.out; have z3_ := z3.out; have z4_ := z4.out; have z5_ := z5.out
  have hC := Hd.mk (hC.out.fr eF (fun h => by have hg_ := hg.out; have hlt_ := hC.out.lt; (try simp only [rng] at h); (try simp only at h); omega) (fun k h => by have hg_ := hg.out; have hge_ := hC.out.ge; (try simp only [rng] at h); (try simp only at h); omega))
  have hB := Hd.mk (hB.out.then_ eF (fun k h hl => by (try simp only [rng] at h); (try simp only at h); omega))
  have b0 := Hd.mk (show Blk W (w.heap.size) #[.int .i64 (y - 1), .int .i64 j.n, .string j.s, .slice A3 j.list.length c3, .slice A4 j.names.length c4] 27 by rw [hW]; exact ((((((b0.out.other _ (by simp <;> omega) _).set 0 (Value.int IntKind.i64 (y - 1))).set 1 (Value.int IntKind.i64 j.n)).set 2 (Value.string j.s)).set 3 (Value.slice A3 j.list.length c3)).set 4 (Value.slice A4 j.names.length c4)))
  have b1 := Hd.mk (show Blk W (w2.heap.size) #[.int .i64 (y - 1), .int .i64 j.n, .string j.s, .slice A3 j.list.length c3, .slice A4 j.names.length c4] 27 by rw [hW]; exact ((((((b1.out.set 0 (Value.int IntKind.i64 (y - 1))).other _ (by simp <;> omega) _).other _ (by simp <;> omega) _).other _ (by simp <;> omega) _).other _ (by simp <;> omega) _).other _ (by simp <;> omega) _))
  have hO := Hd.mk (Ty.O_fr hO.out eF (fun k hk hl h => by have q_ := hk; have hg_ := hg.out; (try simp only [rng] at hk); (try simp only at hk); (try simp only at h); omega))
  clear hW eF
  have z6 := Hd.mk hz_; clear hz_
  exact ⟨⟨y - 1, j.n, j.s, j.list, j.names⟩, [Value.int IntKind.i64 (y - 1), .int .i64 j.n, .string j.s, .slice A3 j.list.length c3, .slice A4 j.names.length c4], rfl, fun m => by rw [bulk_kn]; have := HBK.out m; omega, (tJ_le (show 4 ≤ 9 by decide)).O _ _ _ _ (Ty.O_mono _ (fun q h => by have h1 := h.1; omega) (O_fld hO.out (y - 1) j.n j.s (O_ssz hO.out))), hC.out, hB.out⟩
 ·have v00 : w4.cell? ⟨w.heap.size, 0, none⟩ = some (.int .i64 0) := b0.out.cell 0 rfl
  have v01 : w4.cell? ⟨w.heap.size, 1, none⟩ = some (.int .i64 0) := b0.out.cell 1 rfl
  have v02 : w4.cell? ⟨w.heap.size, 2, none⟩ = some (.string ⟨#[]⟩) := b0.out.cell 2 rfl
  have v03 : w4.cell? ⟨w.heap.size, 3, none⟩ = some (.slice none 0 0) := b0.out.cell 3 rfl
  have v04 : w4.cell? ⟨w.heap.size, 4, none⟩ = some (.slice none 0 0) := b0.out.cell 4 rfl
  have v0z := b0.out.frozen
  obtain ⟨v10, v11, v12, v13, v14, v1z⟩ := blk5 b1.out
  go_wp2_with fail
  clear v00 v01 v02 v03 v04 v0z v10 v11 v12 v13 v14 v1z
  apply calls_gen; intro W5 hW
  have hE0 := Hd.mk (show int.R 3 W5 (fun k => k = w4.heap.size) (.slice (some ⟨w4.heap.size, 0, none⟩) 4 4) [1, 2, -1, 1000000001] by rw [hW]; exact R_ints (W0 := w4) [1, 2, -1, 1000000001] (by decide))
  have hz_ : w4.heap.size + 1 ≤ W5.heap.size := by rw [hW]; simp
  have hE : Below w4.heap.size w4 W5 := by rw [hW]; (repeat (first | with_reducible refine below_alloc ?_ _ | with_reducible refine below_drew ?_)); exact Below.refl _ _
  have hB := Hd.mk (hB.out.trans (Fr.of_below hE _))
  have hC := Hd.mk (hC.out.below hE)
  have b0 := b0.dn hE
  have b1 := b1.dn hE
  have hO := hO.ob hE
  clear hW hE
  have z5 := Hd.mk hz_; clear hz_
  have hEg := Hd.mk (show ¬ (fun k => k = w4.heap.size) g by have hg_ := hg.out; have hSz_ := hB.out.size; have z1_ := z1.out; have z2_ := z2.out; have z3_ := z3.out; have z4_ := z4.out; have z5_ := z5.out; (try simp only); omega)
  refine (spec_l1PickInt _ _ _ [1, 2, -1, 1000000001] W0 _ g hE0.out hEg.out rfl (by decide) (by decide) hC.out).mono ?_
  rintro e w6 ⟨y, rfl, hy, hC1, hX⟩
  have hC := Hd.mk hC1; clear hC1
  have hSz0 := hB.out.size
  have hg_ := hg.out
  have z1_ := z1.out; have z2_ := z2.out; have z3_ := z3.out; have z4_ := z4.out; have z5_ := z5.out
  have b0 := Hd.mk (b0.out.fr hX (fun h => by skip; (try simp only at h); omega))
  have b1 := Hd.mk (b1.out.fr hX (fun h => by skip; (try simp only at h); omega))
  have hO := Hd.mk (Ty.O_fr hO.out hX (fun k hk hl h => by have q_ := hk; have hg_ := hg.out; (try simp only [rng] at hk); (try simp only at hk); (try simp only at h); omega))
  have hB := Hd.mk (hB.out.trans hX)
  have hz_ := hX.size
  clear hSz0 hg_ hX
  have z6 := Hd.mk hz_; clear hz_
  clear hE0 hEg
  obtain ⟨v00, v01, v02, v03, v04, v0z⟩ := blk5 b0.out
  obtain ⟨v10, v11, v12, v13, v14, v1z⟩ := blk5 b1.out
  go_wp2_with fail
  refine bodyPost_retW (v := .agg #[.int .i64 j.kind, .int .i64 y, .string j.s, .slice A3 j.list.length c3, .slice A4 j.names.length c4]) (by simp [results, Tryd.results40, go_sem, v00, v01, v02, v03, v04, v0z, v10, v11, v12, v13, v14, v1z]) rfl ?_
  intro W hW
  clear v00 v01 v02 v03 v04 v0z v10 v11 v12 v13 v14 v1z
  have z1_ := z1.out; have z2_ := z2.out; have z3_ := z3.out; have z4_ := z4.out; have z5_ := z5.out; have z6_ := z6.out
  have hSz_ := hB.out.size
  have hg_ := hg.out
  have hz_ : w6.heap.size ≤ W.heap.size := by rw [hW]; simp
  have eF : Fr w6 W (fun k => k = w2.heap.size ∨ k = w.heap.size ∨ w6.heap.size ≤ k) := by rw [hW]; (repeat (first | with_reducible refine Fr.setCell ?_ _ (fun _ => by simp <;> omega) _ | with_reducible refine Fr.alloc ?_ _ | with_reducible refine Fr.drew ?_)); exact Fr.refl _ _
  have z1_ := z1.out; have z2_ := z2.out; have z3_ := z3.out; have z4_ := z4.out; have z5_ := z5.out; have z6_ := z6.out
  have hC := Hd.mk (hC.out.fr eF (fun h => by have hg_ := hg.out; have hlt_ := hC.out.lt; (try simp only [rng] at h); (try simp only at h); omega) (fun k h => by have hg_ := hg.out; have hge_ := hC.out.ge; (try simp only [rng] at h); (try simp only at h); omega))
  have hB := Hd.mk (hB.out.then_ eF (fun k h hl => by (try simp only [rng] at h); (try simp only at h); omega))
  have b0 := Hd.mk (show Blk W (w.heap.size) #[.int .i64 j.kind, .int .i64 y, .string j.s, .slice A3 j.list.length c3, .slice A4 j.names.length c4] 27 by rw [hW]; exact ((((((b0.out.other _ (by simp <;> omega) _).set 0 (Value.int IntKind.i64 j.kind)).set 1 (Value.int IntKind.i64 y)).set 2 (Value.string j.s)).set 3 (Value.slice A3 j.list.length c3)).set 4 (Value.slice A4 j.names.length c4)))
  have b1 := Hd.mk (show Blk W (w2.heap.size) #[.int .i64 j.kind, .int .i64 y, .string j.s, .slice A3 j.list.length c3, .slice A4 j.names.length c4] 27 by rw [hW]; exact ((((((b1.out.set 1 (Value.int IntKind.i64 y)).other _ (by simp <;> omega) _).other _ (by simp <;> omega) _).other _ (by simp <;> omega) _).other _ (by simp <;> omega) _).other _ (by simp <;> omega) _))
  have hO := Hd.mk (Ty.O_fr hO.out eF (fun k hk hl h => by have q_ := hk; have hg_ := hg.out; (try simp only [rng] at hk); (try simp only at hk); (try simp only at h); omega))
  clear hW eF
  have z7 := Hd.mk hz_; clear hz_
  exact ⟨⟨j.kind, y, j.s, j.list, j.names⟩, [Value.int IntKind.i64 j.kind, .int .i64 y, .string j.s, .slice A3 j.list.length c3, .slice A4 j.names.length c4], rfl, fun m => by rw [bulk_kn]; have := HBK.out m; omega, (tJ_le (show 4 ≤ 9 by decide)).O _ _ _ _ (Ty.O_mono _ (fun q h => by have h1 := h.1; omega) (O_fld hO.out j.kind y j.s (O_ssz hO.out))), hC.out, hB.out⟩
 ·have v00 : w4.cell? ⟨w.heap.size, 0, none⟩ = some (.int .i64 0) := b0.out.cell 0 rfl
  have v01 : w4.cell? ⟨w.heap.size, 1, none⟩ = some (.int .i64 0) := b0.out.cell 1 rfl
  have v02 : w4.cell? ⟨w.heap.size, 2, none⟩ = some (.string ⟨#[]⟩) := b0.out.cell 2 rfl
  have v03 : w4.cell? ⟨w.heap.size, 3, none⟩ = some (.slice none 0 0) := b0.out.cell 3 rfl
  have v04 : w4.cell? ⟨w.heap.size, 4, none⟩ = some (.slice none 0 0) := b0.out.cell 4 rfl
  have v0z := b0.out.frozen
  obtain ⟨v10, v11, v12, v13, v14, v1z⟩ := blk5 b1.out
  go_wp2_with fail
  clear v00 v01 v02 v03 v04 v0z v10 v11 v12 v13 v14 v1z
  apply calls_gen; intro W5 hW
  have hE0 := Hd.mk (show str.R 9 W5 (fun k => k = w4.heap.size) (.slice (some ⟨w4.heap.size, 0, none⟩) 3 3) [⟨#[120]⟩, ⟨#[1]⟩, ⟨#[127]⟩] by rw [hW]; exact R_strs (W0 := w4) [⟨#[120]⟩, ⟨#[1]⟩, ⟨#[127]⟩] (by decide) (by decide))
  have hz_ : w4.heap.size + 1 ≤ W5.heap.size := by rw [hW]; simp
  have hE : Below w4.heap.size w4 W5 := by rw [hW]; (repeat (first | with_reducible refine below_alloc ?_ _ | with_reducible refine below_drew ?_)); exact Below.refl _ _
  have hB := Hd.mk (hB.out.trans (Fr.of_below hE _))
  have hC := Hd.mk (hC.out.below hE)
  have b0 := b0.dn hE
  have b1 := b1.dn hE
  have hO := hO.ob hE
  clear hW hE
  have z5 := Hd.mk hz_; clear hz_
  have hEg := Hd.mk (show ¬ (fun k => k = w4.heap.size) g by have hg_ := hg.out; have hSz_ := hB.out.size; have z1_ := z1.out; have z2_ := z2.out; have z3_ := z3.out; have z4_ := z4.out; have z5_ := z5.out; (try simp only); omega)
  refine (spec_l1Pick _ _ _ [⟨#[120]⟩, ⟨#[1]⟩, ⟨#[127]⟩] W0 _ g hE0.out hEg.out rfl (by decide) (by decide) hC.out).mono ?_
  rintro e w6 ⟨y, rfl, hy, hC1, hX⟩
  have hC := Hd.mk hC1; clear hC1
  have hSz0 := hB.out.size
  have hg_ := hg.out
  have z1_ := z1.out; have z2_ := z2.out; have z3_ := z3.out; have z4_ := z4.out; have z5_ := z5.out
  have b0 := Hd.mk (b0.out.fr hX (fun h => by skip; (try simp only at h); omega))
  have b1 := Hd.mk (b1.out.fr hX (fun h => by skip; (try simp only at h); omega))
  have hO := Hd.mk (Ty.O_fr hO.out hX (fun k hk hl h => by have q_ := hk; have hg_ := hg.out; (try simp only [rng] at hk); (try simp only at hk); (try simp only at h); omega))
  have hB := Hd.mk (hB.out.trans hX)
  have hz_ := hX.size
  clear hSz0 hg_ hX
  have z6 := Hd.mk hz_; clear hz_
  clear hE0 hEg
  have hy6 : y.size ≤ 60 := (show ∀ s ∈ ([⟨#[120]⟩, ⟨#[1]⟩, ⟨#[127]⟩] : List ByteArray), s.size ≤ 60 by decide) y hy
  clear hy
  obtain ⟨v00, v01, v02, v03, v04, v0z⟩ := blk5 b0.out
  obtain ⟨v10, v11, v12, v13, v14, v1z⟩ := blk5 b1.out
  go_wp2_with fail
  refine bodyPost_retW (v := .agg #[.int .i64 j.kind, .int .i64 j.n, .string y, .slice A3 j.list.length c3, .slice A4 j.names.length c4]) (by simp [results, Tryd.results40, go_sem, v00, v01, v02, v03, v04, v0z, v10, v11, v12, v13, v14, v1z]) rfl ?_
  intro W hW
  clear v00 v01 v02 v03 v04 v0z v10 v11 v12 v13 v14 v1z
  have z1_ := z1.out; have z2_ := z2.out; have z3_ := z3.out; have z4_ := z4.out; have z5_ := z5.out; have z6_ := z6.out
  have hSz_ := hB.out.size
  have hg_ := hg.out
  have hz_ : w6.heap.size ≤ W.heap.size := by rw [hW]; simp
  have eF : Fr w6 W (fun k => k = w2.heap.size ∨ k = w.heap.size ∨ w6.heap.size ≤ k) := by rw [hW]; (repeat (first | with_reducible refine Fr.setCell ?_ _ (fun _ => by simp <;> omega) _ | with_reducible refine Fr.alloc ?_ _ | with_reducible refine Fr.drew ?_)); exact Fr.refl _ _
  have z1_ := z1.out; have z2_ := z2.out; have z3_ := z3.out; have z4_ := z4.out; have z5_ := z5.out; have z6_ := z6.out
  have hC := Hd.mk (hC.out.fr eF (fun h => by have hg_ := hg.out; have hlt_ := hC.out.lt; (try simp only [rng] at h); (try simp only at h); omega) (fun k h => by have hg_ := hg.out; have hge_ := hC.out.ge; (try simp only [rng] at h); (try simp only at h); omega))
  have hB := Hd.mk (hB.out.then_ eF (fun k h hl => by (try simp only [rng] at h); (try simp only at h); omega))
  have b0 := Hd.mk (show Blk W (w.heap.size) #[.int .i64 j.kind, .int .i64 j.n, .string y, .slice A3 j.list.length c3, .slice A4 j.names.length c4] 27 by rw [hW]; exact ((((((b0.out.other _ (by simp <;> omega) _).set 0 (Value.int IntKind.i64 j.kind)).set 1 (Value.int IntKind.i64 j.n)).set 2 (Value.string y)).set 3 (Value.slice A3 j.list.length c3)).set 4 (Value.slice A4 j.names.length c4)))
  have b1 := Hd.mk (show Blk W (w2.heap.size) #[.int .i64 j.kind, .int .i64 j.n, .string y, .slice A3 j.list.length c3, .slice A4 j.names.length c4] 27 by rw [hW]; exact ((((((b1.out.set 2 (Value.string y)).other _ (by simp <;> omega) _).other _ (by simp <;> omega) _).other _ (by simp <;> omega) _).other _ (by simp <;> omega) _).other _ (by simp <;> omega) _))
  have hO := Hd.mk (Ty.O_fr hO.out eF (fun k hk hl h => by have q_ := hk; have hg_ := hg.out; (try simp only [rng] at hk); (try simp only at hk); (try simp only at h); omega))
  clear hW eF
  have z7 := Hd.mk hz_; clear hz_
  exact ⟨⟨j.kind, j.n, y, j.list, j.names⟩, [Value.int IntKind.i64 j.kind, .int .i64 j.n, .string y, .slice A3 j.list.length c3, .slice A4 j.names.length c4], rfl, fun m => by have h1 := bulk_sJ m j.kind j.n y j; have := HBK.out m; omega, (tJ_le (show 4 ≤ 9 by decide)).O _ _ _ _ (Ty.O_mono _ (fun q h => by have h1 := h.1; omega) (O_fld hO.out j.kind j.n y (by omega))), hC.out, hB.out⟩
 ·obtain ⟨v3, v4, T3, T4, e_, hs_, hr3, hr4, t3, t4, t34⟩ := tJ_O.1 hO.out
  simp only [List.cons.injEq, and_true, true_and] at e_
  obtain ⟨rfl, rfl⟩ := e_
  have hL3 := Hd.mk (show (tJ 3).R 27 w4 T3 _ j.list from hr3)
  have hN4 := Hd.mk hr4
  have hT3 := Hd.mk t3
  have hT34 := Hd.mk t34
  have hs_ := Hd.mk hs_
  have hT4 := Hd.mk (show ∀ q, T4 q → W1.heap.size ≤ q ∧ q < w2.heap.size from t4)
  clear hr3 hr4 t3 t4 t34
  have hE0 := Hd.mk (R_strs (W0 := w4) [⟨#[97]⟩] (by decide) (by decide))
  simp only [List.map_cons, List.map_nil, List.length_cons, List.length_nil] at hE0
  have z1_ := z1.out; have z2_ := z2.out; have z3_ := z3.out; have z4_ := z4.out
  have hWl_ := hWl.out
  have hPW_ := hPW.out
  obtain ⟨v00, v01, v02, v03, v04, v0z⟩ := blk5 b0.out
  obtain ⟨v10, v11, v12, v13, v14, v1z⟩ := blk5 b1.out
  go_wp2_with (at_builtin; refine append_str rfl _ _ 25 9 (.string ByteArray.empty) 16 rfl Tryd.underlying25 info_str rfl (by decide) (S := fun q => T4 q ∧ q < w4.heap.size) (S' := (fun q => T4 q ∨ w4.heap.size ≤ q)) (v := .slice A4 j.names.length c4) (xs := j.names) (ys := [⟨#[97]⟩]) (A := some ⟨w4.heap.size, 0, none⟩) (c := 1) rfl rfl (R_below (R_bound hN4.out) (below_alloc (Below.refl _ _) _)) (R_Cv hE0.out) (fun q h => .inl h.1) (fun q h => .inr (by simp at h; omega)) (by simp; omega) (fun v2 w5 hv2 hX0 => ?_); obtain ⟨l2, hl2⟩ : ∃ z, z = j.names ++ [⟨#[97]⟩] := ⟨_, rfl⟩; rw [← hl2] at hv2; have HL2 := Hd.mk hl2; clear hl2; obtain ⟨A5, c5, hv2e, hc5, _⟩ := R_C hv2; subst hv2e; have hX := (Fr.of_below (below_alloc (Below.refl w4.heap.size w4) _) _).trans hX0; have Yb0 := b0.out.fr hX (fun h => by have q_ := hT4.out _ h.1; (try simp only at q_); omega); have yb0_0 := Yb0.cell 0 rfl; have yb0_1 := Yb0.cell 1 rfl; have yb0_2 := Yb0.cell 2 rfl; have yb0_3 := Yb0.cell 3 rfl; have yb0_4 := Yb0.cell 4 rfl; have yb0_z := Yb0.frozen; have Yb1 := b1.out.fr hX (fun h => by have q_ := hT4.out _ h.1; (try simp only at q_); omega); have yb1_0 := Yb1.cell 0 rfl; have yb1_1 := Yb1.cell 1 rfl; have yb1_2 := Yb1.cell 2 rfl; have yb1_3 := Yb1.cell 3 rfl; have yb1_4 := Yb1.cell 4 rfl; have yb1_z := Yb1.frozen)
  clear v00 v01 v02 v03 v04 v0z v10 v11 v12 v13 v14 v1z
  refine bodyPost_retW (v := .agg #[.int .i64 j.kind, .int .i64 j.n, .string j.s, .slice A3 j.list.length c3, .slice A5 l2.length c5]) (by simp [results, Tryd.results40, go_sem, yb0_0, yb0_1, yb0_2, yb0_3, yb0_4, yb0_z, yb1_0, yb1_1, yb1_2, yb1_3, yb1_4, yb1_z]) rfl ?_
  intro W hW
  clear Yb0 yb0_0 yb0_1 yb0_2 yb0_3 yb0_4 yb0_z Yb1 yb1_0 yb1_1 yb1_2 yb1_3 yb1_4 yb1_z
  clear hX0 hE0 hN4 hO
  have hN := Hd.mk hv2; clear hv2
  have hL3 := Hd.mk (R_fr hL3.out hX (fun k hk _ h => hT34.out k hk h.1))
  have z1_ := z1.out; have z2_ := z2.out; have z3_ := z3.out; have z4_ := z4.out
  have hSz := hB.out.size
  have b0 := Hd.mk (b0.out.fr hX (fun h => by have hlt_ := b0.out.lt; have q_ := hT4.out _ h.1; (try simp only at q_); (try simp only [rng] at h); (try simp only at h); omega))
  have b1 := Hd.mk (b1.out.fr hX (fun h => by have hlt_ := b1.out.lt; have q_ := hT4.out _ h.1; (try simp only at q_); (try simp only [rng] at h); (try simp only at h); omega))
  have hC := Hd.mk (hC.out.fr hX (fun h => by have hg_ := hg.out; have hlt_ := hC.out.lt; have q_ := hT4.out _ h.1; (try simp only [rng] at h); (try simp only at h); omega) (fun k h => by have hg_ := hg.out; have hge_ := hC.out.ge; have q_ := hT4.out _ h.1; (try simp only [rng] at h); (try simp only at h); omega))
  have hB := Hd.mk (hB.out.then_ hX (fun k h hl => by have q_ := hT4.out _ h.1; (try simp only [rng] at h); (try simp only at h); omega))
  have hz_ := hX.size
  clear hX
  have z5 := Hd.mk hz_; clear hz_
  have z1_ := z1.out; have z2_ := z2.out; have z3_ := z3.out; have z4_ := z4.out; have z5_ := z5.out
  have hSz_ := hB.out.size
  have hg_ := hg.out
  have hN := Hd.mk (R_bound hN.out)
  have hz_ : w5.heap.size ≤ W.heap.size := by rw [hW]; simp
  have eF : Fr w5 W (fun k => k = w2.heap.size ∨ k = w.heap.size ∨ w5.heap.size ≤ k) := by rw [hW]; (repeat (first | with_reducible refine Fr.setCell ?_ _ (fun _ => by simp <;> omega) _ | with_reducible refine Fr.alloc ?_ _ | with_reducible refine Fr.drew ?_)); exact Fr.refl _ _
  have z1_ := z1.out; have z2_ := z2.out; have z3_ := z3.out; have z4_ := z4.out; have z5_ := z5.out
  have hC := Hd.mk (hC.out.fr eF (fun h => by have hg_ := hg.out; have hlt_ := hC.out.lt; (try simp only [rng] at h); (try simp only at h); omega) (fun k h => by have hg_ := hg.out; have hge_ := hC.out.ge; (try simp only [rng] at h); (try simp only at h); omega))
  have hB := Hd.mk (hB.out.then_ eF (fun k h hl => by (try simp only [rng] at h); (try simp only at h); omega))
  have b0 := Hd.mk (show Blk W (w.heap.size) #[.int .i64 j.kind, .int .i64 j.n, .string j.s, .slice A3 j.list.length c3, .slice A5 l2.length c5] 27 by rw [hW]; exact ((((((b0.out.other _ (by simp <;> omega) _).set 0 (Value.int IntKind.i64 j.kind)).set 1 (Value.int IntKind.i64 j.n)).set 2 (Value.string j.s)).set 3 (Value.slice A3 j.list.length c3)).set 4 (Value.slice A5 l2.length c5)))
  have b1 := Hd.mk (show Blk W (w2.heap.size) #[.int .i64 j.kind, .int .i64 j.n, .string j.s, .slice A3 j.list.length c3, .slice A5 l2.length c5] 27 by rw [hW]; exact ((((((b1.out.set 4 (Value.slice A5 l2.length c5)).other _ (by simp <;> omega) _).other _ (by simp <;> omega) _).other _ (by simp <;> omega) _).other _ (by simp <;> omega) _).other _ (by simp <;> omega) _))
  have hL3 := Hd.mk (R_fr hL3.out eF (fun k hk hl h => by have q_ := hT3.out k hk; (try simp only [rng] at q_); (try simp only [rng] at hk); (try simp only at hk); (try simp only at h); omega))
  have hN := Hd.mk (R_fr hN.out eF (fun k hk hl h => by have q_ := hk.2; (rcases hk.1 with hk1 | hk1); have q2_ := hT4.out k hk1; omega; (try simp only [rng] at hk); (try simp only at hk); (try simp only at h); omega))
  clear hW eF
  have z6 := Hd.mk hz_; clear hz_
  have hs2 := hs_.out
  refine ⟨⟨j.kind, j.n, j.s, j.list, l2⟩, [Value.int IntKind.i64 j.kind, .int .i64 j.n, .string j.s, .slice A3 j.list.length c3, .slice A5 l2.length c5], rfl, fun m => ?_, (tJ_le (show 4 ≤ 9 by decide)).O _ _ _ _ (tJ_O.2 ⟨_, _, T3, fun q => (fun q => T4 q ∨ w4.heap.size ≤ q) q ∧ q < w5.heap.size, rfl, hs2, hL3.out, hN.out, fun q h => ?_, fun q h => ?_, fun q h h2 => ?_⟩), hC.out, hB.out⟩
  ·rw [HL2.out]; have h1 := bulk_n m ⟨#[97]⟩ j; have h2 := HBK.out m; have h3 : ByteArray.size ⟨#[97]⟩ = 1 := rfl; omega
  ·have h1 := (hT3.out q h).1; omega
  ·rcases h.1 with h1 | h1
   ·have h2 := hT4.out q h1; omega
   ·omega
  ·rcases h2.1 with h1 | h1
   ·exact hT34.out q h h1
   ·have h3 := (hT3.out q h).2; omega
 ·have v00 : w4.cell? ⟨w.heap.size, 0, none⟩ = some (.int .i64 0) := b0.out.cell 0 rfl
  have v01 : w4.cell? ⟨w.heap.size, 1, none⟩ = some (.int .i64 0) := b0.out.cell 1 rfl
  have v02 : w4.cell? ⟨w.heap.size, 2, none⟩ = some (.string ⟨#[]⟩) := b0.out.cell 2 rfl
  have v03 : w4.cell? ⟨w.heap.size, 3, none⟩ = some (.slice none 0 0) := b0.out.cell 3 rfl
  have v04 : w4.cell? ⟨w.heap.size, 4, none⟩ = some (.slice none 0 0) := b0.out.cell 4 rfl
  have v0z := b0.out.frozen
  obtain ⟨v10, v11, v12, v13, v14, v1z⟩ := blk5 b1.out
  go_wp2_with fail
  clear v00 v01 v02 v03 v04 v0z v10 v11 v12 v13 v14 v1z
  have z1_ := z1.out; have z2_ := z2.out; have z3_ := z3.out; have z4_ := z4.out
  have hPW_ := hPW.out
  have hWl_ := hWl.out
  have hO2 := Hd.mk (show (tJ 4).O w4 (fun q => w.heap.size ≤ q ∧ q ≠ w.heap.size ∧ q ≠ w2.heap.size) j _ from Ty.O_mono _ (fun q h => by have h1 := h.1; have h2 := h.2; exact ⟨by omega, by omega, by omega⟩) hO.out)
  clear z1_ z2_ z3_ z4_
  go_loopw [4] (fun i wr => ∃ (k : Nat) (j : J) (A3 A4 : Option Addr) (c3 c4 : Nat), i = .int .i64 k ∧ k ≤ 5 ∧ Hd (∀ m, bulkJ m j ≤ 26350 + k) ∧ Hd (Blk wr w.heap.size #[.int .i64 0, .int .i64 0, .string ⟨#[]⟩, .slice none 0 0, .slice none 0 0] 27) ∧ Hd (Blk wr (w2.heap.size) #[.int .i64 j.kind, .int .i64 j.n, .string j.s, .slice A3 j.list.length c3, .slice A4 j.names.length c4] 27) ∧ Hd ((tJ (k + 4)).O wr (fun q => w.heap.size ≤ q ∧ q ≠ w.heap.size ∧ q ≠ w2.heap.size) j [Value.int IntKind.i64 j.kind, .int .i64 j.n, .string j.s, .slice A3 j.list.length c3, .slice A4 j.names.length c4]) ∧ Hd (Cur W0 wr g) ∧ Hd (Fr w wr (fun k => k = g)) ∧ Hd (w4.heap.size ≤ wr.heap.size)) (fun i _ => 5 - (intOf i).toNat)
  case atStart => exact ⟨0, j, A3, A4, c3, c4, rfl, Nat.zero_le _, HBK, b0, b1, hO2, hC, hB, ⟨Nat.le_refl _⟩⟩
  case round =>
   clear b0 b1 hB hC hO hO2 HBK hn4
   obtain ⟨k, j, A3, A4, c3, c4, rfl, hk5, HBK, b0, b1, hO, hC, hB, hzw⟩ := hrel
   have hk0 : (0 : Int) ≤ (k : Int) := by omega
   by_cases hlt : (k : Int) < 5
   ·have z1_ := z1.out; have z2_ := z2.out; have z3_ := z3.out; have z4_ := z4.out; have hzw_ := hzw.out
    have hne_ : ¬ w2.heap.size = wr.heap.size := by omega
    have hlt_ : w2.heap.size < wr.heap.size := by omega
    have hne2_ : ¬ wr.heap.size = w2.heap.size := by omega
    have key : ∀ W, W = (((((wr.setCell ⟨w2.heap.size, 0, none⟩ (Value.int IntKind.i64 4)).setCell ⟨w2.heap.size, 1, none⟩ (Value.int IntKind.i64 0)).setCell ⟨w2.heap.size, 2, none⟩ (Value.string ⟨#[]⟩)).setCell ⟨w2.heap.size, 3, none⟩ (Value.slice (some ⟨wr.heap.size, 0, none⟩) 1 1)).setCell ⟨w2.heap.size, 4, none⟩ (Value.slice none 0 0)).alloc (.cells #[.int .i64 j.kind, .int .i64 j.n, .string j.s, .slice A3 j.list.length c3, .slice A4 j.names.length c4] 27) → ∃ (k1 : Nat) (j : J) (A3 A4 : Option Addr) (c3 c4 : Nat), (Value.int IntKind.i64 ((k : Int) + 1) : Value) = .int .i64 k1 ∧ k1 ≤ 5 ∧ Hd (∀ m, bulkJ m j ≤ 26350 + k1) ∧ Hd (Blk W w.heap.size #[.int .i64 0, .int .i64 0, .string ⟨#[]⟩, .slice none 0 0, .slice none 0 0] 27) ∧ Hd (Blk W (w2.heap.size) #[.int .i64 j.kind, .int .i64 j.n, .string j.s, .slice A3 j.list.length c3, .slice A4 j.names.length c4] 27) ∧ Hd ((tJ (k1 + 4)).O W (fun q => w.heap.size ≤ q ∧ q ≠ w.heap.size ∧ q ≠ w2.heap.size) j [Value.int IntKind.i64 j.kind, .int .i64 j.n, .string j.s, .slice A3 j.list.length c3, .slice A4 j.names.length c4]) ∧ Hd (Cur W0 W g) ∧ Hd (Fr w W (fun k => k = g)) ∧ Hd (w4.heap.size ≤ W.heap.size) := by
     intro W hW
     obtain ⟨W2, hW2⟩ : ∃ W2, W2 = (((((wr.setCell ⟨w2.heap.size, 0, none⟩ (Value.int IntKind.i64 4)).setCell ⟨w2.heap.size, 1, none⟩ (Value.int IntKind.i64 0)).setCell ⟨w2.heap.size, 2, none⟩ (Value.string ⟨#[]⟩)).setCell ⟨w2.heap.size, 3, none⟩ (Value.slice (some ⟨wr.heap.size, 0, none⟩) 1 1)).setCell ⟨w2.heap.size, 4, none⟩ (Value.slice none 0 0)) := ⟨_, rfl⟩
     have eF2 : Fr wr W2 (fun q => q = w2.heap.size) := by rw [hW2]; (repeat (first | with_reducible refine Fr.setCell (S := fun q => q = w2.heap.size) ?_ _ (fun _ => rfl) _)); exact Fr.refl _ _
     have hO5 := Ty.O_fr hO.out eF2 (fun q hq _ h => by have h : q = w2.heap.size := h; exact hq.2.2 h)
     have hO6 := O_one5 hO5 rfl (show W2.heap.size = wr.heap.size by rw [hW2]; simp)
     rw [hW2] at hO6
     replace hO6 := Hd.mk (show (tJ (k + 5)).O W _ _ _ by rw [hW]; exact hO6)
     clear hO5 eF2 hW2 W2
     have hz_ : wr.heap.size + 1 ≤ W.heap.size := by rw [hW]; simp
     have eF : Fr wr W (fun k => k = w2.heap.size ∨ wr.heap.size ≤ k) := by rw [hW]; (repeat (first | with_reducible refine Fr.setCell ?_ _ (fun _ => by simp <;> omega) _ | with_reducible refine Fr.alloc ?_ _ | with_reducible refine Fr.drew ?_)); exact Fr.refl _ _
     have z1_ := z1.out; have z2_ := z2.out; have z3_ := z3.out; have z4_ := z4.out; have hzw_ := hzw.out
     have hC := Hd.mk (hC.out.fr eF (fun h => by have hg_ := hg.out; have hlt_ := hC.out.lt; (try simp only [rng] at h); (try simp only at h); omega) (fun k h => by have hg_ := hg.out; have hge_ := hC.out.ge; (try simp only [rng] at h); (try simp only at h); omega))
     have hB := Hd.mk (hB.out.then_ eF (fun k h hl => by (try simp only [rng] at h); (try simp only at h); omega))
     have b0 := Hd.mk (b0.out.fr eF (fun h => by have hlt_ := b0.out.lt; (try simp only at h); omega))
     have b1 := Hd.mk (show Blk W (w2.heap.size) #[.int .i64 4, .int .i64 0, .string ⟨#[]⟩, .slice (some ⟨wr.heap.size, 0, none⟩) 1 1, .slice none 0 0] 27 by rw [hW]; exact ((((((b1.out.set 0 (Value.int IntKind.i64 4)).set 1 (Value.int IntKind.i64 0)).set 2 (Value.string ⟨#[]⟩)).set 3 (Value.slice (some ⟨wr.heap.size, 0, none⟩) 1 1)).set 4 (Value.slice none 0 0)).alloc _))
     clear hW eF
     have z5 := Hd.mk hz_; clear hz_
     exact ⟨k + 1, ⟨4, 0, ⟨#[]⟩, [j], []⟩, _, _, _, _, by go_num, by omega, ⟨fun m => bulk_one1 HBK.out m⟩, b0, b1, ⟨Ty.O_mono _ (fun q h => by rcases h with h | h; exact h.1; exact ⟨by omega, by omega, by omega⟩) hO6.out⟩, hC, hB, ⟨by have z1_ := z1.out; have z2_ := z2.out; have z3_ := z3.out; have z4_ := z4.out; have hzw_ := hzw.out; have z5_ := z5.out; omega⟩⟩
    obtain ⟨v00, v01, v02, v03, v04, v0z⟩ := blk5 b0.out
    obtain ⟨v10, v11, v12, v13, v14, v1z⟩ := blk5 b1.out
    go_wp2_with fail
    clear v00 v01 v02 v03 v04 v0z v10 v11 v12 v13 v14 v1z
    go_roundw
    case rel => exact key _ rfl
    case measure => simp [intOf]; omega
   ·obtain rfl : k = 5 := by omega
    obtain ⟨v00, v01, v02, v03, v04, v0z⟩ := blk5 b0.out
    obtain ⟨v10, v11, v12, v13, v14, v1z⟩ := blk5 b1.out
    go_wp2_with fail
    refine bodyPost_retW (v := .agg #[.int .i64 j.kind, .int .i64 j.n, .string j.s, .slice A3 j.list.length c3, .slice A4 j.names.length c4]) (by simp [results, Tryd.results40, go_sem, v00, v01, v02, v03, v04, v0z, v10, v11, v12, v13, v14, v1z]) rfl ?_
    intro W hW
    clear v00 v01 v02 v03 v04 v0z v10 v11 v12 v13 v14 v1z
    have z1_ := z1.out; have z2_ := z2.out; have z3_ := z3.out; have z4_ := z4.out; have hzw_ := hzw.out
    have hSz_ := hB.out.size
    have hg_ := hg.out
    have hz_ : wr.heap.size ≤ W.heap.size := by rw [hW]; simp
    have eF : Fr wr W (fun k => k = w.heap.size ∨ wr.heap.size ≤ k) := by rw [hW]; (repeat (first | with_reducible refine Fr.setCell ?_ _ (fun _ => by simp <;> omega) _ | with_reducible refine Fr.alloc ?_ _ | with_reducible refine Fr.drew ?_)); exact Fr.refl _ _
    have z1_ := z1.out; have z2_ := z2.out; have z3_ := z3.out; have z4_ := z4.out; have hzw_ := hzw.out
    have hC := Hd.mk (hC.out.fr eF (fun h => by have hg_ := hg.out; have hlt_ := hC.out.lt; (try simp only [rng] at h); (try simp only at h); omega) (fun k h => by have hg_ := hg.out; have hge_ := hC.out.ge; (try simp only [rng] at h); (try simp only at h); omega))
    have hB := Hd.mk (hB.out.then_ eF (fun k h hl => by (try simp only [rng] at h); (try simp only at h); omega))
    have b0 := Hd.mk (show Blk W (w.heap.size) #[.int .i64 j.kind, .int .i64 j.n, .string j.s, .slice A3 j.list.length c3, .slice A4 j.names.length c4] 27 by rw [hW]; exact (Blk.all b0.out [Value.int IntKind.i64 j.kind, .int .i64 j.n, .string j.s, .slice A3 j.list.length c3, .slice A4 j.names.length c4] rfl))
    have b1 := Hd.mk (b1.out.fr eF (fun h => by have hlt_ := b1.out.lt; (try simp only at h); omega))
    have hO := Hd.mk (Ty.O_fr hO.out eF (fun k hk hl h => by have q_ := hk; (try simp only [rng] at hk); (try simp only at hk); (try simp only at h); omega))
    clear hW eF
    have z5 := Hd.mk hz_; clear hz_
    exact ⟨j, [Value.int IntKind.i64 j.kind, .int .i64 j.n, .string j.s, .slice A3 j.list.length c3, .slice A4 j.names.length c4], rfl, fun m => by have := HBK.out m; omega, (tJ_le (show 9 ≤ 9 by decide)).O _ _ _ _ (Ty.O_mono _ (fun q h => by have h1 := h.1; omega) (hO.out)), hC.out, hB.out⟩
 ·have v00 : w4.cell? ⟨w.heap.size, 0, none⟩ = some (.int .i64 0) := b0.out.cell 0 rfl
  have v01 : w4.cell? ⟨w.heap.size, 1, none⟩ = some (.int .i64 0) := b0.out.cell 1 rfl
  have v02 : w4.cell? ⟨w.heap.size, 2, none⟩ = some (.string ⟨#[]⟩) := b0.out.cell 2 rfl
  have v03 : w4.cell? ⟨w.heap.size, 3, none⟩ = some (.slice none 0 0) := b0.out.cell 3 rfl
  have v04 : w4.cell? ⟨w.heap.size, 4, none⟩ = some (.slice none 0 0) := b0.out.cell 4 rfl
  have v0z := b0.out.frozen
  obtain ⟨v10, v11, v12, v13, v14, v1z⟩ := blk5 b1.out
  go_wp2_with fail
  clear v00 v01 v02 v03 v04 v0z v10 v11 v12 v13 v14 v1z
  refine (spec_l1Below 2 W0 _ g hC.out).mono ?_
  rintro e w5 ⟨y, rfl, y0, y1, _, hC1, hX⟩
  have hC := Hd.mk hC1; clear hC1
  have hSz0 := hB.out.size
  have hg_ := hg.out
  have z1_ := z1.out; have z2_ := z2.out; have z3_ := z3.out; have z4_ := z4.out
  have b0 := Hd.mk (b0.out.fr hX (fun h => by skip; (try simp only at h); omega))
  have b1 := Hd.mk (b1.out.fr hX (fun h => by skip; (try simp only at h); omega))
  have hO := Hd.mk (Ty.O_fr hO.out hX (fun k hk hl h => by have q_ := hk; have hg_ := hg.out; (try simp only [rng] at hk); (try simp only at hk); (try simp only at h); omega))
  have hB := Hd.mk (hB.out.trans hX)
  have hz_ := hX.size
  clear hSz0 hg_ hX
  have z5 := Hd.mk hz_; clear hz_
  replace y1 := y1 (by omega)
  obtain ⟨u, hu⟩ : ∃ u : Nat, y = (u : Int) := ⟨y.toNat, by omega⟩
  subst hu
  clear y0
  obtain ⟨m, hm⟩ : ∃ m : Nat, m = 399 + u := ⟨_, rfl⟩
  have hmi : (399 : Int) + (u : Int) = (m : Int) := by omega
  have hm4 : m ≤ 400 := by omega
  clear hm
  have hmk := make_eq (P := Tryd.prog) 24 27 (.agg #[.int .i64 0, .int .i64 0, .string ByteArray.empty, .slice none 0 0, .slice none 0 0]) 5 80 Tryd.underlying24 info_JsonS m (by omega) (by omega)
  clear hO
  have z1_ := z1.out; have z2_ := z2.out; have z3_ := z3.out; have z4_ := z4.out; have z5_ := z5.out
  have hPW_ := hPW.out
  have hne_ : ¬ w2.heap.size = w5.heap.size := by omega
  have hlt_ : w2.heap.size < w5.heap.size := by omega
  have hne2_ : ¬ w5.heap.size = w2.heap.size := by omega
  have hne3_ : ¬ w.heap.size = w5.heap.size := by omega
  have hlt3_ : w.heap.size < w5.heap.size := by omega
  have hne4_ : ¬ w5.heap.size = w.heap.size := by omega
  obtain ⟨v00, v01, v02, v03, v04, v0z⟩ := blk5 b0.out
  obtain ⟨v10, v11, v12, v13, v14, v1z⟩ := blk5 b1.out
  go_wp2_with fail
  refine bodyPost_retW (v := .agg #[.int .i64 4, .int .i64 0, .string ⟨#[]⟩, .slice (some ⟨w5.heap.size, 0, none⟩) m m, .slice none 0 0]) (by simp [results, Tryd.results40, go_sem, v00, v01, v02, v03, v04, v0z, v10, v11, v12, v13, v14, v1z, hne_, hlt_, hne2_, hne3_, hlt3_, hne4_]) rfl ?_
  intro W hW
  clear v00 v01 v02 v03 v04 v0z v10 v11 v12 v13 v14 v1z
  obtain ⟨W2, hW2⟩ : ∃ W2, W2 = ((((((((((w5.setCell ⟨w2.heap.size, 0, none⟩ (Value.int IntKind.i64 4)).setCell ⟨w2.heap.size, 1, none⟩ (Value.int IntKind.i64 0)).setCell ⟨w2.heap.size, 2, none⟩ (Value.string ⟨#[]⟩)).setCell ⟨w2.heap.size, 3, none⟩ (Value.slice (some ⟨w5.heap.size, 0, none⟩) m m)).setCell ⟨w2.heap.size, 4, none⟩ (Value.slice none 0 0)).setCell ⟨w.heap.size, 0, none⟩ (Value.int IntKind.i64 4)).setCell ⟨w.heap.size, 1, none⟩ (Value.int IntKind.i64 0)).setCell ⟨w.heap.size, 2, none⟩ (Value.string ⟨#[]⟩)).setCell ⟨w.heap.size, 3, none⟩ (Value.slice (some ⟨w5.heap.size, 0, none⟩) m m)).setCell ⟨w.heap.size, 4, none⟩ (Value.slice none 0 0)) := ⟨_, rfl⟩
  have hM0 := R_made (d := tJ 1) (e := 27) (W := W2) (z := .agg #[.int .i64 0, .int .i64 0, .string ByteArray.empty, .slice none 0 0, .slice none 0 0]) (S := fun q => q = W2.heap.size) J.null m (by rw [tJ_sz]; omega) (by omega) (tJ_sz 1).symm (fun _ w S => ZJ 0 w S) rfl
  simp only [tJ_sz, show W2.heap.size = w5.heap.size by rw [hW2]; simp] at hM0
  rw [hW2] at hM0
  replace hM0 := Hd.mk (show (tJ 1).R 27 W _ _ _ by rw [hW]; exact hM0)
  clear hW2 W2 hmk
  have hz_ : w5.heap.size + 1 ≤ W.heap.size := by rw [hW]; simp
  have eF : Fr w5 W (fun k => k = w2.heap.size ∨ k = w.heap.size ∨ w5.heap.size ≤ k) := by rw [hW]; (repeat (first | with_reducible refine Fr.setCell ?_ _ (fun _ => by simp <;> omega) _ | with_reducible refine Fr.alloc ?_ _ | with_reducible refine Fr.drew ?_)); exact Fr.refl _ _
  have z1_ := z1.out; have z2_ := z2.out; have z3_ := z3.out; have z4_ := z4.out; have z5_ := z5.out
  have hC := Hd.mk (hC.out.fr eF (fun h => by have hg_ := hg.out; have hlt_ := hC.out.lt; (try simp only [rng] at h); (try simp only at h); omega) (fun k h => by have hg_ := hg.out; have hge_ := hC.out.ge; (try simp only [rng] at h); (try simp only at h); omega))
  have hB := Hd.mk (hB.out.then_ eF (fun k h hl => by (try simp only [rng] at h); (try simp only at h); omega))
  have b0 := Hd.mk (show Blk W (w.heap.size) #[.int .i64 4, .int .i64 0, .string ⟨#[]⟩, .slice (some ⟨w5.heap.size, 0, none⟩) m m, .slice none 0 0] 27 by rw [hW]; exact (((((((((((b0.out.other _ (by simp <;> omega) _).other _ (by simp <;> omega) _).other _ (by simp <;> omega) _).other _ (by simp <;> omega) _).other _ (by simp <;> omega) _).set 0 (Value.int IntKind.i64 4)).set 1 (Value.int IntKind.i64 0)).set 2 (Value.string ⟨#[]⟩)).set 3 (Value.slice (some ⟨w5.heap.size, 0, none⟩) m m)).set 4 (Value.slice none 0 0)).alloc _))
  have b1 := Hd.mk (show Blk W (w2.heap.size) #[.int .i64 4, .int .i64 0, .string ⟨#[]⟩, .slice (some ⟨w5.heap.size, 0, none⟩) m m, .slice none 0 0] 27 by rw [hW]; exact (((((((((((b1.out.set 0 (Value.int IntKind.i64 4)).set 1 (Value.int IntKind.i64 0)).set 2 (Value.string ⟨#[]⟩)).set 3 (Value.slice (some ⟨w5.heap.size, 0, none⟩) m m)).set 4 (Value.slice none 0 0)).other _ (by simp <;> omega) _).other _ (by simp <;> omega) _).other _ (by simp <;> omega) _).other _ (by simp <;> omega) _).other _ (by simp <;> omega) _).alloc _))
  clear hW eF
  have z6 := Hd.mk hz_; clear hz_
  exact ⟨⟨4, 0, ⟨#[]⟩, List.replicate m J.null, []⟩, [Value.int IntKind.i64 4, .int .i64 0, .string ⟨#[]⟩, .slice (some ⟨w5.heap.size, 0, none⟩) m m, .slice none 0 0], rfl, fun m2 => Nat.le_trans (bulk_nulls m m2) (by omega), (tJ_le (show 2 ≤ 9 by decide)).O _ _ _ _ (tJ_O.2 ⟨_, _, fun q => q = w5.heap.size, fun _ => False, by simp, (show (⟨#[]⟩ : ByteArray).size ≤ 9223372036854775807 by decide), hM0.out, R_nil, fun q h => by have h : q = _ := h; omega, fun _ h => h.elim, fun _ _ h => h⟩), hC.out, hB.out⟩
 ·have hd_ : (x == 0) = false ∧ (x == 1) = false ∧ (x == 2) = false ∧ (x == 3) = false ∧ (x == 4) = false ∧ (x == 5) = false := ⟨by simp; omega, by simp; omega, by simp; omega, by simp; omega, by simp; omega, by simp; omega⟩
  obtain ⟨e0, e1, e2, e3, e4, e5⟩ := hd_
  have d0 : decide (x = 0) = false ∧ decide (x = 1) = false ∧ decide (x = 2) = false ∧ decide (x = 3) = false ∧ decide (x = 4) = false ∧ decide (x = 5) = false := ⟨by simp; omega, by simp; omega, by simp; omega, by simp; omega, by simp; omega, by simp; omega⟩
  obtain ⟨d0, d1, d2, d3, d4, d5⟩ := d0
  obtain ⟨v00, v01, v02, v03, v04, v0z⟩ := blk5 b0.out
  obtain ⟨v10, v11, v12, v13, v14, v1z⟩ := blk5 b1.out
  go_wp2_with fail
  refine bodyPost_retW (v := .agg #[.int .i64 j.kind, .int .i64 j.n, .string j.s, .slice A3 j.list.length c3, .slice A4 j.names.length c4]) (by simp [results, Tryd.results40, go_sem, v00, v01, v02, v03, v04, v0z, v10, v11, v12, v13, v14, v1z]) rfl ?_
  intro W hW
  clear v00 v01 v02 v03 v04 v0z v10 v11 v12 v13 v14 v1z
  have z1_ := z1.out; have z2_ := z2.out; have z3_ := z3.out; have z4_ := z4.out
  have hSz_ := hB.out.size
  have hg_ := hg.out
  have hz_ : w4.heap.size ≤ W.heap.size := by rw [hW]; simp
  have eF : Fr w4 W (fun k => k = w.heap.size ∨ w4.heap.size ≤ k) := by rw [hW]; (repeat (first | with_reducible refine Fr.setCell ?_ _ (fun _ => by simp <;> omega) _ | with_reducible refine Fr.alloc ?_ _ | with_reducible refine Fr.drew ?_)); exact Fr.refl _ _
  have z1_ := z1.out; have z2_ := z2.out; have z3_ := z3.out; have z4_ := z4.out
  have hC := Hd.mk (hC.out.fr eF (fun h => by have hg_ := hg.out; have hlt_ := hC.out.lt; (try simp only [rng] at h); (try simp only at h); omega) (fun k h => by have hg_ := hg.out; have hge_ := hC.out.ge; (try simp only [rng] at h); (try simp only at h); omega))
  have hB := Hd.mk (hB.out.then_ eF (fun k h hl => by (try simp only [rng] at h); (try simp only at h); omega))
  have b0 := Hd.mk (show Blk W (w.heap.size) #[.int .i64 j.kind, .int .i64 j.n, .string j.s, .slice A3 j.list.length c3, .slice A4 j.names.length c4] 27 by rw [hW]; exact (Blk.all b0.out [Value.int IntKind.i64 j.kind, .int .i64 j.n, .string j.s, .slice A3 j.list.length c3, .slice A4 j.names.length c4] rfl))
  have b1 := Hd.mk (b1.out.fr eF (fun h => by have hlt_ := b1.out.lt; (try simp only at h); omega))
  have hO := Hd.mk (Ty.O_fr hO.out eF (fun k hk hl h => by have q_ := hk; have hg_ := hg.out; (try simp only [rng] at hk); (try simp only at hk); (try simp only at h); omega))
  clear hW eF
  have z5 := Hd.mk hz_; clear hz_
  exact ⟨j, [Value.int IntKind.i64 j.kind, .int .i64 j.n, .string j.s, .slice A3 j.list.length c3, .slice A4 j.names.length c4], rfl, fun m => by have := HBK.out m; omega, (tJ_le (show 4 ≤ 9 by decide)).O _ _ _ _ (Ty.O_mono _ (fun q h => by have h1 := h.1; omega) (hO.out)), hC.out, hB.out⟩
end Go.Proofs.YtoaifagjdjgcbaaDoor.X
namespace Go.Proofs.YtoaifagjdjgcbaaDoor.X
open Go.Lib
set_option linter.unusedVariables false
set_option linter.unusedSimpArgs false

def isDig (c : UInt8) : Bool := decide (48 ≤ c.toNat ∧ c.toNat ≤ 57)
def stepD (x : Nat) (c : UInt8) : Nat := x * 10 + (c.toNat - 48)
def valD (l : List UInt8) : Nat := l.foldl stepD 0
theorem ofNat_dig (d : Nat) (h : d < 10) : (UInt8.ofNat (48 + d)).toNat = 48 + d := by
 rw [UInt8.toNat_ofNat']; omega
theorem isDig_ofNat (d : Nat) (h : d < 10) : isDig (UInt8.ofNat (48 + d)) = true := by
 unfold isDig
 rw [ofNat_dig d h]; simp; omega
theorem decDigits_all (u : Nat) : (decDigits u).all isDig = true := by
 induction u using Nat.strongRecOn with
 | _ u ih =>
  rw [decDigits]
  split
  ·rename_i h
   rw [List.all_cons, isDig_ofNat u h]; rfl
  ·rename_i h
   rw [List.all_append, ih (u / 10) (by omega)]
   rw [List.all_cons, isDig_ofNat (u % 10) (by omega)]; rfl
theorem decDigits_val (u : Nat) : valD (decDigits u) = u := by
 induction u using Nat.strongRecOn with
 | _ u ih =>
  rw [decDigits]
  split
  ·rename_i h
   simp only [valD, List.foldl_cons, List.foldl_nil, stepD]
   rw [ofNat_dig u h]; omega
  ·rename_i h
   have := ih (u / 10) (by omega)
   unfold valD at this ⊢
   rw [List.foldl_append, this]
   simp only [List.foldl_cons, List.foldl_nil, stepD]
   rw [ofNat_dig (u % 10) (by omega)]; omega
theorem decDigits_ne (u : Nat) : decDigits u ≠ [] := by
 rw [decDigits]
 split <;> simp
theorem decDigits_len (u k : Nat) (h : u < 10 ^ (k + 1)) : (decDigits u).length ≤ k + 1 := by
 induction k generalizing u with
 | zero =>
  rw [decDigits, dif_pos (by simpa using h)]; simp
 | succ k ih =>
  rw [decDigits]
  split
  ·simp
  ·rw [List.length_append]
   have := ih (u / 10) (by rw [Nat.pow_succ] at h; omega)
   simp only [List.length_cons, List.length_nil]; omega
theorem parse_dig : ∀ (l : List UInt8) (acc : Nat), l.all isDig = true → (acc + 1) * 10 ^ l.length ≤ 1000000000000000000 → parseUint10 acc l = .ok (l.foldl stepD acc)
 | [], acc, _, _ => rfl
 | c :: r, acc, ha, hb => by
  rw [List.all_cons, Bool.and_eq_true] at ha
  have hc : 48 ≤ c.toNat ∧ c.toNat ≤ 57 := by simpa [isDig] using ha.1
  have h1 : 0 < 10 ^ r.length := Nat.pow_pos (by omega)
  have h2 : (acc * 10 + (c.toNat - 48) + 1) * 10 ^ r.length ≤ 1000000000000000000 := by
   have h3 : (acc * 10 + (c.toNat - 48) + 1) ≤ (acc + 1) * 10 := by omega
   have h4 := Nat.mul_le_mul_right (10 ^ r.length) h3
   rw [List.length_cons, Nat.pow_succ, Nat.mul_comm (10 ^ r.length), ← Nat.mul_assoc] at hb
   omega
  have h5 : acc * 10 + (c.toNat - 48) + 1 ≤ 1000000000000000000 := Nat.le_trans (Nat.le_mul_of_pos_right _ h1) h2
  rw [parseUint10, if_pos hc, if_neg (by omega), if_neg (by omega), parse_dig r _ ha.2 h2]
  rfl
theorem valD_lt : ∀ (l : List UInt8) (acc : Nat), l.all isDig = true → l.foldl stepD acc < (acc + 1) * 10 ^ l.length
 | [], acc, _ => by simp
 | c :: r, acc, ha => by
  rw [List.all_cons, Bool.and_eq_true] at ha
  have hc : 48 ≤ c.toNat ∧ c.toNat ≤ 57 := by simpa [isDig] using ha.1
  have := valD_lt r (stepD acc c) ha.2
  have h3 : stepD acc c + 1 ≤ (acc + 1) * 10 := by unfold stepD; omega
  have h4 := Nat.mul_le_mul_right (10 ^ r.length) h3
  rw [List.length_cons, Nat.pow_succ, Nat.mul_comm (10 ^ r.length), ← Nat.mul_assoc, List.foldl_cons]
  omega
theorem atoi_dig (l : List UInt8) (hne : l ≠ []) (ha : l.all isDig = true) (hl : l.length ≤ 17) : atoiAll l = .ok (valD l) := by
 have hb : 10 ^ l.length ≤ 10 ^ 17 := Nat.pow_le_pow_right (by omega) hl
 have hp := parse_dig l 0 ha (by omega)
 have hv := valD_lt l 0 ha
 cases l with
 | nil => exact absurd rfl hne
 | cons c r =>
  have hc : 48 ≤ c.toNat ∧ c.toNat ≤ 57 := by
   rw [List.all_cons, Bool.and_eq_true] at ha
   simpa [isDig] using ha.1
  unfold atoiAll
  simp only
  rw [if_neg (by omega), parseMag, if_neg (by simp), hp]
  have e : List.foldl stepD 0 (c :: r) = valD (c :: r) := rfl
  rw [e] at hv ⊢
  simp only
  rw [if_neg (by omega), if_neg (by omega), if_neg (by omega)]
def idxI (s : List UInt8) : Int := match atoiAll s with
 | .ok n => if 0 ≤ n ∧ n ≤ 999 ∧ itoa n = s then n else -1
 | _ => -1
def idxS (s : List UInt8) : Int := if s = [] ∨ 3 < s.length then -1 else if s.all isDig then (if decDigits (valD s) = s then (valD s : Int) else -1) else -1
theorem idx_eq (s : List UInt8) : idxI s = idxS s := by
 unfold idxS
 split
 ·rename_i h
  unfold idxI
  split
  ·rename_i n hn
   split
   ·rename_i h2
    obtain ⟨h0, h9, h3⟩ := h2
    obtain ⟨u, rfl⟩ := Int.eq_ofNat_of_zero_le h0
    rw [itoa_nonneg] at h3
    have := decDigits_len u 2 (by omega)
    rw [h3] at this
    rcases h with h | h
    ·exact absurd (h3.trans h) (decDigits_ne u)
    ·omega
   ·rfl
  ·rfl
 ·rename_i h
  simp only [not_or] at h
  split
  ·rename_i ha
   have hat := atoi_dig s h.1 ha (by omega)
   have hv := valD_lt s 0 ha
   have hp : 10 ^ s.length ≤ 10 ^ 3 := Nat.pow_le_pow_right (by omega) (by omega)
   unfold idxI
   rw [hat]
   simp only
   have e : List.foldl stepD 0 s = valD s := rfl
   rw [e] at hv
   rw [itoa_nonneg]
   by_cases h2 : decDigits (valD s) = s
   ·rw [if_pos ⟨by omega, by omega, h2⟩, if_pos h2]
   ·rw [if_neg (fun x => h2 x.2.2), if_neg h2]
  ·rename_i ha
   unfold idxI
   split
   ·rename_i n hn
    split
    ·rename_i h2
     obtain ⟨h0, h9, h3⟩ := h2
     obtain ⟨u, rfl⟩ := Int.eq_ofNat_of_zero_le h0
     rw [itoa_nonneg] at h3
     rw [← h3, decDigits_all] at ha
     exact absurd rfl ha
    ·rfl
   ·rfl
theorem idxS_le (s : List UInt8) : -1 ≤ idxS s ∧ idxS s ≤ 999 := by
 rw [← idx_eq]
 unfold idxI
 split
 ·split
  ·omega
  ·omega
 ·omega
def ddig (u : Nat) : List UInt8 := if u = 0 then [] else decDigits u
theorem ddig_step (u : Nat) (h : u ≠ 0) : ddig u = ddig (u / 10) ++ [UInt8.ofNat (48 + u % 10)] := by
 unfold ddig
 rw [if_neg h, decDigits]
 split
 ·rename_i h2
  rw [if_pos (by omega), Nat.mod_eq_of_lt h2]; rfl
 ·rw [if_neg (by omega)]
end Go.Proofs.YtoaifagjdjgcbaaDoor.X
namespace Go.Proofs.YtoaifagjdjgcbaaDoor.X
open Go.RowKit Go.Sort
open Go.Lib (itoa decDigits atoiAll)
set_option linter.unusedVariables false
set_option linter.unusedSimpArgs false
open Ty
theorem itoa_zero : (⟨(itoa 0).toArray⟩ : ByteArray) = ⟨#[48]⟩ := by
 unfold itoa
 rw [if_neg (by omega), decDigits, dif_pos (by simp)]
 rfl
theorem ddig_len (u : Nat) (h : u ≤ 1000000000) : (ddig u).length ≤ 10 := by
 unfold ddig
 split
 ·simp
 ·exact decDigits_len u 9 (by omega)
theorem conv_one (W : World) (b : Int) (B : UInt8) (h : (B.toNat : Int) = b) : (convert 22 9 (.slice (some ⟨W.heap.size, 0, none⟩) 1 1)).run Tryd.prog (W.alloc (.cells #[.int .u8 b] 5)) = .ok (.string ⟨#[B]⟩) (W.alloc (.cells #[.int .u8 b] 5)) := by
 subst h
 refine run_convert_bytes_back (P := Tryd.prog) (W.alloc (.cells #[.int .u8 (B.toNat : Int)] 5)) 22 9 5 ⟨W.heap.size, 0, none⟩ 1 [B] (by kernel_rfl) (by kernel_rfl) (by kernel_rfl) (fun j hj => ?_)
 obtain rfl : j = 0 := by simpa using hj
 exact (Blk.new W #[.int .u8 (B.toNat : Int)] 5).cell 0 rfl
theorem dig_wrap (d : Nat) (h : d < 10) : wrap64 (48 + (d : Int)) % 256 = 48 + (d : Int) := by
 unfold wrap64; omega
theorem itoa_neg_ (n : Int) (h : n < 0) : (⟨(itoa n).toArray⟩ : ByteArray) = ⟨#[45]⟩ ++ ⟨(ddig n.natAbs).toArray⟩ := by
 unfold itoa ddig
 rw [if_pos h, if_neg (by omega)]
 apply ByteArray.ext
 simp
theorem itoa_pos_ (n : Int) (h : 0 < n) : itoa n = ddig n.natAbs := by
 unfold itoa ddig
 rw [if_neg (by omega), if_neg (by omega)]
 congr 1
 omega
theorem app_dig (u : Nat) (h : u ≠ 0) (s : ByteArray) (l : List UInt8) (hl : l = ddig u ++ s.data.toList) : l = ddig (u / 10) ++ ((⟨#[UInt8.ofNat (48 + u % 10)]⟩ : ByteArray) ++ s).data.toList := by
 rw [hl, ddig_step u h]; simp
theorem dig_neg (m : Int) (s : ByteArray) (l : List UInt8) (hm : m ≠ 0) (h : -1000000000 ≤ m ∧ m ≤ 0 ∧ l = ddig m.natAbs ++ s.data.toList) : ∃ (q r t b : Int) (B : UInt8), m.tdiv 10 = q ∧ m.tmod 10 = r ∧ ((r < 0 → wrap64 (-r) = t) ∧ (¬ r < 0 → r = t)) ∧ wrap64 q = q ∧ wrap64 (48 + t) % 256 = b ∧ (B.toNat : Int) = b ∧
  Hd ((-1000000000 ≤ q ∧ q ≤ 0 ∧ l = ddig q.natAbs ++ ((⟨#[B]⟩ : ByteArray) ++ s).data.toList) ∧ q.natAbs < m.natAbs) := by
 obtain ⟨h0, h1, h2⟩ := h
 obtain ⟨u, rfl⟩ : ∃ u : Nat, m = -(u : Int) := ⟨m.natAbs, by omega⟩
 have hqt : (-(u : Int)).tdiv 10 = -((u / 10 : Nat) : Int) := by rw [Int.neg_tdiv, Int.tdiv_eq_ediv_of_nonneg (by omega)]; omega
 have hrt : (-(u : Int)).tmod 10 = -((u % 10 : Nat) : Int) := by rw [Int.neg_tmod, Int.tmod_eq_emod_of_nonneg (by omega)]; omega
 have hU := app_dig u (by omega) s l (by rw [h2]; simp)
 refine ⟨_, _, ((u % 10 : Nat) : Int), _, UInt8.ofNat (48 + u % 10), hqt, hrt, ⟨fun h => by unfold wrap64; omega, fun h => by omega⟩, by unfold wrap64; omega, rfl, ?_, ⟨⟨by omega, by omega, ?_⟩, by omega⟩⟩
 ·rw [dig_wrap _ (by omega), ofNat_dig _ (by omega)]; omega
 ·rw [hU]; congr 2; omega
theorem dig_pos (m : Int) (s : ByteArray) (l : List UInt8) (hm : m ≠ 0) (h : 0 ≤ m ∧ m ≤ 1000000000 ∧ l = ddig m.natAbs ++ s.data.toList) : ∃ (q r b : Int) (B : UInt8), m.tdiv 10 = q ∧ m.tmod 10 = r ∧ ¬ r < 0 ∧ wrap64 q = q ∧ wrap64 (48 + r) % 256 = b ∧ (B.toNat : Int) = b ∧
  Hd ((0 ≤ q ∧ q ≤ 1000000000 ∧ l = ddig q.natAbs ++ ((⟨#[B]⟩ : ByteArray) ++ s).data.toList) ∧ q.natAbs < m.natAbs) := by
 obtain ⟨h0, h1, h2⟩ := h
 obtain ⟨u, rfl⟩ := Int.eq_ofNat_of_zero_le h0
 have hqt : (u : Int).tdiv 10 = ((u / 10 : Nat) : Int) := by rw [Int.tdiv_eq_ediv_of_nonneg (by omega)]; omega
 have hrt : (u : Int).tmod 10 = ((u % 10 : Nat) : Int) := by rw [Int.tmod_eq_emod_of_nonneg (by omega)]; omega
 have hU := app_dig u (by omega) s l (by rw [h2]; simp)
 refine ⟨_, _, _, UInt8.ofNat (48 + u % 10), hqt, hrt, by omega, by unfold wrap64; omega, rfl, ?_, ⟨⟨by omega, by omega, ?_⟩, by omega⟩⟩
 ·rw [dig_wrap _ (by omega), ofNat_dig _ (by omega)]; omega
 ·rw [hU]; rfl
set_option maxRecDepth 100000 in
theorem spec_l2Digits (n : Int) (w : World) (h0 : -1000000000 ≤ n) (h1 : n ≤ 1000000000) :
  Calls Tryd.prog 73 #[.int .i64 n] w fun e w' => e = .returned (.string ⟨(itoa n).toArray⟩) ∧ Below w.heap.size w w' := by
 go_enter Tryd.func73, Tryd.ntmps73
 by_cases hz : n = 0
 ·subst hz
  go_wp2_with fail
  go_ret
  exact ⟨by rw [itoa_zero]; rfl, Below.refl _ _⟩
 have HL := Hd.mk (ddig_len n.natAbs (by omega))
 have HI := Hd.mk (And.intro h0 h1); clear h0 h1
 by_cases hn : n < 0
 ·have HN := Hd.mk hn
  go_wp2_with fail
  go_loopw [0, 4, 5] (fun a o d wr => ∃ (m : Int) (s : ByteArray), a = .int .i64 m ∧ o = .string s ∧ Hd (-1000000000 ≤ m ∧ m ≤ 0 ∧ ddig n.natAbs = ddig m.natAbs ++ s.data.toList) ∧ Hd (Below w.heap.size w wr)) (fun a _ _ _ => (intOf a).natAbs)
  case atStart => exact ⟨n, ⟨#[]⟩, rfl, rfl, ⟨HI.out.1, by omega, by simp⟩, ⟨Below.refl _ _⟩⟩
  case round =>
   obtain ⟨m, s, rfl, rfl, HD, hB⟩ := hrel
   have hs : s.size ≤ 10 := by
    have h2 := congrArg List.length HD.out.2.2
    have h3 := HL.out
    rw [List.length_append, show s.data.toList.length = s.size by simp] at h2
    omega
   by_cases hm : m = 0
   ·subst hm
    go_wp2_with fail
    go_ret
    refine ⟨?_, hB.out⟩
    rw [itoa_neg_ n HN.out, HD.out.2.2]
    simp [ddig]
   ·obtain ⟨q, r, t, b, B, hqt, hrt, hw1, hw3, hw4, hb, HU⟩ := dig_neg m s _ hm HD.out
    have hc := conv_one wr b B hb; clear hb
    by_cases hr0 : r < 0
    ·have hw1 := hw1.1 hr0
     go_wp2_with fail
     rw [hw3]
     go_roundw
     case rel => exact ⟨q, _, rfl, rfl, ⟨HU.out.1⟩, ⟨below_alloc hB.out _⟩⟩
     case measure => simp only [intOf]; exact HU.out.2
    ·obtain rfl := hw1.2 hr0
     clear hw1
     go_wp2_with fail
     rw [hw3]
     go_roundw
     case rel => exact ⟨q, _, rfl, rfl, ⟨HU.out.1⟩, ⟨below_alloc hB.out _⟩⟩
     case measure => simp only [intOf]; exact HU.out.2
 ·have HN := Hd.mk hn
  go_wp2_with fail
  go_loopw [0, 4, 5] (fun a o d wr => ∃ (m : Int) (s : ByteArray), a = .int .i64 m ∧ o = .string s ∧ Hd (0 ≤ m ∧ m ≤ 1000000000 ∧ ddig n.natAbs = ddig m.natAbs ++ s.data.toList) ∧ Hd (Below w.heap.size w wr)) (fun a _ _ _ => (intOf a).natAbs)
  case atStart => exact ⟨n, ⟨#[]⟩, rfl, rfl, ⟨by omega, HI.out.2, by simp⟩, ⟨Below.refl _ _⟩⟩
  case round =>
   obtain ⟨m, s, rfl, rfl, HD, hB⟩ := hrel
   have hs : s.size ≤ 10 := by
    have h2 := congrArg List.length HD.out.2.2
    have h3 := HL.out
    rw [List.length_append, show s.data.toList.length = s.size by simp] at h2
    omega
   by_cases hm : m = 0
   ·subst hm
    go_wp2_with fail
    go_ret
    refine ⟨?_, hB.out⟩
    rw [itoa_pos_ n (by omega), HD.out.2.2]
    simp [ddig]
   ·obtain ⟨q, r, b, B, hqt, hrt, hr0, hw3, hw4, hb, HU⟩ := dig_pos m s _ hm HD.out
    have hc := conv_one wr b B hb; clear hb
    go_wp2_with fail
    rw [hw3]
    go_roundw
    case rel => exact ⟨q, _, rfl, rfl, ⟨HU.out.1⟩, ⟨below_alloc hB.out _⟩⟩
    case measure => simp only [intOf]; exact HU.out.2
theorem valD_take (l : List UInt8) (k : Nat) (hk : k < l.length) : valD (l.take (k + 1)) = valD (l.take k) * 10 + (l[k].toNat - 48) := by
 unfold valD
 rw [List.take_succ_eq_append_getElem hk, List.foldl_append]; rfl
theorem valD_le3 (l : List UInt8) (h : l.all isDig = true) (h3 : l.length ≤ 3) : valD l ≤ 999 := by
 have := valD_lt l 0 h
 have hp : 10 ^ l.length ≤ 10 ^ 3 := Nat.pow_le_pow_right (by omega) h3
 have e : List.foldl stepD 0 l = valD l := rfl
 omega
set_option maxRecDepth 100000 in
theorem spec_IndexOf (s : ByteArray) (w : World) (hs : s.size ≤ 9223372036854775807) :
  Calls Tryd.prog 38 #[.string s] w fun e w' => e = .returned (.int .i64 (idxS s.data.toList)) ∧ Below w.heap.size w w' := by
 go_enter Tryd.func38, Tryd.ntmps38
 have HE : s.toList = s.data.toList := by rw [ByteArray.toList_eq]
 cases he : (s.toList == [])
 case true =>
  have HX := Hd.mk (show idxS s.data.toList = -1 by unfold idxS; rw [if_pos (.inl (by rw [← HE]; simpa using he))])
  clear HE
  go_wp2_with fail
  go_ret
  exact ⟨by rw [HX.out]; rfl, Below.refl _ _⟩
 by_cases hl : (3 : Int) < (s.size : Int)
 ·have HX := Hd.mk (show idxS s.data.toList = -1 by unfold idxS; rw [if_pos (.inr (by rw [show s.data.toList.length = s.size by simp]; omega))])
  clear HE
  go_wp2_with fail
  go_ret
  exact ⟨by rw [HX.out]; rfl, Below.refl _ _⟩
 ·have HX := Hd.mk (show idxS s.data.toList = if s.data.toList.all isDig then (if decDigits (valD s.data.toList) = s.data.toList then (valD s.data.toList : Int) else -1) else -1 by
   unfold idxS
   rw [if_neg (fun h => ?_)]
   rcases h with h | h
   ·rw [HE, h] at he; simp at he
   ·simp at h; omega)
  clear HE
  go_wp2_with fail
  have HL := Hd.mk (show s.data.toList.length ≤ 3 by rw [show s.data.toList.length = s.size by simp]; omega)
  go_loopw [3, 4] (fun x i wr => ∃ (k : Nat) (v : Int), k ≤ s.size ∧ i = .int .i64 k ∧ x = .int .i64 v ∧ Hd ((s.data.toList.take k).all isDig = true ∧ v = valD (s.data.toList.take k)) ∧ Hd (Below w.heap.size w wr)) (fun _ i _ => s.size - (intOf i).toNat)
  case atStart => exact ⟨0, 0, Nat.zero_le _, rfl, rfl, ⟨rfl, rfl⟩, ⟨Below.refl _ _⟩⟩
  case round =>
   obtain ⟨k, v, hk, rfl, rfl, HA, hB⟩ := hrel
   have hv : 0 ≤ v ∧ v ≤ 999 := by
    have h1 := valD_le3 (s.data.toList.take k) HA.out.1 (by have := HL.out; simp; omega)
    have h2 := HA.out.2
    omega
   have hv0 := hv.1; have hv1 := hv.2; clear hv
   by_cases hlt : k < s.size
   ·have hkl : k < s.data.toList.length := by simpa using hlt
    have hT := Hd.mk (valD_take s.data.toList k hkl)
    have HA2 := Hd.mk (show (s.data.toList.take (k + 1)).all isDig = isDig s[k] from all_take isDig s.data.toList k hkl HA.out.1)
    have hno := Hd.mk (fun (h : isDig s[k] = false) => show idxS s.data.toList = -1 by rw [HX.out, all_false isDig s.data.toList (k + 1) (by rw [HA2.out, h])]; rfl)
    by_cases h1 : (s[k].toNat : Int) < 48
    ·have HN := Hd.mk (hno.out (by unfold isDig; simp; omega))
     go_wp2_with fail
     go_ret
     exact ⟨by rw [HN.out]; rfl, hB.out⟩
    by_cases h2 : 57 < (s[k].toNat : Int)
    ·have HN := Hd.mk (hno.out (by unfold isDig; simp; omega))
     go_wp2_with fail
     go_ret
     exact ⟨by rw [HN.out]; rfl, hB.out⟩
    ·have hw : wrap64 ((s[k].toNat : Nat) : Int) = s[k].toNat := by unfold wrap64; omega
     go_wp2_with fail
     go_roundw
     case rel =>
      refine ⟨k + 1, _, by omega, by go_num, rfl, ⟨?_, ?_⟩, hB⟩
      ·rw [HA2.out]; unfold isDig; simp; omega
      ·rw [hT.out, HA.out.2]
       show 10 * ((valD (s.data.toList.take k) : Nat) : Int) + (s[k].toNat : Int) - 48 = _
       have e : s.data.toList[k] = s[k] := rfl
       rw [e]; omega
     case measure => simp [intOf]; omega
   ·obtain rfl : k = s.size := by omega
    have HE2 := Hd.mk (show s.data.toList.all isDig = true ∧ v = valD s.data.toList by
     have := HA.out
     rwa [show s.size = s.data.toList.length by simp, List.take_length] at this)
    go_wp2_with fail
    refine (spec_l2Digits v wr (by omega) (by omega)).mono ?_
    rintro e w1 ⟨rfl, hX1⟩
    have hB1 := Hd.mk (below_then hB.out hX1); clear hX1
    obtain ⟨t, ht⟩ : ∃ t : ByteArray, t = ⟨(itoa v).toArray⟩ := ⟨_, rfl⟩
    rw [← ht]
    have HT := Hd.mk (show t.toList = decDigits (valD s.data.toList) by rw [ht, ByteArray.toList_eq, HE2.out.2, Go.Lib.itoa_nonneg]); clear ht
    cases hb : (t.toList == s.toList)
    ·have HN := Hd.mk (show idxS s.data.toList = -1 by
      rw [HX.out, if_pos HE2.out.1, if_neg (fun h => ?_)]
      rw [HT.out, h, ByteArray.toList_eq] at hb; simp at hb)
     go_wp2_with fail
     go_ret
     exact ⟨by rw [HN.out]; rfl, hB1.out⟩
    ·have HN := Hd.mk (show idxS s.data.toList = v by
      rw [HX.out, if_pos HE2.out.1, if_pos (by rw [HT.out, ByteArray.toList_eq] at hb; simpa using hb)]
      exact HE2.out.2.symm)
     go_wp2_with fail
     go_ret
     exact ⟨by rw [HN.out]; rfl, hB1.out⟩
set_option maxRecDepth 100000 in
theorem impl_IndexOf (s : ByteArray) (w : World) (hs : s.size ≤ 281474976710656) (hT : EnvT w) (hE : EnvE w) :
  Calls Tryd.prog 37 #[.string s] w fun e w' => e = .returned (.int .i64 (idxI s.data.toList)) ∧ Below w.heap.size w w' := by
 obtain ⟨⟨tp, p, hE1⟩, tp2, p2, hE2⟩ := hE
 have HT := Hd.mk hT; clear hT
 have HE1 := Hd.mk hE1; have HE2 := Hd.mk hE2; clear hE1 hE2
 go_enter Tryd.func37, Tryd.ntmps37
 go_wp2_with fail
 cases ha : atoiAll s.data.toList
 ·rename_i v
  have HX := Hd.mk (show idxI s.data.toList = if 0 ≤ v ∧ v ≤ 999 ∧ itoa v = s.data.toList then v else -1 by unfold idxI; rw [ha])
  refine (Tryd.strconv_Atoi_ok s (by omega) v ha w).mono ?_
  rintro e w1 ⟨rfl, hX1⟩
  have hB1 := Hd.mk (show Below w.heap.size w w1 by
   rcases hX1 with rfl | ⟨t, rfl⟩
   ·exact Below.refl _ _
   ·exact Go.Lib.bytesWorld_below w _ t); clear hX1
  go_wp2_with fail
  refine (impl_within _ _ _ _).mono ?_
  rintro e w2 ⟨rfl, rfl⟩
  by_cases hv : 0 ≤ v ∧ v ≤ 999
  ·rw [inB_iff.2 hv]
   go_wp2_with fail
   refine (Tryd.strconv_Itoa v (by omega) (by omega) _ (HT.out.below hB1.out)).mono ?_
   rintro e w3 ⟨rfl, hX2⟩
   have hB2 := Hd.mk (show Below w.heap.size w w3 by
    obtain ⟨k, os, rfl⟩ := hX2
    exact below_then hB1.out (Go.Lib.below_grow _ _ (Nat.le_refl _) k os)); clear hX2
   obtain ⟨t, ht⟩ : ∃ t : ByteArray, t = ⟨(itoa v).toArray⟩ := ⟨_, rfl⟩
   rw [← ht]
   have HT2 := Hd.mk (show t.toList = itoa v by rw [ht, ByteArray.toList_eq]); clear ht
   cases hb : (t.toList == s.toList)
   ·have HN := Hd.mk (show idxI s.data.toList = -1 by
     rw [HX.out, if_neg (fun h => ?_)]
     rw [HT2.out, h.2.2, ByteArray.toList_eq] at hb; simp at hb)
    go_wp2_with fail
    go_ret
    exact ⟨by rw [HN.out]; rfl, hB2.out⟩
   ·have HN := Hd.mk (show idxI s.data.toList = v by
     rw [HX.out, if_pos ⟨hv.1, hv.2, by rw [HT2.out, ByteArray.toList_eq] at hb; simpa using hb⟩])
    go_wp2_with fail
    go_ret
    exact ⟨by rw [HN.out]; rfl, hB2.out⟩
  ·rw [show inB v 0 999 = false by simpa [inB] using hv]
   have HN := Hd.mk (show idxI s.data.toList = -1 by rw [HX.out, if_neg (fun h => hv ⟨h.1, h.2.1⟩)])
   go_wp2_with fail
   go_ret
   exact ⟨by rw [HN.out]; rfl, hB1.out⟩
 ·have HX := Hd.mk (show idxI s.data.toList = -1 by unfold idxI; rw [ha])
  refine (Tryd.strconv_Atoi_syntax_var s hs (fun v h => by rw [ha] at h; cases h) (fun h => by rw [ha] at h; cases h) tp p w HE1.out).mono ?_
  rintro e w1 ⟨N, rfl, _, _, hX1⟩
  have hB1 := Hd.mk hX1; clear hX1
  go_wp2_with fail
  go_ret
  exact ⟨by rw [HX.out]; rfl, hB1.out⟩
 ·have HX := Hd.mk (show idxI s.data.toList = -1 by unfold idxI; rw [ha])
  refine (Tryd.strconv_Atoi_range_var s hs ha tp2 p2 w HE2.out).mono ?_
  rintro e w1 ⟨N, rfl, _, _, hX1⟩
  have hB1 := Hd.mk hX1; clear hX1
  go_wp2_with fail
  go_ret
  exact ⟨by rw [HX.out]; rfl, hB1.out⟩
end Go.Proofs.YtoaifagjdjgcbaaDoor.X
namespace Go.Proofs.YtoaifagjdjgcbaaDoor.X
open Go.RowKit Go.Sort
set_option linter.unusedVariables false
set_option linter.unusedSimpArgs false
theorem ltB_iff {a b : ByteArray} : ltB a b = true ↔ a.toList < b.toList := by
 unfold ltB
 rw [Proofs.bytesLess_eq]; simp
theorem ltB_irr (a : ByteArray) : ltB a a = false := by
 cases h : ltB a a
 ·rfl
 ·exact absurd (ltB_iff.1 h) (List.lt_irrefl _)
theorem ltB_trans {a b c : ByteArray} (h : ltB a b = true) (k : ltB b c = true) : ltB a c = true := ltB_iff.2 (List.lt_trans (ltB_iff.1 h) (ltB_iff.1 k))
theorem ltB_asym {a b : ByteArray} (h : ltB a b = true) : ltB b a = false := by
 cases k : ltB b a
 ·rfl
 ·have := ltB_trans h k
  rw [ltB_irr] at this; cases this
theorem ltB_ne {a b : ByteArray} (h : ltB a b = true) : (a.toList == b.toList) = false := by
 cases k : (a.toList == b.toList)
 ·rfl
 ·have h1 := ltB_iff.1 h
  rw [beq_iff_eq.1 k] at h1
  exact absurd h1 (List.lt_irrefl _)
theorem bytes_ext {a b : ByteArray} (h : a.toList = b.toList) : a = b := by
 rw [ByteArray.toList_eq, ByteArray.toList_eq] at h
 cases a; cases b
 simpa using Array.ext' h
def UpB (l : List ByteArray) : Prop := ∀ i j (hi : i < j) (hj : j < l.length), ltB l[i] l[j] = true
theorem namesB_up {l : List ByteArray} (h : namesB l = true) : UpB l := by
 have h1 : ∀ k (hk : k + 1 < l.length), ltB l[k] l[k + 1] = true := fun k hk => by
  unfold namesB at h
  have h2 := List.all_eq_true.1 h (k + 1) (List.mem_range.2 hk)
  rw [nameStep_at hk] at h2
  simp only [Bool.and_eq_true, Bool.or_eq_true] at h2
  rcases h2.2 with h3 | h3
  ·simp at h3
  ·rw [show l.getD (k + 1 - 1) ByteArray.empty = l[k] by simp [List.getD_eq_getElem?_getD, show k < l.length by omega]] at h3
   exact h3
 intro i j hi hj
 induction j with
 | zero => omega
 | succ j ih =>
  rcases Nat.lt_or_ge i j with h2 | h2
  ·exact ltB_trans (ih h2 (by omega)) (h1 j hj)
  ·obtain rfl : i = j := by omega
   exact h1 i hj
def posB (l : List ByteArray) (s : ByteArray) : Nat := l.findIdx (fun x => !ltB x s)
theorem posB_le (l : List ByteArray) (s : ByteArray) : posB l s ≤ l.length := List.findIdx_le_length
theorem posB_lt {l : List ByteArray} {s : ByteArray} {k : Nat} (h : k < posB l s) (hk : k < l.length) : ltB l[k] s = true := by
 have := List.not_of_lt_findIdx h
 simpa using this
theorem posB_ge {l : List ByteArray} {s : ByteArray} (hu : UpB l) {k : Nat} (h : posB l s ≤ k) (hk : k < l.length) : ltB l[k] s = false := by
 have hp : posB l s < l.length := by omega
 have h1 : ltB l[posB l s] s = false := by
  have h : (!ltB l[posB l s] s) = true := List.findIdx_getElem (xs := l) (p := fun x => !ltB x s) (w := hp)
  cases hb : ltB l[posB l s] s
  ·rfl
  ·rw [hb] at h; cases h
 rcases Nat.lt_or_ge (posB l s) k with h2 | h2
 ·cases h3 : ltB l[k] s
  ·rfl
  ·have := ltB_trans (hu _ _ h2 hk) h3
   rw [h1] at this; cases this
 ·have : k = posB l s := by omega
  subst this
  exact h1
theorem posB_of {l : List ByteArray} {s : ByteArray} {p : Nat} (h1 : ∀ k (hk : k < l.length), k < p → ltB l[k] s = true) (h2 : ∀ k (hk : k < l.length), p ≤ k → ltB l[k] s = false) (hp : p ≤ l.length) : posB l s = p := by
 unfold posB
 rcases Nat.lt_or_ge p l.length with h | h
 ·rw [List.findIdx_eq h]
  exact ⟨by rw [h2 p h (Nat.le_refl _)]; rfl, fun j hj => by rw [h1 j (by omega) hj]; rfl⟩
 ·obtain rfl : p = l.length := by omega
  rw [List.findIdx_eq_length]
  intro x hx
  obtain ⟨k, hk, rfl⟩ := List.mem_iff_getElem.1 hx
  rw [h1 k hk hk]; rfl
theorem ne_past {l : List ByteArray} {s : ByteArray} (hu : UpB l) {k : Nat} (h : posB l s < k) (hk : k < l.length) : (l[k].toList == s.toList) = false := by
 cases h3 : (l[k].toList == s.toList)
 ·rfl
 ·have h4 := hu _ _ h hk
  rw [bytes_ext (beq_iff_eq.1 h3)] at h4
  rw [posB_ge hu (Nat.le_refl _) (by omega)] at h4; cases h4
theorem take_snoc {α : Type} {l : List α} {k : Nat} (h : k < l.length) : l.take k ++ [l[k]] = l.take (k + 1) := (List.take_succ_eq_append_getElem h).symm
theorem mid_snoc {α : Type} {l : List α} {a k : Nat} (ha : a ≤ k) (h : k < l.length) : (l.drop a).take (k - a) ++ [l[k]] = (l.drop a).take (k + 1 - a) := by
 have h1 : k - a < (l.drop a).length := by simp; omega
 have h2 : (l.drop a)[k - a] = l[k] := by rw [List.getElem_drop]; congr 1; omega
 rw [← h2, take_snoc h1]
 congr 1; omega
theorem putS_lt {l : List ByteArray} {s : ByteArray} (n : Nat) : ∀ k, k ≤ posB l s → putS l s n k = (false, l.take k, List.range k)
 | 0, _ => by simp [putS]
 | k + 1, h => by
  have hk : k < l.length := by have := posB_le l s; omega
  have h1 := posB_lt (show k < posB l s by omega) hk
  rw [putS, putS_lt n k (by omega), show l.getD k ⟨#[]⟩ = l[k] by simp [List.getD_eq_getElem?_getD, hk]]
  simp only [putIn, putOn, h1, ltB_ne h1]
  simp [take_snoc hk, List.range_succ]
theorem putS_new {l : List ByteArray} {s : ByteArray} (hu : UpB l) (n : Nat) (hno : ∀ h : posB l s < l.length, (l[posB l s].toList == s.toList) = false) : ∀ k, posB l s < k → k ≤ l.length → putS l s n k = (true, l.take (posB l s) ++ s :: (l.drop (posB l s)).take (k - posB l s), List.range (posB l s) ++ n :: List.range' (posB l s) (k - posB l s))
 | 0, h, _ => by omega
 | k + 1, h, hk => by
  have hk : k < l.length := by omega
  rcases Nat.lt_or_ge (posB l s) k with h2 | h2
  ·rw [putS, putS_new hu n hno k h2 (by omega), show l.getD k ⟨#[]⟩ = l[k] by simp [List.getD_eq_getElem?_getD, hk]]
   simp only [putIn, putOn, ne_past hu h2 hk]
   have h3 : List.range' (posB l s) (k + 1 - posB l s) = List.range' (posB l s) (k - posB l s) ++ [k] := by
    rw [show k + 1 - posB l s = (k - posB l s) + 1 by omega, List.range'_concat]
    congr 2; omega
   rw [h3, ← mid_snoc (show posB l s ≤ k by omega) hk]
   simp
  ·obtain rfl : k = posB l s := by omega
   rw [putS, putS_lt n _ (Nat.le_refl _), show l.getD (posB l s) ⟨#[]⟩ = l[posB l s] by simp [List.getD_eq_getElem?_getD, hk]]
   simp only [putIn, putOn, hno hk, posB_ge hu (Nat.le_refl _) hk]
   have h3 : (l.drop (posB l s)).take 1 = [l[posB l s]] := by
    have := mid_snoc (Nat.le_refl (posB l s)) hk
    simpa using this.symm
   simp [show posB l s + 1 - posB l s = 1 by omega, h3]
theorem putS_old {l : List ByteArray} {s : ByteArray} (hu : UpB l) (n : Nat) (hp : posB l s < l.length) (hyes : (l[posB l s].toList == s.toList) = true) : ∀ k, posB l s < k → k ≤ l.length → putS l s n k = (true, l.take k, List.range (posB l s) ++ n :: List.range' (posB l s + 1) (k - (posB l s + 1)))
 | 0, h, _ => by omega
 | k + 1, h, hk => by
  have hk : k < l.length := by omega
  rcases Nat.lt_or_ge (posB l s) k with h2 | h2
  ·rw [putS, putS_old hu n hp hyes k h2 (by omega), show l.getD k ⟨#[]⟩ = l[k] by simp [List.getD_eq_getElem?_getD, hk]]
   simp only [putIn, putOn, ne_past hu h2 hk]
   have h3 : List.range' (posB l s + 1) (k + 1 - (posB l s + 1)) = List.range' (posB l s + 1) (k - (posB l s + 1)) ++ [k] := by
    rw [show k + 1 - (posB l s + 1) = (k - (posB l s + 1)) + 1 by omega, List.range'_concat]
    congr 2; omega
   rw [h3]
   simp [take_snoc hk]
  ·obtain rfl : k = posB l s := by omega
   rw [putS, putS_lt n _ (Nat.le_refl _), show l.getD (posB l s) ⟨#[]⟩ = l[posB l s] by simp [List.getD_eq_getElem?_getD, hk]]
   simp only [putIn, putOn, hyes, posB_ge hu (Nat.le_refl _) hk]
   have h4 : s = l[posB l s] := (bytes_ext (beq_iff_eq.1 hyes)).symm
   have h3 : l.take (posB l s) ++ [s] = l.take (posB l s + 1) := by
    rw [← take_snoc hk, ← h4]
   simp [h3]
theorem map_range {α β : Type} (f : Nat → β) (l : List β) (k : Nat) (hk : k ≤ l.length) (h : ∀ i (hi : i < l.length), f i = l[i]) : (List.range k).map f = l.take k := by
 apply List.ext_getElem
 ·simp; omega
 ·intro i h1 h2
  simp only [List.length_map, List.length_range] at h1
  simp [h i (by omega)]
theorem map_range' {β : Type} (f : Nat → β) (l : List β) (a k : Nat) (hk : a + k = l.length) (h : ∀ i (hi : i < l.length), f i = l[i]) : (List.range' a k).map f = l.drop a := by
 apply List.ext_getElem
 ·simp; omega
 ·intro i h1 h2
  simp only [List.length_map, List.length_range'] at h1
  simp [h (a + i) (by omega)]
theorem putSrc_at (j v : J) : ∀ i (hi : i < j.list.length), putSrc j v i = j.list[i] := fun i hi => by
 unfold putSrc
 rw [if_neg (by omega)]
 simp [List.getD_eq_getElem?_getD, hi]
theorem putSrc_n (j v : J) : putSrc j v j.list.length = v := by unfold putSrc; rw [if_pos rfl]
theorem putJ_new {j v : J} {s : ByteArray} (hu : UpB j.names) (hl : j.names.length = j.list.length) (hno : ∀ h : posB j.names s < j.names.length, (j.names[posB j.names s].toList == s.toList) = false) :
  putJ j v s = ⟨5, 0, ⟨#[]⟩, j.list.take (posB j.names s) ++ v :: j.list.drop (posB j.names s), j.names.take (posB j.names s) ++ s :: j.names.drop (posB j.names s)⟩ := by
 have hp := posB_le j.names s
 have hE : putE j.names s j.list.length = (j.names.take (posB j.names s) ++ s :: j.names.drop (posB j.names s), List.range (posB j.names s) ++ j.list.length :: List.range' (posB j.names s) (j.list.length - posB j.names s)) := by
  unfold putE
  rcases Nat.lt_or_ge (posB j.names s) j.names.length with h | h
  ·rw [putS_new hu _ hno _ h (Nat.le_refl _)]
   simp [hl]
   rw [List.take_of_length_le (by simp; omega)]
  ·have h2 : posB j.names s = j.names.length := by omega
   rw [putS_lt _ _ (by omega), h2, hl]
   simp [← hl]
 unfold putJ
 rw [hE]
 simp only [List.map_append, List.map_cons, putSrc_n]
 rw [map_range (α := J) (putSrc j v) j.list _ (by omega) (putSrc_at j v), map_range' (putSrc j v) j.list _ _ (by omega) (putSrc_at j v)]
theorem putJ_old {j v : J} {s : ByteArray} (hu : UpB j.names) (hl : j.names.length = j.list.length) (hp : posB j.names s < j.names.length) (hyes : (j.names[posB j.names s].toList == s.toList) = true) :
  putJ j v s = ⟨5, 0, ⟨#[]⟩, j.list.set (posB j.names s) v, j.names⟩ := by
 have hE : putE j.names s j.list.length = (j.names, List.range (posB j.names s) ++ j.list.length :: List.range' (posB j.names s + 1) (j.list.length - (posB j.names s + 1))) := by
  unfold putE
  rw [putS_old hu _ hp hyes _ hp (Nat.le_refl _)]
  simp [hl]
  rw [← hl]
  simp
 unfold putJ
 rw [hE]
 simp only [List.map_append, List.map_cons, putSrc_n]
 rw [map_range (α := J) (putSrc j v) j.list _ (by omega) (putSrc_at j v), map_range' (putSrc j v) j.list _ _ (by omega) (putSrc_at j v), List.set_eq_take_append_cons_drop, if_pos (by omega)]
end Go.Proofs.YtoaifagjdjgcbaaDoor.X

namespace Go.Proofs.YtoaifagjdjgcbaaDoor.X
open Go.RowKit Go.Sort
set_option linter.unusedVariables false
set_option linter.unusedSimpArgs false
open Ty
def hasB (l : List ByteArray) (s : ByteArray) : Bool := decide (posB l s < l.length) && ((l.getD (posB l s) ⟨#[]⟩).toList == s.toList)
end Go.Proofs.YtoaifagjdjgcbaaDoor.X
namespace Go.Proofs.YtoaifagjdjgcbaaDoor.X
open Go.Lib
set_option linter.unusedVariables false
set_option linter.unusedSimpArgs false

def q1 (b : UInt8) : List UInt8 := if b = 34 ∨ b = 92 then [92, b] else [b]
def quoteL (s : List UInt8) : List UInt8 := 34 :: (s.flatMap q1 ++ [34])
theorem quoteL_length (s : List UInt8) : (quoteL s).length ≤ 2 * s.length + 2 := by
 have h : (s.flatMap q1).length ≤ 2 * s.length := by
  induction s with
  | nil => simp
  | cons b l ih =>
   rw [List.flatMap_cons, List.length_append]
   have : (q1 b).length ≤ 2 := by unfold q1; split <;> simp
   simp only [List.length_cons]; omega
 unfold quoteL
 simp only [List.length_cons, List.length_append, List.length_nil]; omega
def pieceE (k5 : Bool) (n : ByteArray) (t : List UInt8) : List UInt8 := if k5 then quoteL n.data.toList ++ 58 :: t else t
def piecesE (enc : J → List UInt8) (j : J) : List (List UInt8) := (List.range j.list.length).map (fun i => pieceE (j.kind == 5) (j.names.getD i ByteArray.empty) (enc (j.list.getD i J.null)))
def encJ : Nat → J → List UInt8
 | 0, _ => []
 | k + 1, j => if j.kind = 0 then [110, 117, 108, 108] else if j.kind = 1 then (if j.n = 1 then [116, 114, 117, 101] else [102, 97, 108, 115, 101]) else if j.kind = 2 then itoa j.n else if j.kind = 3 then quoteL j.s.data.toList else
  if j.kind = 4 then 91 :: (join (piecesE (encJ k) j) [44] ++ [93]) else 123 :: (join (piecesE (encJ k) j) [44] ++ [125])
theorem piecesE_length (enc : J → List UInt8) (j : J) : (piecesE enc j).length = j.list.length := by simp [piecesE]
theorem piecesE_take (enc : J → List UInt8) (j : J) (i : Nat) (hi : i < j.list.length) : (piecesE enc j).take (i + 1) = (piecesE enc j).take i ++ [pieceE (j.kind == 5) (j.names.getD i ByteArray.empty) (enc j.list[i])] := by
 have h : i < (piecesE enc j).length := by rw [piecesE_length]; exact hi
 rw [List.take_succ_eq_append_getElem h]
 congr 2
 simp [piecesE, List.getD_eq_getElem?_getD, hi]
theorem join_snoc (xs : List (List UInt8)) (y sep : List UInt8) : join (xs ++ [y]) sep = if xs = [] then y else join xs sep ++ sep ++ y := by
 cases xs with
 | nil => simp [join_one]
 | cons x r =>
  rw [if_neg (by simp), List.cons_append, join_cons, join_cons]
  simp [joinTail]
def lenE (l : List (List UInt8)) : Nat := lens l + l.length
theorem join_le (l : List (List UInt8)) : (join l [44]).length ≤ lenE l := by
 cases l with
 | nil => simp [join_nil, lenE, lens]
 | cons x r =>
  rw [join_length]
  unfold lenE
  simp only [List.length_cons, List.length_nil]; omega
theorem lenE_take (l : List (List UInt8)) (i : Nat) : lenE (l.take i) ≤ lenE l := by
 unfold lenE
 have := lens_take_le l i
 have : (l.take i).length ≤ l.length := by simp; omega
 omega
theorem itoa_len (n : Int) (h : -1000000000 ≤ n ∧ n ≤ 1000000000) : (itoa n).length ≤ 21 := itoa_length_le n (by omega) (by omega)
theorem sizeN_own {k : Nat} {j : J} (h : sizeN (k + 1) j ≤ 400) : ownB j = true ∧ sizeN (k + 1) j = 1 + sumZ (sizeN k) j.list := by
 unfold sizeN at h ⊢
 split at h
 ·rename_i h1; rw [if_pos h1]; exact ⟨h1.1, rfl⟩
 ·omega
theorem sizeN_part {k : Nat} {j : J} (h : sizeN (k + 1) j ≤ 400) (i : Nat) (hi : i < j.list.length) : sizeN k j.list[i] ≤ 400 := by
 have h1 := (sizeN_own h).2
 have h2 := sumZ_take (sizeN k) j.list i hi
 have h3 := sumZ_le (sizeN k) (sizeN_pos k) j.list (i + 1)
 have h4 := sumZ_pos (sizeN k) (sizeN_pos k) (j.list.take i)
 omega
theorem nameStep_60 {l : List ByteArray} (h : namesB l = true) (i : Nat) (hi : i < l.length) : (l.getD i ByteArray.empty).size ≤ 60 := by
 unfold namesB at h
 rw [List.all_eq_true] at h
 have := h i (List.mem_range.2 hi)
 unfold nameStep textB at this
 simp only [Bool.and_eq_true, decide_eq_true_eq] at this
 omega
theorem own_names {j : J} (h : ownB j = true) : (∀ i, i < j.names.length → (j.names.getD i ByteArray.empty).size ≤ 60) ∧ (j.kind = 5 → j.names.length = j.list.length) ∧ (j.kind ≠ 5 → j.names.length = 0) ∧ (j.list.length ≠ 0 → j.kind = 4 ∨ j.kind = 5) ∧ 0 ≤ j.kind ∧ j.kind ≤ 5 ∧ (j.kind = 1 → 0 ≤ j.n ∧ j.n ≤ 1) ∧ (j.kind = 2 → -1000000000 ≤ j.n ∧ j.n ≤ 1000000000) ∧ (j.kind = 3 → j.s.size ≤ 60) := by
 unfold ownB at h
 split at h
 ·cases h
 rename_i h1
 split at h
 ·cases h
 rename_i h2
 split at h
 ·cases h
 split at h
 ·cases h
 simp only [Bool.and_eq_true, decide_eq_true_eq, bne_iff_ne, not_and, Classical.not_not] at h1 h2
 have hl : j.list.length ≠ 0 → j.kind = 4 ∨ j.kind = 5 := fun h3 => by
  by_cases h4 : j.kind = 4
  ·exact .inl h4
  ·exact .inr (h1 (by omega) h4)
 have hn : j.kind ≠ 5 → j.names.length = 0 := fun h3 => by
  rcases Nat.eq_zero_or_pos j.names.length with h4 | h4
  ·exact h4
  ·exact absurd (h2 h4) h3
 split at h
 ·rename_i hk
  have hk1 : j.kind = 1 := by simpa using hk
  simp only [inB, Bool.and_eq_true, decide_eq_true_eq] at h
  have h0 := hn (by omega)
  exact ⟨fun i hi => by omega, fun e => by omega, hn, hl, by omega, by omega, fun _ => h, fun e => by omega, fun e => by omega⟩
 split at h
 ·rename_i hk
  have hk1 : j.kind = 2 := by simpa using hk
  simp only [isNumB, inB, Bool.and_eq_true, decide_eq_true_eq] at h
  have h0 := hn (by omega)
  exact ⟨fun i hi => by omega, fun e => by omega, hn, hl, by omega, by omega, fun e => by omega, fun _ => h, fun e => by omega⟩
 split at h
 ·rename_i hk
  have hk1 : j.kind = 3 := by simpa using hk
  simp only [textB, Bool.and_eq_true, decide_eq_true_eq] at h
  have h0 := hn (by omega)
  exact ⟨fun i hi => by omega, fun e => by omega, hn, hl, by omega, by omega, fun e => by omega, fun e => by omega, fun _ => by omega⟩
 split at h
 ·rename_i hk
  have hk1 : j.kind = 5 := by simpa using hk
  simp only [Bool.and_eq_true, beq_iff_eq] at h
  exact ⟨fun i hi => nameStep_60 h.2 i hi, fun e => by omega, hn, hl, by omega, by omega, fun e => by omega, fun e => by omega, fun e => by omega⟩
 ·simp only [Bool.or_eq_true, beq_iff_eq] at h
  have h0 := hn (by omega)
  exact ⟨fun i hi => by omega, fun e => by omega, hn, hl, by omega, by omega, fun e => by omega, fun e => by omega, fun e => by omega⟩
theorem lenE_snoc (l : List (List UInt8)) (x : List UInt8) : lenE (l ++ [x]) = lenE l + x.length + 1 := by
 simp [lenE, lens]; omega
theorem pieceE_length (b : Bool) (n : ByteArray) (t : List UInt8) (h : n.size ≤ 60) : (pieceE b n t).length ≤ t.length + 123 := by
 have := quoteL_length n.data.toList
 rw [show n.data.toList.length = n.size by simp] at this
 unfold pieceE
 split
 ·simp only [List.length_append, List.length_cons]; omega
 ·omega
theorem lenE_pieces {k : Nat} {j : J} (h : sizeN (k + 1) j ≤ 400) (ih : ∀ x, sizeN k x ≤ 400 → ((encJ k x).length : Int) + 124 ≤ 246 * sizeN k x) : ∀ i, i ≤ j.list.length → (lenE ((piecesE (encJ k) j).take i) : Int) ≤ 246 * sumZ (sizeN k) (j.list.take i)
 | 0, _ => by simp [lenE, lens, sumZ]
 | i + 1, hi => by
  have h1 := lenE_pieces h ih i (by omega)
  have h2 := ih j.list[i] (sizeN_part h i (by omega))
  have hn : (j.names.getD i ByteArray.empty).size ≤ 60 := by
   by_cases hl : i < j.names.length
   ·exact (own_names (sizeN_own h).1).1 i hl
   ·rw [List.getD_eq_getElem?_getD, List.getElem?_eq_none (by omega)]; simp
  have h3 := pieceE_length (j.kind == 5) (j.names.getD i ByteArray.empty) (encJ k j.list[i]) hn
  rw [piecesE_take _ _ i (by omega), lenE_snoc, sumZ_take _ _ i (by omega)]
  omega
theorem encJ_length : ∀ (k : Nat) (j : J), sizeN k j ≤ 400 → ((encJ k j).length : Int) + 124 ≤ 246 * sizeN k j
 | 0, j, h => by simp [sizeN] at h
 | k + 1, j, h => by
  have ho := own_names (sizeN_own h).1
  have hp := sumZ_pos (sizeN k) (sizeN_pos k) j.list
  rw [(sizeN_own h).2]
  unfold encJ
  split
  ·simp; omega
  split
  ·split <;> (simp; omega)
  split
  ·rename_i h2
   have := itoa_len j.n (ho.2.2.2.2.2.2.2.1 h2)
   omega
  split
  ·rename_i h3
   have := quoteL_length j.s.data.toList
   have h4 := ho.2.2.2.2.2.2.2.2 h3
   rw [show j.s.data.toList.length = j.s.size by simp] at this
   omega
  have h5 := lenE_pieces h (fun x hx => encJ_length k x hx) j.list.length (Nat.le_refl _)
  rw [List.take_length, show (piecesE (encJ k) j).take j.list.length = piecesE (encJ k) j from List.take_of_length_le (by rw [piecesE_length]; exact Nat.le_refl _)] at h5
  have h6 := join_le (piecesE (encJ k) j)
  split <;> (simp only [List.length_cons, List.length_append, List.length_nil]; omega)
end Go.Proofs.YtoaifagjdjgcbaaDoor.X
namespace Go.Proofs.YtoaifagjdjgcbaaDoor.X
open Go.RowKit Go.Sort
set_option linter.unusedVariables false
set_option linter.unusedSimpArgs false
open Ty
def placeS (j : J) (s : ByteArray) : Int :=
 if (j.kind == 5) = true then nameAt j.names s
 else if (j.kind == 4) = true then (if idxS s.data.toList < (j.list.length : Int) then idxS s.data.toList else -1) else -1
def place0 (j : J) (s : ByteArray) : Int :=
 if (j.kind == 5) = true then nameAt j.names s else if (j.kind == 4) = true then idxI s.data.toList else -1
def placeI (j : J) (s : ByteArray) : Int := if (j.list.length : Int) ≤ place0 j s then -1 else place0 j s
theorem nameAt_le (l : List ByteArray) (s : ByteArray) : nameAt l s < l.length ∧ -1 ≤ nameAt l s ∧ (nameAt l s < 0 → nameAt l s = -1) := by
 rcases idxF_cases2 (fun x : ByteArray => s.toList == x.toList) l with h1 | ⟨h1, h2⟩
 ·unfold nameAt; omega
 ·unfold nameAt; omega
theorem nameAt_own {j : J} (h : ownB j = true) (s : ByteArray) : nameAt j.names s < j.list.length := by
 have h1 := nameAt_le j.names s
 rcases ownB_names j h with ⟨_, h2⟩ | h2 <;> omega
theorem place_eq {j : J} (h : ownB j = true) (s : ByteArray) : placeI j s = placeS j s := by
 unfold placeI place0 placeS
 have h1 := nameAt_own h s
 split
 ·rw [if_neg (by omega)]
 ·split
  ·rw [idx_eq]
   split <;> split <;> omega
  ·rw [if_neg (by omega)]
theorem place_lt {j : J} (h : ownB j = true) (s : ByteArray) {q : Nat} (hq : placeS j s = (q : Int)) : q < j.list.length := by
 have h1 := nameAt_own h s
 unfold placeS at hq
 split at hq
 ·omega
 ·split at hq
  ·split at hq <;> omega
  ·omega
def getV : J → List ByteArray → Option J
 | j, [] => some j
 | j, s :: l => if placeS j s < 0 then none else match j.list[(placeS j s).toNat]? with
  | some y => getV y l
  | none => none
def getJ (x : J) (way : List ByteArray) : J := if jsonOk x = true then (getV x way).getD J.null else J.null
def getB (x : J) (way : List ByteArray) : Bool := jsonOk x && (getV x way).isSome
theorem getV_no {y : J} {way : List ByteArray} {k : Nat} (hk : k < way.length) (h : placeS y way[k] < 0) : getV y (way.drop k) = none := by
 rw [List.drop_eq_getElem_cons hk, getV, if_pos h]
theorem getV_yes {y : J} {way : List ByteArray} {k : Nat} (hk : k < way.length) {q : Nat} (h : placeS y way[k] = (q : Int)) (hq : q < y.list.length) : getV y (way.drop k) = getV y.list[q] (way.drop (k + 1)) := by
 rw [List.drop_eq_getElem_cons hk, getV, if_neg (by omega), h]
 simp [List.getElem?_eq_getElem hq]
theorem sizeN_at {d : Nat} {y : J} (h : sizeN (d + 1) y ≤ 400) (q : Nat) (hq : q < y.list.length) : ∃ d', d = d' + 1 ∧ sizeN (d' + 1) y.list[q] ≤ 400 := by
 have h1 := sizeN_part h q hq
 cases d with
 | zero => simp [sizeN] at h1
 | succ d => exact ⟨d, rfl, h1⟩
theorem bulk_at {m : Nat} {w : World} {y : J} {cs : List Value} (hk : (tJ (m + 1)).K w y cs) (q : Nat) (hq : q < y.list.length) : bulkJ (m + 1) y.list[q] ≤ bulkJ (m + 1) y := by
 obtain ⟨A1, c1, A2, c2, rfl, _, ⟨_, hC⟩, _⟩ := tJ_K.1 hk
 have hx := List.getElem_mem hq
 obtain ⟨cs', hk'⟩ := C_all hC hx
 rw [bulkJ_fuel m w _ cs' hk']
 have := bulkL_mem (bulkJ m) hx
 show _ ≤ y.s.size + (y.list.length + bulkL (bulkJ m) y.list) + _
 omega
theorem K_at {m : Nat} {w : World} {y : J} {cs : List Value} (hk : (tJ (m + 1)).K w y cs) (q : Nat) (hq : q < y.list.length) : ∃ cs', (tJ (m + 1)).K w y.list[q] cs' := by
 obtain ⟨A1, c1, A2, c2, rfl, _, ⟨_, hC⟩, _⟩ := tJ_K.1 hk
 obtain ⟨cs', hk'⟩ := C_all hC (List.getElem_mem hq)
 exact ⟨cs', (tJ_le1 m).K _ _ _ hk'⟩
theorem bulk_getV {m : Nat} {w : World} : ∀ (way : List ByteArray) (y : J) (cs : List Value), (tJ (m + 1)).K w y cs → bulkJ (m + 1) ((getV y way).getD J.null) ≤ bulkJ (m + 1) y
 | [], y, cs, _ => Nat.le_refl _
 | s :: l, y, cs, hk => by
  have h0 : bulkJ (m + 1) J.null ≤ bulkJ (m + 1) y := by
   show 0 + (0 + 0) + (0 + 0) ≤ _
   omega
  unfold getV
  split
  ·exact h0
  ·rcases Nat.lt_or_ge (placeS y s).toNat y.list.length with h | h
   ·rw [List.getElem?_eq_getElem h]
    obtain ⟨cs', hk'⟩ := K_at hk _ h
    exact Nat.le_trans (bulk_getV l _ cs' hk') (bulk_at hk _ h)
   ·rw [List.getElem?_eq_none h]; exact h0
theorem bulk_getJ {m : Nat} {w : World} {x : J} {cs : List Value} (hk : (tJ (m + 1)).K w x cs) (way : List ByteArray) : bulkJ (m + 1) (getJ x way) ≤ bulkJ (m + 1) x := by
 unfold getJ
 split
 ·exact bulk_getV way x cs hk
 ·show 0 + (0 + 0) + (0 + 0) ≤ _
  omega
theorem idxS_bd (l : List UInt8) : -1 ≤ idxS l ∧ idxS l ≤ 999 := by
 exact idxS_le l
theorem own_size {d : Nat} {x : J} (h : sizeN (d + 1) x ≤ 400) : ownB x = true := by
 cases hb : ownB x
 ·rw [sizeN_bad hb] at h; omega
 ·rfl
set_option maxRecDepth 100000 in
theorem spec_l3At {m : Nat} (x : J) (cs : List Value) (s : ByteArray) (w : World) (hk : (tJ (m + 1)).K w x cs) (hs : s.size ≤ 281474976710656) :
  Calls Tryd.prog 54 #[.agg cs.toArray, .string s] w fun e w' => e = .returned (.int .i64 (placeS x s)) ∧ Below w.heap.size w w' := by
 have HK := Hd.mk hk
 obtain ⟨A1, c1, A2, c2, rfl, hs0, ⟨hc1, hr1⟩, hc2, hr2⟩ := tJ_K.1 hk
 have hm := hr1.1
 have HR2 := Hd.mk hr2; clear hr1 hr2 hk
 have hB := Hd.mk (Below.refl w.heap.size w)
 have hI := idxS_bd s.data.toList
 have hI0 := hI.1
 have hI1 := hI.2
 clear hI
 have HN := nameAt_le x.names s
 have hN0 := HN.1
 have hN1 := HN.2.1
 clear HN
 go_enter Tryd.func54, Tryd.ntmps54
 cases hk5 : (x.kind == 5)
 case true =>
  have HP := Hd.mk (show placeS x s = nameAt x.names s by unfold placeS; rw [if_pos hk5])
  go_wp2_with fail
  apply calls_gen; intro W1 hW
  have hz_ : w.heap.size + 1 ≤ W1.heap.size := by rw [hW]; simp
  have hE : Below w.heap.size w W1 := by rw [hW]; (repeat (first | with_reducible refine below_alloc ?_ _ | with_reducible refine below_drew ?_)); exact Below.refl _ _
  have hB := hB.th hE
  have b0 := Hd.mk (show Blk W1 (w.heap.size) #[.int .i64 x.kind, .int .i64 x.n, .string x.s, .slice A1 x.list.length c1, .slice A2 x.names.length c2] 27 by rw [hW]; first | exact (Blk.new _ _ _) | (simpa using (Blk.new _ _ _)))
  clear hW hE
  have z1 := Hd.mk hz_; clear hz_
  refine (spec_l1At x _ s _ (Ty.K_below _ hB.out HK.out)).mono ?_
  rintro e w2 ⟨rfl, hX⟩
  have b0 := b0.dn hX
  have hB := hB.th hX
  have hz_ := hX.size
  clear hX
  have z2 := Hd.mk hz_; clear hz_
  obtain ⟨v00, v01, v02, v03, v04, v0z⟩ := blk5 b0.out
  go_wp2_with fail
  clear v00 v01 v02 v03 v04 v0z
  go_ret
  exact ⟨by rw [HP.out]; rfl, hB.out⟩
 case false =>
  cases hk4 : (x.kind == 4)
  ·have HP := Hd.mk (show placeS x s = -1 by unfold placeS; simp [hk5, hk4])
   go_wp2_with fail
   go_ret
   exact ⟨by rw [HP.out]; rfl, by exact below_alloc (Below.refl _ _) _⟩
  ·have hP0 := Hd.mk (show placeS x s = if idxS s.data.toList < (x.list.length : Int) then idxS s.data.toList else -1 by unfold placeS; simp only [hk5, hk4]; simp)
   go_wp2_with fail
   apply calls_gen; intro W1 hW
   have hz_ : w.heap.size + 1 ≤ W1.heap.size := by rw [hW]; simp
   have hE : Below w.heap.size w W1 := by rw [hW]; (repeat (first | with_reducible refine below_alloc ?_ _ | with_reducible refine below_drew ?_)); exact Below.refl _ _
   have hB := hB.th hE
   have b0 := Hd.mk (show Blk W1 (w.heap.size) #[.int .i64 x.kind, .int .i64 x.n, .string x.s, .slice A1 x.list.length c1, .slice A2 x.names.length c2] 27 by rw [hW]; first | exact (Blk.new _ _ _) | (simpa using (Blk.new _ _ _)))
   clear hW hE
   have z1 := Hd.mk hz_; clear hz_
   refine (spec_IndexOf s _ (by omega)).mono ?_
   rintro e w2 ⟨rfl, hX⟩
   have b0 := b0.dn hX
   have hB := hB.th hX
   have hz_ := hX.size
   clear hX
   have z2 := Hd.mk hz_; clear hz_
   obtain ⟨at_, hat⟩ : ∃ z, z = idxS s.data.toList := ⟨_, rfl⟩
   replace hP0 := hP0.out
   rw [← hat] at hI0 hI1 hP0 ⊢
   have hP1 := Hd.mk hP0; clear hat hP0
   by_cases hge : at_ < (x.list.length : Int)
   ·have HP := Hd.mk (show placeS x s = at_ by rw [hP1.out, if_pos hge])
    obtain ⟨v00, v01, v02, v03, v04, v0z⟩ := blk5 b0.out
    go_wp2_with fail
    clear v00 v01 v02 v03 v04 v0z
    go_ret
    exact ⟨by rw [HP.out]; rfl, hB.out⟩
   ·have HP := Hd.mk (show placeS x s = -1 by rw [hP1.out, if_neg hge])
    obtain ⟨v00, v01, v02, v03, v04, v0z⟩ := blk5 b0.out
    go_wp2_with fail
    clear v00 v01 v02 v03 v04 v0z
    go_ret
    exact ⟨by rw [HP.out]; rfl, hB.out⟩
set_option maxRecDepth 100000 in
theorem impl_placeOf {m : Nat} (x : J) (cs : List Value) (s : ByteArray) (w : World) (hk : (tJ (m + 1)).K w x cs) (hs : s.size ≤ 281474976710656) (hT : EnvT w) (hE : EnvE w) :
  Calls Tryd.prog 47 #[.agg cs.toArray, .string s] w fun e w' => e = .returned (.int .i64 (placeI x s)) ∧ Below w.heap.size w w' := by
 have HK := Hd.mk hk
 obtain ⟨A1, c1, A2, c2, rfl, hs0, ⟨hc1, hr1⟩, hc2, hr2⟩ := tJ_K.1 hk
 have hm := hr1.1
 have HR2 := Hd.mk hr2; clear hr1 hr2 hk
 have hB := Hd.mk (Below.refl w.heap.size w)
 have HT := Hd.mk hT; have HE := Hd.mk hE; clear hT hE
 have hI := idxS_bd s.data.toList
 have hI0 := hI.1
 have hI1 := hI.2
 clear hI
 have HN := nameAt_le x.names s
 have hN0 := HN.1
 have hN1 := HN.2.1
 clear HN
 go_enter Tryd.func47, Tryd.ntmps47
 cases hk5 : (x.kind == 5)
 case true =>
  have hP0 := Hd.mk (show place0 x s = nameAt x.names s by unfold place0; rw [if_pos hk5])
  go_wp2_with fail
  apply calls_gen; intro W1 hW
  have hz_ : w.heap.size + 1 ≤ W1.heap.size := by rw [hW]; simp
  have hE : Below w.heap.size w W1 := by rw [hW]; (repeat (first | with_reducible refine below_alloc ?_ _ | with_reducible refine below_drew ?_)); exact Below.refl _ _
  have hB := hB.th hE
  have b0 := Hd.mk (show Blk W1 (w.heap.size) #[.int .i64 x.kind, .int .i64 x.n, .string x.s, .slice A1 x.list.length c1, .slice A2 x.names.length c2] 27 by rw [hW]; first | exact (Blk.new _ _ _) | (simpa using (Blk.new _ _ _)))
  clear hW hE
  have z1 := Hd.mk hz_; clear hz_
  refine (slices_Index_str _ _ x.names s _ (C_below HR2.out hB.out)).mono ?_
  rintro e w2 ⟨rfl, hX⟩
  have b0 := b0.dn hX
  have hB := hB.th hX
  have hz_ := hX.size
  clear hX
  have z2 := Hd.mk hz_; clear hz_
  obtain ⟨at_, hat⟩ : ∃ z, z = nameAt x.names s := ⟨_, rfl⟩
  replace hP0 := hP0.out
  rw [← hat] at hN0 hN1 hP0 ⊢
  have hP1 := Hd.mk hP0; clear hat hP0
  by_cases hge : (x.list.length : Int) ≤ at_
  ·have HP := Hd.mk (show placeI x s = -1 by unfold placeI; rw [hP1.out, if_pos hge])
   obtain ⟨v00, v01, v02, v03, v04, v0z⟩ := blk5 b0.out
   go_wp2_with fail
   clear v00 v01 v02 v03 v04 v0z
   go_ret
   exact ⟨by rw [HP.out]; rfl, hB.out⟩
  ·have HP := Hd.mk (show placeI x s = at_ by unfold placeI; rw [hP1.out, if_neg hge])
   obtain ⟨v00, v01, v02, v03, v04, v0z⟩ := blk5 b0.out
   go_wp2_with fail
   clear v00 v01 v02 v03 v04 v0z
   go_ret
   exact ⟨by rw [HP.out]; rfl, hB.out⟩
 case false =>
  cases hk4 : (x.kind == 4)
  ·have HP := Hd.mk (show placeI x s = -1 by unfold placeI place0; simp [hk5, hk4]; try omega)
   go_wp2_with fail
   go_ret
   exact ⟨by rw [HP.out]; rfl, by exact below_alloc (Below.refl _ _) _⟩
  ·have hP0 := Hd.mk (show place0 x s = idxS s.data.toList by unfold place0; simp [hk5, hk4, idx_eq])
   go_wp2_with fail
   apply calls_gen; intro W1 hW
   have hz_ : w.heap.size + 1 ≤ W1.heap.size := by rw [hW]; simp
   have hE : Below w.heap.size w W1 := by rw [hW]; (repeat (first | with_reducible refine below_alloc ?_ _ | with_reducible refine below_drew ?_)); exact Below.refl _ _
   have hB := hB.th hE
   have b0 := Hd.mk (show Blk W1 (w.heap.size) #[.int .i64 x.kind, .int .i64 x.n, .string x.s, .slice A1 x.list.length c1, .slice A2 x.names.length c2] 27 by rw [hW]; first | exact (Blk.new _ _ _) | (simpa using (Blk.new _ _ _)))
   clear hW hE
   have z1 := Hd.mk hz_; clear hz_
   refine (impl_IndexOf s _ hs (HT.out.below hB.out) (HE.out.below hB.out)).mono ?_
   rintro e w2 ⟨rfl, hX⟩
   have b0 := b0.dn hX
   have hB := hB.th hX
   have hz_ := hX.size
   clear hX
   have z2 := Hd.mk hz_; clear hz_
   rw [idx_eq]
   obtain ⟨at_, hat⟩ : ∃ z, z = idxS s.data.toList := ⟨_, rfl⟩
   replace hP0 := hP0.out
   rw [← hat] at hI0 hI1 hP0 ⊢
   have hP1 := Hd.mk hP0; clear hat hP0
   by_cases hge : (x.list.length : Int) ≤ at_
   ·have HP := Hd.mk (show placeI x s = -1 by unfold placeI; rw [hP1.out, if_pos hge])
    obtain ⟨v00, v01, v02, v03, v04, v0z⟩ := blk5 b0.out
    go_wp2_with fail
    clear v00 v01 v02 v03 v04 v0z
    go_ret
    exact ⟨by rw [HP.out]; rfl, hB.out⟩
   ·have HP := Hd.mk (show placeI x s = at_ by unfold placeI; rw [hP1.out, if_neg hge])
    obtain ⟨v00, v01, v02, v03, v04, v0z⟩ := blk5 b0.out
    go_wp2_with fail
    clear v00 v01 v02 v03 v04 v0z
    go_ret
    exact ⟨by rw [HP.out]; rfl, hB.out⟩
set_option maxHeartbeats 4000000 in
set_option maxRecDepth 100000 in
theorem spec_Get {m : Nat} (x : J) (cs : List Value) (A : Option Addr) (c : Nat) (way : List ByteArray) (w : World) (hk : (tJ (m + 1)).K w x cs) (hr : str.C w A way) (hl : bulkJ (m + 1) x ≤ 4194304) (hw : bulkStringS way ≤ 4194304) :
  Calls Tryd.prog 19 #[.agg cs.toArray, .slice A way.length c] w fun e w' => ∃ cs, e = .returned (.tuple #[.agg cs.toArray, .bool (getB x way)]) ∧ (tJ (m + 1)).O w' (fun k => w.heap.size ≤ k) (getJ x way) cs ∧ Below w.heap.size w w' := by
 have HK := Hd.mk hk
 have HRW := Hd.mk hr
 have hmw := hr.1
 obtain ⟨A1, c1, A2, c2, rfl, hs, ⟨hc1, hr1⟩, hc2, hr2⟩ := tJ_K.1 hk
 have hm := hr1.1
 clear hr1 hr2 hk hr
 have HW := Hd.mk (show ∀ s ∈ way, s.size ≤ 4194304 from fun s h => by
  have h1 := bulkL_mem ByteArray.size h
  unfold bulkStringS at hw; omega); clear hw
 have HL := Hd.mk hl; clear hl
 have hB := Hd.mk (Below.refl w.heap.size w)
 go_enter Tryd.func19, Tryd.ntmps19
 go_wp2_with fail
 apply calls_gen; intro W1 hW
 have hz_ : w.heap.size + 2 ≤ W1.heap.size := by rw [hW]; simp
 have hE : Below w.heap.size w W1 := by rw [hW]; (repeat (first | with_reducible refine below_alloc ?_ _ | with_reducible refine below_drew ?_)); exact Below.refl _ _
 have hB := hB.th hE
 have b0 := Hd.mk (show Blk W1 (w.heap.size) #[.int .i64 x.kind, .int .i64 x.n, .string x.s, .slice A1 x.list.length c1, .slice A2 x.names.length c2] 27 by rw [hW]; first | exact ((Blk.new _ _ _).alloc _) | (simpa using ((Blk.new _ _ _).alloc _)))
 have b1 := Hd.mk (show Blk W1 (w.heap.size + 1) #[.int .i64 0, .int .i64 0, .string ⟨#[]⟩, .slice none 0 0, .slice none 0 0] 27 by rw [hW]; first | exact (Blk.new1 _ _ _ _) | (simpa using (Blk.new1 _ _ _ _)))
 clear hW hE
 have z1 := Hd.mk hz_; clear hz_
 refine (spec_JsonOk x _ _ (Ty.K_below _ hB.out HK.out)).mono ?_
 rintro e w2 ⟨rfl, hX⟩
 have b0 := b0.dn hX
 have b1 := b1.dn hX
 have hB := hB.th hX
 have hz_ := hX.size
 clear hX
 have z2 := Hd.mk hz_; clear hz_
 cases hb : jsonOk x
 ·have HN := Hd.mk (show getB x way = false by unfold getB; rw [hb]; rfl)
  have HF := Hd.mk (show getJ x way = J.null by unfold getJ; rw [hb]; rfl)
  obtain ⟨v00, v01, v02, v03, v04, v0z⟩ := blk5 b0.out
  obtain ⟨v10, v11, v12, v13, v14, v1z⟩ := blk5 b1.out
  go_wp2_with fail
  refine bodyPost_retW (v := .tuple #[.agg #[.int .i64 0, .int .i64 0, .string ⟨#[]⟩, .slice none 0 0, .slice none 0 0], .bool false]) (by simp [results, Tryd.results19, go_sem, v00, v01, v02, v03, v04, v0z, v10, v11, v12, v13, v14, v1z]) rfl ?_
  intro W hW
  clear v00 v01 v02 v03 v04 v0z v10 v11 v12 v13 v14 v1z
  have hz_ : w2.heap.size ≤ W.heap.size := by rw [hW]; simp
  have eF : Fr w2 W (fun k => k = w.heap.size + 1 ∨ w2.heap.size ≤ k) := by rw [hW]; (repeat (first | with_reducible refine Fr.setCell ?_ _ (fun _ => by simp <;> omega) _ | with_reducible refine Fr.alloc ?_ _ | with_reducible refine Fr.drew ?_)); exact Fr.refl _ _
  have z1_ := z1.out; have z2_ := z2.out
  have hB := Hd.mk (((Fr.of_below hB.out (fun k => k = w.heap.size + 1 ∨ w2.heap.size ≤ k)).then_ eF (fun k hk _ => hk)).below (fun k hk => by have := hB.out.size; omega))
  have b0 := Hd.mk (b0.out.fr eF (fun h => by have hlt_ := b0.out.lt; (try simp only at h); omega))
  have b1 := Hd.mk (show Blk W (w.heap.size + 1) #[.int .i64 0, .int .i64 0, .string ⟨#[]⟩, .slice none 0 0, .slice none 0 0] 27 by rw [hW]; exact (Blk.all b1.out [Value.int IntKind.i64 0, .int .i64 0, .string ⟨#[]⟩, .slice none 0 0, .slice none 0 0] rfl))
  clear hW eF
  have z3 := Hd.mk hz_; clear hz_
  exact ⟨_, by rw [HN.out], by rw [HF.out]; exact ZJ m _ _, hB.out⟩
 ·have HOK := Hd.mk hb; clear hb
  obtain ⟨v00, v01, v02, v03, v04, v0z⟩ := blk5 b0.out
  obtain ⟨v10, v11, v12, v13, v14, v1z⟩ := blk5 b1.out
  go_wp2_with fail
  clear v00 v01 v02 v03 v04 v0z v10 v11 v12 v13 v14 v1z
  go_loopw [6] (fun i wr => ∃ (k : Nat) (M d : Nat) (y : J) (cs : List Value), k ≤ way.length ∧ i = .int .i64 k ∧ Hd ((tJ (M + 1)).K w y cs) ∧ Hd (M ≤ m ∧ sizeN (d + 1) y ≤ 400 ∧ bulkJ (M + 1) y ≤ 4194304 ∧ getV x way = getV y (way.drop k)) ∧ Hd (Blk wr w.heap.size cs.toArray 27) ∧ Hd (Blk wr (w.heap.size + 1) #[.int .i64 0, .int .i64 0, .string ⟨#[]⟩, .slice none 0 0, .slice none 0 0] 27) ∧ Hd (Below w.heap.size w wr)) (fun i _ => way.length - (intOf i).toNat)
  case atStart => exact ⟨0, m, 5, x, _, Nat.zero_le _, rfl, HK, ⟨Nat.le_refl _, of_decide_eq_true HOK.out, HL.out, rfl⟩, b0, b1, hB⟩
  case round =>
   clear hB b0 b1 z1 z2
   obtain ⟨k, M, d, y, cs, hk, rfl, HKY, HY, b0, b1, hB⟩ := hrel
   obtain ⟨A3, c3, A4, c4, rfl, hs3, ⟨hc3, hr3⟩, hc4, hr4⟩ := tJ_K.1 HKY.out
   have hm3 := hr3.1
   have HR3 := Hd.mk hr3; clear hr3 hr4
   have zq := Hd.mk hB.out.size
   have zb := Hd.mk b1.out.lt
   by_cases hlt : k < way.length
   ·obtain ⟨ad, rfl, x0, hsz⟩ := C_str_at HRW.out hB.out k hlt
    have hw4 := Hd.mk (HW.out _ (List.getElem_mem hlt))
    obtain ⟨v00, v01, v02, v03, v04, v0z⟩ := blk5 b0.out
    obtain ⟨v10, v11, v12, v13, v14, v1z⟩ := blk5 b1.out
    obtain ⟨rv00, rv01, rv02, rv03, rv04, rv10, rv11⟩ := reg7 v00 v01 v02 v03 v04 v10 v11
    have rv12 := cell_regrown v12
    have rv13 := cell_regrown v13
    have rv14 := cell_regrown v14
    have rx0 := cell_regrown x0
    go_wp2_with fail
    refine region_mix [(true, 0), (true, 1), (true, 2), (true, 3), (true, 4), (false, 5), (true, 6)] (by kernel_rfl) (by kernel_rfl) (fun _ _ _ _ _ h => h) ?_
    (repeat (first | (refine mix_z rfl (by rfl) ?_; go_big_quiet_skip; refine wpQuiet_nil ?_) | (refine mix_q rfl ?_; first | (go_big_quiet_skip; refine wpQuiet_nil ?_) | (go_big_quiet_want; go_big_quiet_op; go_big_quiet_on; refine wpQuiet_nil ?_))))
    refine mix_b rfl ?_ (by rfl)
    go_wp2_with fail
    clear rv00 rv01 rv02 rv03 rv04 rv10 rv11 rv12 rv13 rv14 rx0
    clear v00 v01 v02 v03 v04 v0z v10 v11 v12 v13 v14 v1z
    clear x0
    have hS := Hd.mk (Below.refl wr.heap.size wr)
    apply calls_gen; intro W3 hW
    have hz_ : wr.heap.size ≤ W3.heap.size := by rw [hW]; simp
    have hE : Below wr.heap.size wr W3 := by rw [hW]; (repeat (first | with_reducible refine below_alloc ?_ _ | with_reducible refine below_drew ?_)); exact Below.refl _ _
    have hB := hB.th hE
    replace hS := Hd.mk (below_then hS.out hE)
    have b0 := b0.dn hE
    have b1 := b1.dn hE
    clear hW hE
    have z3 := Hd.mk hz_; clear hz_
    refine (spec_l3At y _ way[k] _ (Ty.K_below _ hB.out HKY.out) (by have := hw4.out; omega)).mono ?_
    rintro e w4 ⟨rfl, hX⟩
    have b0 := b0.dn hX
    have b1 := b1.dn hX
    have hB := hB.th hX
    replace hS := Hd.mk (below_then hS.out hX)
    have hz_ := hX.size
    clear hX
    have z4 := Hd.mk hz_; clear hz_
    obtain ⟨at_, hat⟩ : ∃ z, z = placeS y way[k] := ⟨_, rfl⟩
    rw [← hat]
    have HAT := Hd.mk hat; clear hat
    by_cases h0 : at_ < 0
    ·have HV := Hd.mk (show getV x way = none by rw [HY.out.2.2.2]; exact getV_no hlt (by rw [← HAT.out]; exact h0))
     have HN := Hd.mk (show getB x way = false by unfold getB; rw [HV.out]; simp)
     have HF := Hd.mk (show getJ x way = J.null by unfold getJ; rw [HV.out]; simp)
     obtain ⟨v00, v01, v02, v03, v04, v0z⟩ := blk5 b0.out
     obtain ⟨v10, v11, v12, v13, v14, v1z⟩ := blk5 b1.out
     go_wp2_with fail
     refine ⟨cls_below hS.out, ?_⟩
     (repeat (first | (refine mix_z rfl (by rfl) ?_; go_big_quiet_skip; refine wpQuiet_nil ?_) | (refine mix_q rfl ?_; first | (go_big_quiet_skip; refine wpQuiet_nil ?_) | (go_big_quiet_want; go_big_quiet_op; go_big_quiet_on; refine wpQuiet_nil ?_))))
     refine mix_nil ?_
     go_wp2_with fail
     refine bodyPost_retW (v := .tuple #[.agg #[.int .i64 0, .int .i64 0, .string ⟨#[]⟩, .slice none 0 0, .slice none 0 0], .bool false]) (by simp [results, Tryd.results19, go_sem, v00, v01, v02, v03, v04, v0z, v10, v11, v12, v13, v14, v1z]) rfl ?_
     intro W hW
     clear v00 v01 v02 v03 v04 v0z v10 v11 v12 v13 v14 v1z
     have hz_ : w4.heap.size ≤ W.heap.size := by rw [hW]; simp
     have eF : Fr w4 W (fun k => k = (w.heap.size + 1) ∨ w4.heap.size ≤ k) := by rw [hW]; (repeat (first | with_reducible refine Fr.setCell ?_ _ (fun _ => by simp <;> omega) _ | with_reducible refine Fr.alloc ?_ _ | with_reducible refine Fr.drew ?_)); exact Fr.refl _ _
     have zb_ := zb.out; have zq_ := zq.out; have z3_ := z3.out; have z4_ := z4.out
     have hB := Hd.mk (((Fr.of_below hB.out (fun k => k = (w.heap.size + 1) ∨ w4.heap.size ≤ k)).then_ eF (fun k hk _ => hk)).below (fun k hk => by have := hB.out.size; omega))
     have b0 := Hd.mk (b0.out.fr eF (fun h => by have hlt_ := b0.out.lt; (try simp only at h); omega))
     have b1 := Hd.mk (show Blk W ((w.heap.size + 1)) #[.int .i64 0, .int .i64 0, .string ⟨#[]⟩, .slice none 0 0, .slice none 0 0] 27 by rw [hW]; exact (Blk.all b1.out [Value.int IntKind.i64 0, .int .i64 0, .string ⟨#[]⟩, .slice none 0 0, .slice none 0 0] rfl))
     clear hW eF
     have z5 := Hd.mk hz_; clear hz_
     exact ⟨_, by rw [HN.out], by rw [HF.out]; exact ZJ m _ _, hB.out⟩
    ·obtain ⟨q, rfl⟩ := Int.eq_ofNat_of_zero_le (Int.not_lt.1 h0)
     clear h0
     have h0 : (0 : Int) ≤ (q : Int) := by omega
     have hq := place_lt (own_size HY.out.2.1) _ HAT.out.symm
     have HG := Hd.mk (getV_yes hlt HAT.out.symm hq)
     obtain ⟨aq, cs0, rfl, hK0, e0, e1⟩ := C_at HR3.out (Below.refl _ _) q hq
     obtain ⟨M, rfl⟩ : ∃ m1 : Nat, M = m1 + 1 := by cases M with | zero => exact hK0.elim | succ M => exact ⟨M, rfl⟩
     obtain ⟨d, rfl, hsd⟩ := sizeN_at HY.out.2.1 q hq
     have HSD := Hd.mk hsd; clear hsd
     have HBK := Hd.mk (show bulkJ (M + 1) y.list[q] ≤ 4194304 by
      have h1 := bulkL_mem (bulkJ (M + 1)) (List.getElem_mem hq)
      have h2 := HY.out.2.2.1
      simp only [bulkJ] at h1 h2 ⊢
      omega)
     have HKe := Hd.mk hK0
     obtain ⟨A5, c5, A6, c6, rfl, hs5, ⟨hc5, hr5⟩, hc6, hr6⟩ := tJ_K.1 hK0
     have hm5 := hr5.1
     clear hK0 hr5 hr6
     have x0 : w4.cell? (aq.add (q * 5)) = some (.int .i64 y.list[q].kind) := cell_below hB.out (e0 _ rfl)
     have x1 : w4.cell? ⟨(aq.add (q * 5)).block, (aq.add (q * 5)).off + 1, none⟩ = some (.int .i64 y.list[q].n) := cell_below hB.out (e1 0 _ rfl)
     have x2 : w4.cell? ⟨(aq.add (q * 5)).block, (aq.add (q * 5)).off + 2, none⟩ = some (.string y.list[q].s) := cell_below hB.out (e1 1 _ rfl)
     have x3 : w4.cell? ⟨(aq.add (q * 5)).block, (aq.add (q * 5)).off + 3, none⟩ = some (.slice A5 y.list[q].list.length c5) := cell_below hB.out (e1 2 _ rfl)
     have x4 : w4.cell? ⟨(aq.add (q * 5)).block, (aq.add (q * 5)).off + 4, none⟩ = some (.slice A6 y.list[q].names.length c6) := cell_below hB.out (e1 3 _ rfl)
     clear e0 e1
     obtain ⟨v00, v01, v02, v03, v04, v0z⟩ := blk5 b0.out
     obtain ⟨v10, v11, v12, v13, v14, v1z⟩ := blk5 b1.out
     go_wp2_with fail
     refine ⟨cls_below hS.out, ?_⟩
     (repeat (first | (refine mix_z rfl (by rfl) ?_; go_big_quiet_skip; refine wpQuiet_nil ?_) | (refine mix_q rfl ?_; first | (go_big_quiet_skip; refine wpQuiet_nil ?_) | (go_big_quiet_want; go_big_quiet_op; go_big_quiet_on; refine wpQuiet_nil ?_))))
     refine mix_nil ?_
     go_wp2_with fail
     obtain ⟨W, hW⟩ : ∃ W, W = (((((w4.setCell ⟨w.heap.size, 0, none⟩ (Value.int IntKind.i64 y.list[q].kind)).setCell ⟨w.heap.size, 1, none⟩ (Value.int IntKind.i64 y.list[q].n)).setCell ⟨w.heap.size, 2, none⟩ (Value.string y.list[q].s)).setCell ⟨w.heap.size, 3, none⟩ (Value.slice A5 y.list[q].list.length c5)).setCell ⟨w.heap.size, 4, none⟩ (Value.slice A6 y.list[q].names.length c6)) := ⟨_, rfl⟩
     rw [← hW]
     clear v00 v01 v02 v03 v04 v0z v10 v11 v12 v13 v14 v1z
     clear x0 x1 x2 x3 x4
     have hz_ : w4.heap.size ≤ W.heap.size := by rw [hW]; simp
     have eF : Fr w4 W (fun k => k = w.heap.size ∨ w4.heap.size ≤ k) := by rw [hW]; (repeat (first | with_reducible refine Fr.setCell ?_ _ (fun _ => by simp <;> omega) _ | with_reducible refine Fr.alloc ?_ _ | with_reducible refine Fr.drew ?_)); exact Fr.refl _ _
     have zb_ := zb.out; have zq_ := zq.out; have z3_ := z3.out; have z4_ := z4.out
     have hB := Hd.mk (((Fr.of_below hB.out (fun k => k = w.heap.size ∨ w4.heap.size ≤ k)).then_ eF (fun k hk _ => hk)).below (fun k hk => by have := hB.out.size; omega))
     have b0 := Hd.mk (show Blk W (w.heap.size) #[.int .i64 y.list[q].kind, .int .i64 y.list[q].n, .string y.list[q].s, .slice A5 y.list[q].list.length c5, .slice A6 y.list[q].names.length c6] 27 by rw [hW]; exact (Blk.all b0.out [Value.int IntKind.i64 y.list[q].kind, .int .i64 y.list[q].n, .string y.list[q].s, .slice A5 y.list[q].list.length c5, .slice A6 y.list[q].names.length c6] rfl))
     have b1 := Hd.mk (b1.out.fr eF (fun h => by have hlt_ := b1.out.lt; (try simp only at h); omega))
     clear hW eF
     have z5 := Hd.mk hz_; clear hz_
     go_roundw
     case rel => exact ⟨k + 1, M, d, y.list[q], _, by omega, by go_num, HKe, ⟨by have := HY.out.1; omega, HSD.out, HBK.out, by rw [HY.out.2.2.2, HG.out]⟩, b0, b1, hB⟩
     case measure => simp [intOf]; omega
   ·obtain rfl : k = way.length := by omega
    have HV := Hd.mk (show getV x way = some y by rw [HY.out.2.2.2, List.drop_length]; rfl)
    have HN := Hd.mk (show getB x way = true by unfold getB; rw [HOK.out, HV.out]; rfl)
    have HF := Hd.mk (show getJ x way = y by unfold getJ; rw [if_pos HOK.out, HV.out]; rfl)
    obtain ⟨v00, v01, v02, v03, v04, v0z⟩ := blk5 b0.out
    obtain ⟨v10, v11, v12, v13, v14, v1z⟩ := blk5 b1.out
    go_wp2_with fail
    clear v00 v01 v02 v03 v04 v0z v10 v11 v12 v13 v14 v1z
    have hBq := Hd.mk (Below.refl wr.heap.size wr)
    apply calls_gen; intro W3 hW
    have hz_ : wr.heap.size ≤ W3.heap.size := by rw [hW]; simp
    have hE : Below wr.heap.size wr W3 := by rw [hW]; (repeat (first | with_reducible refine below_alloc ?_ _ | with_reducible refine below_drew ?_)); exact Below.refl _ _
    have hB := hB.th hE
    have hBq := Hd.mk (below_then hBq.out hE)
    have b0 := b0.dn hE
    have b1 := b1.dn hE
    clear hW hE
    have z3 := Hd.mk hz_; clear hz_
    refine (spec_l1Copy y _ _ (Ty.K_below _ hB.out HKY.out) HY.out.2.2.1).mono ?_
    rintro e w4 ⟨cs', rfl, hO, hX⟩
    have b0 := b0.dn hX
    have b1 := b1.dn hX
    have hB := hB.th hX
    have hz_ := hX.size
    have hBq := Hd.mk (below_then hBq.out hX)
    clear hX
    have z4 := Hd.mk hz_; clear hz_
    obtain ⟨v3, v4, _, _, rfl, hsz3, hr3, hr4, _⟩ := tJ_O.1 hO
    obtain ⟨D3, d3, rfl, _, _⟩ := R_C hr3
    obtain ⟨D4, d4, rfl, _, _⟩ := R_C hr4
    clear hr3 hr4
    replace hO := Hd.mk (show (tJ (M + 1)).O w4 (rng W3.heap.size w4.heap.size) y _ from Ty.O_bound _ hO)
    obtain ⟨v00, v01, v02, v03, v04, v0z⟩ := blk5 b0.out
    obtain ⟨v10, v11, v12, v13, v14, v1z⟩ := blk5 b1.out
    go_wp2_with fail
    refine bodyPost_retW (v := .tuple #[.agg #[.int .i64 y.kind, .int .i64 y.n, .string y.s, .slice D3 y.list.length d3, .slice D4 y.names.length d4], .bool true]) (by simp [results, Tryd.results19, go_sem, v00, v01, v02, v03, v04, v0z, v10, v11, v12, v13, v14, v1z]) rfl ?_
    intro W hW
    clear v00 v01 v02 v03 v04 v0z v10 v11 v12 v13 v14 v1z
    have hz_ : w4.heap.size ≤ W.heap.size := by rw [hW]; simp
    have eF : Fr w4 W (fun k => k = (w.heap.size + 1) ∨ w4.heap.size ≤ k) := by rw [hW]; (repeat (first | with_reducible refine Fr.setCell ?_ _ (fun _ => by simp <;> omega) _ | with_reducible refine Fr.alloc ?_ _ | with_reducible refine Fr.drew ?_)); exact Fr.refl _ _
    have zb_ := zb.out; have zq_ := zq.out; have z3_ := z3.out; have z4_ := z4.out
    have hB := Hd.mk (((Fr.of_below hB.out (fun k => k = (w.heap.size + 1) ∨ w4.heap.size ≤ k)).then_ eF (fun k hk _ => hk)).below (fun k hk => by have := hB.out.size; omega))
    have b0 := Hd.mk (b0.out.fr eF (fun h => by have hlt_ := b0.out.lt; (try simp only at h); omega))
    have b1 := Hd.mk (show Blk W ((w.heap.size + 1)) #[.int .i64 y.kind, .int .i64 y.n, .string y.s, .slice D3 y.list.length d3, .slice D4 y.names.length d4] 27 by rw [hW]; exact (Blk.all b1.out [Value.int IntKind.i64 y.kind, .int .i64 y.n, .string y.s, .slice D3 y.list.length d3, .slice D4 y.names.length d4] rfl))
    have hO := Hd.mk (Ty.O_fr hO.out eF (fun k hk hl h => by skip; (try simp only [rng] at hk); (try simp only at hk); (try simp only at h); omega))
    clear hW eF
    have z5 := Hd.mk hz_; clear hz_
    exact ⟨[Value.int IntKind.i64 y.kind, .int .i64 y.n, .string y.s, .slice D3 y.list.length d3, .slice D4 y.names.length d4], by rw [HN.out], by rw [HF.out]; exact (tJ_le (by have := HY.out.1; omega : M + 1 ≤ m + 1)).O _ _ _ _ (Ty.O_mono _ (fun k hk => by have := hk.1; have := hB.out.size; have := zq.out; have zb_ := zb.out; have zq_ := zq.out; have z3_ := z3.out; have z4_ := z4.out; omega) hO.out), hB.out⟩
set_option maxHeartbeats 4000000 in
set_option maxRecDepth 100000 in
theorem impl_Get {m : Nat} (x : J) (cs : List Value) (A : Option Addr) (c : Nat) (way : List ByteArray) (w : World) (hk : (tJ (m + 1)).K w x cs) (hr : str.C w A way) (hl : bulkJ (m + 1) x ≤ 4194304) (hw : bulkStringS way ≤ 4194304) (hT : EnvT w) (hE : EnvE w) :
  Calls Tryd.prog 11 #[.agg cs.toArray, .slice A way.length c] w fun e w' => ∃ cs, e = .returned (.tuple #[.agg cs.toArray, .bool (getB x way)]) ∧ (tJ (m + 1)).O w' (fun k => w.heap.size ≤ k) (getJ x way) cs ∧ Below w.heap.size w w' := by
 have HK := Hd.mk hk
 have HRW := Hd.mk hr
 have hmw := hr.1
 obtain ⟨A1, c1, A2, c2, rfl, hs, ⟨hc1, hr1⟩, hc2, hr2⟩ := tJ_K.1 hk
 have hm := hr1.1
 clear hr1 hr2 hk hr
 have HW := Hd.mk (show ∀ s ∈ way, s.size ≤ 4194304 from fun s h => by
  have h1 := bulkL_mem ByteArray.size h
  unfold bulkStringS at hw; omega); clear hw
 have HL := Hd.mk hl; clear hl
 have hB := Hd.mk (Below.refl w.heap.size w)
 have HT := Hd.mk hT; have HE := Hd.mk hE; clear hT hE
 go_enter Tryd.func11, Tryd.ntmps11
 go_wp2_with fail
 apply calls_gen; intro W1 hW
 have hz_ : w.heap.size + 2 ≤ W1.heap.size := by rw [hW]; simp
 have hE : Below w.heap.size w W1 := by rw [hW]; (repeat (first | with_reducible refine below_alloc ?_ _ | with_reducible refine below_drew ?_)); exact Below.refl _ _
 have hB := hB.th hE
 have b0 := Hd.mk (show Blk W1 (w.heap.size) #[.int .i64 x.kind, .int .i64 x.n, .string x.s, .slice A1 x.list.length c1, .slice A2 x.names.length c2] 27 by rw [hW]; first | exact ((Blk.new _ _ _).alloc _) | (simpa using ((Blk.new _ _ _).alloc _)))
 have b1 := Hd.mk (show Blk W1 (w.heap.size + 1) #[.int .i64 0, .int .i64 0, .string ⟨#[]⟩, .slice none 0 0, .slice none 0 0] 27 by rw [hW]; first | exact (Blk.new1 _ _ _ _) | (simpa using (Blk.new1 _ _ _ _)))
 clear hW hE
 have z1 := Hd.mk hz_; clear hz_
 refine (impl_JsonOk x _ _ (Ty.K_below _ hB.out HK.out)).mono ?_
 rintro e w2 ⟨rfl, hX⟩
 have b0 := b0.dn hX
 have b1 := b1.dn hX
 have hB := hB.th hX
 have hz_ := hX.size
 clear hX
 have z2 := Hd.mk hz_; clear hz_
 cases hb : jsonOk x
 ·have HN := Hd.mk (show getB x way = false by unfold getB; rw [hb]; rfl)
  have HF := Hd.mk (show getJ x way = J.null by unfold getJ; rw [hb]; rfl)
  obtain ⟨v00, v01, v02, v03, v04, v0z⟩ := blk5 b0.out
  obtain ⟨v10, v11, v12, v13, v14, v1z⟩ := blk5 b1.out
  go_wp2_with fail
  refine bodyPost_retW (v := .tuple #[.agg #[.int .i64 0, .int .i64 0, .string ⟨#[]⟩, .slice none 0 0, .slice none 0 0], .bool false]) (by simp [results, Tryd.results11, go_sem, v00, v01, v02, v03, v04, v0z, v10, v11, v12, v13, v14, v1z]) rfl ?_
  intro W hW
  clear v00 v01 v02 v03 v04 v0z v10 v11 v12 v13 v14 v1z
  have hz_ : w2.heap.size ≤ W.heap.size := by rw [hW]; simp
  have eF : Fr w2 W (fun k => k = w.heap.size + 1 ∨ w2.heap.size ≤ k) := by rw [hW]; (repeat (first | with_reducible refine Fr.setCell ?_ _ (fun _ => by simp <;> omega) _ | with_reducible refine Fr.alloc ?_ _ | with_reducible refine Fr.drew ?_)); exact Fr.refl _ _
  have z1_ := z1.out; have z2_ := z2.out
  have hB := Hd.mk (((Fr.of_below hB.out (fun k => k = w.heap.size + 1 ∨ w2.heap.size ≤ k)).then_ eF (fun k hk _ => hk)).below (fun k hk => by have := hB.out.size; omega))
  have b0 := Hd.mk (b0.out.fr eF (fun h => by have hlt_ := b0.out.lt; (try simp only at h); omega))
  have b1 := Hd.mk (show Blk W (w.heap.size + 1) #[.int .i64 0, .int .i64 0, .string ⟨#[]⟩, .slice none 0 0, .slice none 0 0] 27 by rw [hW]; exact (Blk.all b1.out [Value.int IntKind.i64 0, .int .i64 0, .string ⟨#[]⟩, .slice none 0 0, .slice none 0 0] rfl))
  clear hW eF
  have z3 := Hd.mk hz_; clear hz_
  exact ⟨_, by rw [HN.out], by rw [HF.out]; exact ZJ m _ _, hB.out⟩
 ·have HOK := Hd.mk hb; clear hb
  obtain ⟨v00, v01, v02, v03, v04, v0z⟩ := blk5 b0.out
  obtain ⟨v10, v11, v12, v13, v14, v1z⟩ := blk5 b1.out
  go_wp2_with fail
  clear v00 v01 v02 v03 v04 v0z v10 v11 v12 v13 v14 v1z
  go_loopw [15] (fun i wr => ∃ (k : Nat) (M d : Nat) (y : J) (cs : List Value), k ≤ way.length ∧ i = .int .i64 k ∧ Hd ((tJ (M + 1)).K w y cs) ∧ Hd (M ≤ m ∧ sizeN (d + 1) y ≤ 400 ∧ bulkJ (M + 1) y ≤ 4194304 ∧ getV x way = getV y (way.drop k)) ∧ Hd (Blk wr w.heap.size cs.toArray 27) ∧ Hd (Blk wr (w.heap.size + 1) #[.int .i64 0, .int .i64 0, .string ⟨#[]⟩, .slice none 0 0, .slice none 0 0] 27) ∧ Hd (Below w.heap.size w wr)) (fun i _ => way.length - (intOf i).toNat)
  case atStart => exact ⟨0, m, 5, x, _, Nat.zero_le _, rfl, HK, ⟨Nat.le_refl _, of_decide_eq_true HOK.out, HL.out, rfl⟩, b0, b1, hB⟩
  case round =>
   clear hB b0 b1 z1 z2
   obtain ⟨k, M, d, y, cs, hk, rfl, HKY, HY, b0, b1, hB⟩ := hrel
   obtain ⟨A3, c3, A4, c4, rfl, hs3, ⟨hc3, hr3⟩, hc4, hr4⟩ := tJ_K.1 HKY.out
   have hm3 := hr3.1
   have HR3 := Hd.mk hr3; clear hr3 hr4
   have zq := Hd.mk hB.out.size
   have zb := Hd.mk b1.out.lt
   by_cases hlt : k < way.length
   ·obtain ⟨ad, rfl, x0, hsz⟩ := C_str_at HRW.out hB.out k hlt
    have hw4 := Hd.mk (HW.out _ (List.getElem_mem hlt))
    obtain ⟨v00, v01, v02, v03, v04, v0z⟩ := blk5 b0.out
    obtain ⟨v10, v11, v12, v13, v14, v1z⟩ := blk5 b1.out
    go_wp2_with fail
    clear v00 v01 v02 v03 v04 v0z v10 v11 v12 v13 v14 v1z
    clear x0
    apply calls_gen; intro W3 hW
    have hz_ : wr.heap.size ≤ W3.heap.size := by rw [hW]; simp
    have hE : Below wr.heap.size wr W3 := by rw [hW]; (repeat (first | with_reducible refine below_alloc ?_ _ | with_reducible refine below_drew ?_)); exact Below.refl _ _
    have hB := hB.th hE
    have b0 := b0.dn hE
    have b1 := b1.dn hE
    clear hW hE
    have z3 := Hd.mk hz_; clear hz_
    refine (impl_placeOf y _ way[k] _ (Ty.K_below _ hB.out HKY.out) (by have := hw4.out; omega) (HT.out.below hB.out) (HE.out.below hB.out)).mono ?_
    rintro e w4 ⟨rfl, hX⟩
    have b0 := b0.dn hX
    have b1 := b1.dn hX
    have hB := hB.th hX
    have hz_ := hX.size
    clear hX
    have z4 := Hd.mk hz_; clear hz_
    rw [place_eq (own_size HY.out.2.1)]
    obtain ⟨at_, hat⟩ : ∃ z, z = placeS y way[k] := ⟨_, rfl⟩
    rw [← hat]
    have HAT := Hd.mk hat; clear hat
    by_cases h0 : at_ < 0
    ·have HV := Hd.mk (show getV x way = none by rw [HY.out.2.2.2]; exact getV_no hlt (by rw [← HAT.out]; exact h0))
     have HN := Hd.mk (show getB x way = false by unfold getB; rw [HV.out]; simp)
     have HF := Hd.mk (show getJ x way = J.null by unfold getJ; rw [HV.out]; simp)
     obtain ⟨v00, v01, v02, v03, v04, v0z⟩ := blk5 b0.out
     obtain ⟨v10, v11, v12, v13, v14, v1z⟩ := blk5 b1.out
     go_wp2_with fail
     refine bodyPost_retW (v := .tuple #[.agg #[.int .i64 0, .int .i64 0, .string ⟨#[]⟩, .slice none 0 0, .slice none 0 0], .bool false]) (by simp [results, Tryd.results11, go_sem, v00, v01, v02, v03, v04, v0z, v10, v11, v12, v13, v14, v1z]) rfl ?_
     intro W hW
     clear v00 v01 v02 v03 v04 v0z v10 v11 v12 v13 v14 v1z
     have hz_ : w4.heap.size ≤ W.heap.size := by rw [hW]; simp
     have eF : Fr w4 W (fun k => k = (w.heap.size + 1) ∨ w4.heap.size ≤ k) := by rw [hW]; (repeat (first | with_reducible refine Fr.setCell ?_ _ (fun _ => by simp <;> omega) _ | with_reducible refine Fr.alloc ?_ _ | with_reducible refine Fr.drew ?_)); exact Fr.refl _ _
     have zb_ := zb.out; have zq_ := zq.out; have z3_ := z3.out; have z4_ := z4.out
     have hB := Hd.mk (((Fr.of_below hB.out (fun k => k = (w.heap.size + 1) ∨ w4.heap.size ≤ k)).then_ eF (fun k hk _ => hk)).below (fun k hk => by have := hB.out.size; omega))
     have b0 := Hd.mk (b0.out.fr eF (fun h => by have hlt_ := b0.out.lt; (try simp only at h); omega))
     have b1 := Hd.mk (show Blk W ((w.heap.size + 1)) #[.int .i64 0, .int .i64 0, .string ⟨#[]⟩, .slice none 0 0, .slice none 0 0] 27 by rw [hW]; exact (Blk.all b1.out [Value.int IntKind.i64 0, .int .i64 0, .string ⟨#[]⟩, .slice none 0 0, .slice none 0 0] rfl))
     clear hW eF
     have z5 := Hd.mk hz_; clear hz_
     exact ⟨_, by rw [HN.out], by rw [HF.out]; exact ZJ m _ _, hB.out⟩
    ·obtain ⟨q, rfl⟩ := Int.eq_ofNat_of_zero_le (Int.not_lt.1 h0)
     clear h0
     have h0 : (0 : Int) ≤ (q : Int) := by omega
     have hq := place_lt (own_size HY.out.2.1) _ HAT.out.symm
     have HG := Hd.mk (getV_yes hlt HAT.out.symm hq)
     obtain ⟨aq, cs0, rfl, hK0, e0, e1⟩ := C_at HR3.out (Below.refl _ _) q hq
     obtain ⟨M, rfl⟩ : ∃ m1 : Nat, M = m1 + 1 := by cases M with | zero => exact hK0.elim | succ M => exact ⟨M, rfl⟩
     obtain ⟨d, rfl, hsd⟩ := sizeN_at HY.out.2.1 q hq
     have HSD := Hd.mk hsd; clear hsd
     have HBK := Hd.mk (show bulkJ (M + 1) y.list[q] ≤ 4194304 by
      have h1 := bulkL_mem (bulkJ (M + 1)) (List.getElem_mem hq)
      have h2 := HY.out.2.2.1
      simp only [bulkJ] at h1 h2 ⊢
      omega)
     have HKe := Hd.mk hK0
     obtain ⟨A5, c5, A6, c6, rfl, hs5, ⟨hc5, hr5⟩, hc6, hr6⟩ := tJ_K.1 hK0
     have hm5 := hr5.1
     clear hK0 hr5 hr6
     have x0 : w4.cell? (aq.add (q * 5)) = some (.int .i64 y.list[q].kind) := cell_below hB.out (e0 _ rfl)
     have x1 : w4.cell? ⟨(aq.add (q * 5)).block, (aq.add (q * 5)).off + 1, none⟩ = some (.int .i64 y.list[q].n) := cell_below hB.out (e1 0 _ rfl)
     have x2 : w4.cell? ⟨(aq.add (q * 5)).block, (aq.add (q * 5)).off + 2, none⟩ = some (.string y.list[q].s) := cell_below hB.out (e1 1 _ rfl)
     have x3 : w4.cell? ⟨(aq.add (q * 5)).block, (aq.add (q * 5)).off + 3, none⟩ = some (.slice A5 y.list[q].list.length c5) := cell_below hB.out (e1 2 _ rfl)
     have x4 : w4.cell? ⟨(aq.add (q * 5)).block, (aq.add (q * 5)).off + 4, none⟩ = some (.slice A6 y.list[q].names.length c6) := cell_below hB.out (e1 3 _ rfl)
     clear e0 e1
     obtain ⟨v00, v01, v02, v03, v04, v0z⟩ := blk5 b0.out
     obtain ⟨v10, v11, v12, v13, v14, v1z⟩ := blk5 b1.out
     go_wp2_with fail
     obtain ⟨W, hW⟩ : ∃ W, W = (((((w4.setCell ⟨w.heap.size, 0, none⟩ (Value.int IntKind.i64 y.list[q].kind)).setCell ⟨w.heap.size, 1, none⟩ (Value.int IntKind.i64 y.list[q].n)).setCell ⟨w.heap.size, 2, none⟩ (Value.string y.list[q].s)).setCell ⟨w.heap.size, 3, none⟩ (Value.slice A5 y.list[q].list.length c5)).setCell ⟨w.heap.size, 4, none⟩ (Value.slice A6 y.list[q].names.length c6)) := ⟨_, rfl⟩
     rw [← hW]
     clear v00 v01 v02 v03 v04 v0z v10 v11 v12 v13 v14 v1z
     clear x0 x1 x2 x3 x4
     have hz_ : w4.heap.size ≤ W.heap.size := by rw [hW]; simp
     have eF : Fr w4 W (fun k => k = w.heap.size ∨ w4.heap.size ≤ k) := by rw [hW]; (repeat (first | with_reducible refine Fr.setCell ?_ _ (fun _ => by simp <;> omega) _ | with_reducible refine Fr.alloc ?_ _ | with_reducible refine Fr.drew ?_)); exact Fr.refl _ _
     have zb_ := zb.out; have zq_ := zq.out; have z3_ := z3.out; have z4_ := z4.out
     have hB := Hd.mk (((Fr.of_below hB.out (fun k => k = w.heap.size ∨ w4.heap.size ≤ k)).then_ eF (fun k hk _ => hk)).below (fun k hk => by have := hB.out.size; omega))
     have b0 := Hd.mk (show Blk W (w.heap.size) #[.int .i64 y.list[q].kind, .int .i64 y.list[q].n, .string y.list[q].s, .slice A5 y.list[q].list.length c5, .slice A6 y.list[q].names.length c6] 27 by rw [hW]; exact (Blk.all b0.out [Value.int IntKind.i64 y.list[q].kind, .int .i64 y.list[q].n, .string y.list[q].s, .slice A5 y.list[q].list.length c5, .slice A6 y.list[q].names.length c6] rfl))
     have b1 := Hd.mk (b1.out.fr eF (fun h => by have hlt_ := b1.out.lt; (try simp only at h); omega))
     clear hW eF
     have z5 := Hd.mk hz_; clear hz_
     go_roundw
     case rel => exact ⟨k + 1, M, d, y.list[q], _, by omega, by go_num, HKe, ⟨by have := HY.out.1; omega, HSD.out, HBK.out, by rw [HY.out.2.2.2, HG.out]⟩, b0, b1, hB⟩
     case measure => simp [intOf]; omega
   ·obtain rfl : k = way.length := by omega
    have HV := Hd.mk (show getV x way = some y by rw [HY.out.2.2.2, List.drop_length]; rfl)
    have HN := Hd.mk (show getB x way = true by unfold getB; rw [HOK.out, HV.out]; rfl)
    have HF := Hd.mk (show getJ x way = y by unfold getJ; rw [if_pos HOK.out, HV.out]; rfl)
    obtain ⟨v00, v01, v02, v03, v04, v0z⟩ := blk5 b0.out
    obtain ⟨v10, v11, v12, v13, v14, v1z⟩ := blk5 b1.out
    go_wp2_with fail
    clear v00 v01 v02 v03 v04 v0z v10 v11 v12 v13 v14 v1z
    have hBq := Hd.mk (Below.refl wr.heap.size wr)
    apply calls_gen; intro W3 hW
    have hz_ : wr.heap.size ≤ W3.heap.size := by rw [hW]; simp
    have hE : Below wr.heap.size wr W3 := by rw [hW]; (repeat (first | with_reducible refine below_alloc ?_ _ | with_reducible refine below_drew ?_)); exact Below.refl _ _
    have hB := hB.th hE
    have hBq := Hd.mk (below_then hBq.out hE)
    have b0 := b0.dn hE
    have b1 := b1.dn hE
    clear hW hE
    have z3 := Hd.mk hz_; clear hz_
    refine (impl_copyJson y _ _ (Ty.K_below _ hB.out HKY.out) HY.out.2.2.1).mono ?_
    rintro e w4 ⟨cs', rfl, hO, hX⟩
    have b0 := b0.dn hX
    have b1 := b1.dn hX
    have hB := hB.th hX
    have hz_ := hX.size
    have hBq := Hd.mk (below_then hBq.out hX)
    clear hX
    have z4 := Hd.mk hz_; clear hz_
    obtain ⟨v3, v4, _, _, rfl, hsz3, hr3, hr4, _⟩ := tJ_O.1 hO
    obtain ⟨D3, d3, rfl, _, _⟩ := R_C hr3
    obtain ⟨D4, d4, rfl, _, _⟩ := R_C hr4
    clear hr3 hr4
    replace hO := Hd.mk (show (tJ (M + 1)).O w4 (rng W3.heap.size w4.heap.size) y _ from Ty.O_bound _ hO)
    obtain ⟨v00, v01, v02, v03, v04, v0z⟩ := blk5 b0.out
    obtain ⟨v10, v11, v12, v13, v14, v1z⟩ := blk5 b1.out
    go_wp2_with fail
    refine bodyPost_retW (v := .tuple #[.agg #[.int .i64 y.kind, .int .i64 y.n, .string y.s, .slice D3 y.list.length d3, .slice D4 y.names.length d4], .bool true]) (by simp [results, Tryd.results11, go_sem, v00, v01, v02, v03, v04, v0z, v10, v11, v12, v13, v14, v1z]) rfl ?_
    intro W hW
    clear v00 v01 v02 v03 v04 v0z v10 v11 v12 v13 v14 v1z
    have hz_ : w4.heap.size ≤ W.heap.size := by rw [hW]; simp
    have eF : Fr w4 W (fun k => k = (w.heap.size + 1) ∨ w4.heap.size ≤ k) := by rw [hW]; (repeat (first | with_reducible refine Fr.setCell ?_ _ (fun _ => by simp <;> omega) _ | with_reducible refine Fr.alloc ?_ _ | with_reducible refine Fr.drew ?_)); exact Fr.refl _ _
    have zb_ := zb.out; have zq_ := zq.out; have z3_ := z3.out; have z4_ := z4.out
    have hB := Hd.mk (((Fr.of_below hB.out (fun k => k = (w.heap.size + 1) ∨ w4.heap.size ≤ k)).then_ eF (fun k hk _ => hk)).below (fun k hk => by have := hB.out.size; omega))
    have b0 := Hd.mk (b0.out.fr eF (fun h => by have hlt_ := b0.out.lt; (try simp only at h); omega))
    have b1 := Hd.mk (show Blk W ((w.heap.size + 1)) #[.int .i64 y.kind, .int .i64 y.n, .string y.s, .slice D3 y.list.length d3, .slice D4 y.names.length d4] 27 by rw [hW]; exact (Blk.all b1.out [Value.int IntKind.i64 y.kind, .int .i64 y.n, .string y.s, .slice D3 y.list.length d3, .slice D4 y.names.length d4] rfl))
    have hO := Hd.mk (Ty.O_fr hO.out eF (fun k hk hl h => by skip; (try simp only [rng] at hk); (try simp only at hk); (try simp only at h); omega))
    clear hW eF
    have z5 := Hd.mk hz_; clear hz_
    exact ⟨[Value.int IntKind.i64 y.kind, .int .i64 y.n, .string y.s, .slice D3 y.list.length d3, .slice D4 y.names.length d4], by rw [HN.out], by rw [HF.out]; exact (tJ_le (by have := HY.out.1; omega : M + 1 ≤ m + 1)).O _ _ _ _ (Ty.O_mono _ (fun k hk => by have := hk.1; have := hB.out.size; have := zq.out; have zb_ := zb.out; have zq_ := zq.out; have z3_ := z3.out; have z4_ := z4.out; omega) hO.out), hB.out⟩
def maxN {α : Type} (f : α → Nat) : List α → Nat
 | [] => 0
 | x :: l => max (f x) (maxN f l)
theorem maxN_append {α : Type} (f : α → Nat) (l m : List α) : maxN f (l ++ m) = max (maxN f l) (maxN f m) := by
 induction l with
 | nil => simp [maxN]
 | cons x l ih => simp only [List.cons_append, maxN, ih]; omega
theorem maxN_take {α : Type} (f : α → Nat) (l : List α) (k : Nat) (hk : k < l.length) : maxN f (l.take (k + 1)) = max (maxN f (l.take k)) (f l[k]) := by
 rw [List.take_succ_eq_append_getElem hk, maxN_append]; simp [maxN]
theorem maxN_le {α : Type} (f : α → Nat) (b : Nat) (h : ∀ x, f x ≤ b) : ∀ l : List α, maxN f l ≤ b
 | [] => Nat.zero_le _
 | x :: l => by have := h x; have := maxN_le f b h l; simp only [maxN]; omega
def depthD : Nat → J → Nat
 | 0, _ => 0
 | d + 1, j => maxN (depthD d) j.list + 1
theorem depthD_le : ∀ (d : Nat) (j : J), depthD d j ≤ d
 | 0, _ => Nat.le_refl _
 | d + 1, j => by have := maxN_le (depthD d) d (depthD_le d) j.list; simp only [depthD]; omega
theorem sumZ_mem {α : Type} (f : α → Int) (h : ∀ x, 0 ≤ f x) {l : List α} {x : α} (hx : x ∈ l) : f x ≤ sumZ f l := by
 induction l with
 | nil => cases hx
 | cons y l ih =>
  simp only [sumZ]
  have h1 := h y
  have h2 := sumZ_pos f h l
  rcases List.mem_cons.1 hx with rfl | hx
  ·omega
  ·have := ih hx; omega
theorem size_part {d : Nat} {x y : J} (h : sizeN (d + 1) x ≤ 400) (hy : y ∈ x.list) : sizeN d y ≤ 400 := by
 have := sumZ_mem (sizeN d) (sizeN_pos d) hy
 unfold sizeN at h
 split at h <;> omega
def jsonDepth (x : J) : Int := if sizeN 6 x ≤ 400 then depthD 6 x else 0
theorem J_ext {x y : J} (h0 : x.kind = y.kind) (h1 : x.n = y.n) (h2 : x.s = y.s) (h3 : x.list = y.list) (h4 : x.names = y.names) : x = y := by
 cases x; cases y
 exact J.mk.injEq .. ▸ ⟨h0, h1, h2, h3, h4⟩
set_option maxRecDepth 100000 in
theorem slices_Equal_str (A A2 : Option Addr) (c c2 : Nat) (l l2 : List ByteArray) (w : World) (hr : str.C w A l) (hr2 : str.C w A2 l2) :
  Calls Tryd.prog 76 #[.slice A l.length c, .slice A2 l2.length c2] w fun e w' => e = .returned (.bool (eqv l l2)) ∧ Below w.heap.size w w' := by
 have hm := hr.1
 have hm2 := hr2.1
 go_enter Tryd.func76, Tryd.ntmps76
 by_cases hlen : l.length = l2.length
 ·have hd : ((l.length : Int) != l2.length) = false := by simp [hlen]
  have HL := Hd.mk hlen
  have HC := Hd.mk hr
  have HC2 := Hd.mk hr2
  clear hr hr2 hlen
  go_wp2
  go_loopw [13] (fun i wr => ∃ k : Nat, k ≤ l.length ∧ i = .int .i64 k ∧ Hd (l.take k = l2.take k) ∧ Hd (Below w.heap.size w wr)) (fun i _ => l.length - (intOf i).toNat)
  case atStart => exact ⟨0, Nat.zero_le _, rfl, ⟨rfl⟩, ⟨Below.refl _ _⟩⟩
  case round =>
   obtain ⟨k, hk, rfl, HK, HB⟩ := hrel
   by_cases hlt : k < l.length
   ·obtain ⟨ad, rfl, hx, hsz⟩ := C_str_at HC.out HB.out k hlt
    have hlt2 : k < l2.length := by have := HL.out; omega
    obtain ⟨ad2, rfl, hx2, hsz2⟩ := C_str_at HC2.out HB.out k hlt2
    cases hb : (l[k].toList == l2[k].toList)
    rotate_left
    ·go_wp2
     go_quiet (fail)
     go_wp2
     go_roundw
     case rel => 
      refine ⟨k + 1, by omega, by go_num, ⟨?_⟩, ⟨?_⟩⟩
      ·have hb : l[k] = l2[k] := bytes_eq.1 hb
       rw [List.take_succ_eq_append_getElem hlt, List.take_succ_eq_append_getElem hlt2, HK.out, hb]
      ·exact below_drewN HB.out _
     case measure => simp [intOf]; omega
    ·have HN := Hd.mk (eqv_at k hlt hlt2 (fun h => by rw [h] at hb; simp at hb))
     go_wp2
     go_quiet (fail)
     go_wp2
     go_ret
     exact ⟨by rw [HN.out]; rfl, below_drewN HB.out _⟩
   ·obtain rfl : k = l.length := by omega
    go_wp2
    go_ret
    have h1 := HK.out
    rw [List.take_length, HL.out, List.take_length] at h1
    exact ⟨by rw [eqv_iff.2 h1]; rfl, HB.out⟩
 ·have hd : ((l.length : Int) != l2.length) = true := by simp; omega
  have HN := Hd.mk (eqv_len hlen)
  go_wp2
  go_ret
  exact ⟨by rw [HN.out]; rfl, Below.refl _ _⟩
def AlikeC (m : Nat) : Prop := ∀ (x y : J) (cs cs2 : List Value) (w : World), (tJ m).K w x cs → (tJ m).K w y cs2 →
 Calls Tryd.prog 48 #[.agg cs.toArray, .agg cs2.toArray] w fun e w' => e = .returned (.bool (eqv x y)) ∧ Below w.heap.size w w'
set_option maxRecDepth 100000 in
theorem slices_EqualFunc_alike {m : Nat} (ih : AlikeC m) (A A2 : Option Addr) (c c2 : Nat) (l l2 : List J) (w : World) (hr : (tJ m).C w A l) (hr2 : (tJ m).C w A2 l2) :
  Calls Tryd.prog 77 #[.slice A l.length c, .slice A2 l2.length c2, .func (.func 48) #[] #[]] w fun e w' => e = .returned (.bool (eqv l l2)) ∧ Below w.heap.size w w' := by
 have hm := hr.1
 have hm2 := hr2.1
 go_enter Tryd.func77, Tryd.ntmps77
 by_cases hlen : l.length = l2.length
 ·have hd : ((l.length : Int) != l2.length) = false := by simp [hlen]
  have HL := Hd.mk hlen
  have HC := Hd.mk hr
  have HC2 := Hd.mk hr2
  clear hr hr2 hlen
  go_wp2_with fail
  go_loopw [17] (fun i wr => ∃ k : Nat, k ≤ l.length ∧ i = .int .i64 k ∧ Hd (l.take k = l2.take k) ∧ Hd (Below w.heap.size w wr)) (fun i _ => l.length - (intOf i).toNat)
  case atStart => exact ⟨0, Nat.zero_le _, rfl, ⟨rfl⟩, ⟨Below.refl _ _⟩⟩
  case round =>
   obtain ⟨k, hk, rfl, HK1, HB⟩ := hrel
   by_cases hlt : k < l.length
   ·have hlt2 : k < l2.length := by have := HL.out; omega
    obtain ⟨m, rfl⟩ : ∃ m1 : Nat, m = m1 + 1 := by
     cases m with
     | zero => obtain ⟨_, _, _, h, _⟩ := C_at HC.out (Below.refl _ _) k hlt; exact h.elim
     | succ m => exact ⟨m, rfl⟩
    obtain ⟨ad, A3, c3, A4, c4, rfl, x0, x1, x2, x3, x4, hs4, hr3, hr4⟩ := C_J_at HC.out HB.out k hlt
    have HK4 := Hd.mk (tJ_K.2 ⟨A3, c3, A4, c4, rfl, hs4, hr3, hr4⟩ : (tJ (m + 1)).K wr l[k] _)
    obtain ⟨ad2, A5, c5, A6, c6, rfl, y0, y1, y2, y3, y4, hs5, hr5, hr6⟩ := C_J_at HC2.out HB.out k hlt2
    have HK5 := Hd.mk (tJ_K.2 ⟨A5, c5, A6, c6, rfl, hs5, hr5, hr6⟩ : (tJ (m + 1)).K wr l2[k] _)
    clear hr3 hr4 hr5 hr6
    have z0 := fun o => cell_below (below_alloc (Below.refl _ _) o) y0
    have z1 := fun o => cell_below (below_alloc (Below.refl _ _) o) y1
    have z2 := fun o => cell_below (below_alloc (Below.refl _ _) o) y2
    have z3 := fun o => cell_below (below_alloc (Below.refl _ _) o) y3
    have z4 := fun o => cell_below (below_alloc (Below.refl _ _) o) y4
    go_wp2_with fail
    apply calls_gen; intro W hW
    have hX : Below wr.heap.size wr W := by rw [hW]; (repeat (with_reducible refine below_alloc ?_ _)); exact Below.refl _ _
    clear hW
    refine (ih l[k] l2[k] _ _ W ((tJ (m + 1)).K_below hX HK4.out) ((tJ (m + 1)).K_below hX HK5.out)).mono ?_
    rintro e w1 ⟨rfl, hB1⟩
    have hB2 := below_then HB.out (below_then hX hB1)
    clear hX hB1
    cases hb : eqv l[k] l2[k]
    ·have HN := Hd.mk (eqv_at k hlt hlt2 (fun h => by rw [h, eqv_self] at hb; cases hb))
     go_wp2_with fail
     go_ret
     exact ⟨by rw [HN.out]; rfl, hB2⟩
    ·have HE := Hd.mk (eqv_iff.1 hb)
     go_wp2_with fail
     go_roundw
     case rel =>
      refine ⟨k + 1, by omega, by go_num, ⟨?_⟩, ⟨hB2⟩⟩
      rw [List.take_succ_eq_append_getElem hlt, List.take_succ_eq_append_getElem hlt2, HK1.out, HE.out]
     case measure => simp [intOf]; omega
   ·obtain rfl : k = l.length := by omega
    go_wp2_with fail
    go_ret
    have h1 := HK1.out
    rw [List.take_length, HL.out, List.take_length] at h1
    exact ⟨by rw [eqv_iff.2 h1]; rfl, HB.out⟩
 ·have hd : ((l.length : Int) != l2.length) = true := by simp; omega
  have HN := Hd.mk (eqv_len hlen)
  go_wp2_with fail
  go_ret
  exact ⟨by rw [HN.out]; rfl, Below.refl _ _⟩
set_option maxRecDepth 100000 in
theorem impl_alike_of {m : Nat} (ih : AlikeC m) : AlikeC (m + 1) := by
 intro x y cs cs2 w hk hk2
 have HK := Hd.mk hk
 have HKb := Hd.mk hk2
 obtain ⟨A1, c1, A2, c2, rfl, hs, ⟨hc1, hr1⟩, hc2, hr2⟩ := tJ_K.1 hk
 obtain ⟨Ab1, cb1, Ab2, cb2, rfl, hsb, ⟨hcb1, hrb1⟩, hcb2, hrb2⟩ := tJ_K.1 hk2
 clear hk hk2
 have hm1 := hr1.1
 have hm2 := hr2.1
 have hmb1 := hrb1.1
 have hmb2 := hrb2.1
 have HR1 := Hd.mk hr1; clear hr1
 have HR2 := Hd.mk hr2; clear hr2
 have HRb1 := Hd.mk hrb1; clear hrb1
 have HRb2 := Hd.mk hrb2; clear hrb2
 have hB := Hd.mk (show Below w.heap.size w ((w.alloc (Obj.cells #[.int .i64 x.kind, .int .i64 x.n, .string x.s, .slice A1 x.list.length c1, .slice A2 x.names.length c2] 27)).alloc (Obj.cells #[.int .i64 y.kind, .int .i64 y.n, .string y.s, .slice Ab1 y.list.length cb1, .slice Ab2 y.names.length cb2] 27)) from below_alloc (below_alloc (Below.refl _ _) _) _)
 have b0 : Blk ((w.alloc (Obj.cells #[.int .i64 x.kind, .int .i64 x.n, .string x.s, .slice A1 x.list.length c1, .slice A2 x.names.length c2] 27)).alloc (Obj.cells #[.int .i64 y.kind, .int .i64 y.n, .string y.s, .slice Ab1 y.list.length cb1, .slice Ab2 y.names.length cb2] 27)) w.heap.size #[.int .i64 x.kind, .int .i64 x.n, .string x.s, .slice A1 x.list.length c1, .slice A2 x.names.length c2] 27 := (Blk.new w _ _).alloc _
 have b1 : Blk ((w.alloc (Obj.cells #[.int .i64 x.kind, .int .i64 x.n, .string x.s, .slice A1 x.list.length c1, .slice A2 x.names.length c2] 27)).alloc (Obj.cells #[.int .i64 y.kind, .int .i64 y.n, .string y.s, .slice Ab1 y.list.length cb1, .slice Ab2 y.names.length cb2] 27)) (w.heap.size + 1) #[.int .i64 y.kind, .int .i64 y.n, .string y.s, .slice Ab1 y.list.length cb1, .slice Ab2 y.names.length cb2] 27 := Blk.new1 w _ _ _
 go_enter Tryd.func48, Tryd.ntmps48
 cases h0 : (x.kind == y.kind)
 ·have HN := Hd.mk (eqv_no (a := x) (b := y) (fun h => by rw [h] at h0; simp at h0))
  go_wp2_with fail
  go_ret
  exact ⟨by rw [HN.out]; rfl, by exact hB.out⟩
 cases h1 : (x.n == y.n)
 ·have HN := Hd.mk (eqv_no (a := x) (b := y) (fun h => by rw [h] at h1; simp at h1))
  go_wp2_with fail
  go_ret
  exact ⟨by rw [HN.out]; rfl, by exact hB.out⟩
 cases h2 : (x.s.toList == y.s.toList)
 ·have HN := Hd.mk (eqv_no (a := x) (b := y) (fun h => by rw [h] at h2; simp at h2))
  go_wp2_with fail
  go_ret
  exact ⟨by rw [HN.out]; rfl, by exact hB.out⟩
 go_wp2_with fail
 apply calls_gen; intro W0 hW
 replace b0 : Blk W0 w.heap.size #[.int .i64 x.kind, .int .i64 x.n, .string x.s, .slice A1 x.list.length c1, .slice A2 x.names.length c2] 27 := by rw [hW]; exact b0
 replace b1 : Blk W0 (w.heap.size + 1) #[.int .i64 y.kind, .int .i64 y.n, .string y.s, .slice Ab1 y.list.length cb1, .slice Ab2 y.names.length cb2] 27 := by rw [hW]; exact b1
 replace hB : Hd (Below w.heap.size w W0) := by rw [hW]; exact hB
 clear hW
 refine (slices_Equal_str _ _ _ _ x.names y.names _ (C_below HR2.out hB.out) (C_below HRb2.out hB.out)).mono ?_
 rintro e w1 ⟨rfl, hX⟩
 replace b0 := b0.below hX
 replace b1 := b1.below hX
 replace hB := Hd.mk (below_then hB.out hX)
 clear hX
 have p3 : w1.cell? ⟨w.heap.size, 3, none⟩ = some (.slice A1 x.list.length c1) := b0.cell 3 rfl
 have q3 : w1.cell? ⟨w.heap.size + 1, 3, none⟩ = some (.slice Ab1 y.list.length cb1) := b1.cell 3 rfl
 cases h4 : eqv x.names y.names
 ·have HN := Hd.mk (eqv_no (a := x) (b := y) (fun h => by rw [h, eqv_self] at h4; cases h4))
  go_wp2_with fail
  go_ret
  exact ⟨by rw [HN.out]; rfl, hB.out⟩
 go_wp2_with fail
 refine (slices_EqualFunc_alike ih _ _ _ _ x.list y.list _ (C_below HR1.out hB.out) (C_below HRb1.out hB.out)).mono ?_
 rintro e w2 ⟨rfl, hX⟩
 replace hB := Hd.mk (below_then hB.out hX)
 clear hX
 have HE := Hd.mk (show eqv x y = eqv x.list y.list by
  cases h3 : eqv x.list y.list
  ·exact eqv_no (fun h => by rw [h, eqv_self] at h3; cases h3)
  ·exact eqv_iff.2 (J_ext (by simpa using h0) (by simpa using h1) (bytes_eq.1 h2) (eqv_iff.1 h3) (eqv_iff.1 h4)))
 go_wp2_with fail
 go_ret
 exact ⟨by rw [HE.out]; rfl, hB.out⟩
theorem alike_all : ∀ m, AlikeC m
 | 0 => fun _ _ _ _ _ hk => hk.elim
 | m + 1 => impl_alike_of (alike_all m)
noncomputable def jsonSame (x y : J) : Bool := jsonOk x && (jsonOk y && eqv x y)
set_option maxRecDepth 100000 in
theorem impl_JsonSame {m : Nat} (x y : J) (cs cs2 : List Value) (w : World) (hk : (tJ (m + 1)).K w x cs) (hk2 : (tJ (m + 1)).K w y cs2) :
  Calls Tryd.prog 12 #[.agg cs.toArray, .agg cs2.toArray] w fun e w' => e = .returned (.bool (jsonSame x y)) ∧ Below w.heap.size w w' := by
 have HK := Hd.mk hk
 have HKb := Hd.mk hk2
 obtain ⟨A1, c1, A2, c2, rfl, hs, ⟨hc1, hr1⟩, hc2, hr2⟩ := tJ_K.1 hk
 obtain ⟨Ab1, cb1, Ab2, cb2, rfl, hsb, ⟨hcb1, hrb1⟩, hcb2, hrb2⟩ := tJ_K.1 hk2
 clear hk hk2
 have hm1 := hr1.1
 have hm2 := hr2.1
 have hmb1 := hrb1.1
 have hmb2 := hrb2.1
 have HR1 := Hd.mk hr1; clear hr1
 have HR2 := Hd.mk hr2; clear hr2
 have HRb1 := Hd.mk hrb1; clear hrb1
 have HRb2 := Hd.mk hrb2; clear hrb2
 have hB := Hd.mk (show Below w.heap.size w ((w.alloc (Obj.cells #[.int .i64 x.kind, .int .i64 x.n, .string x.s, .slice A1 x.list.length c1, .slice A2 x.names.length c2] 27)).alloc (Obj.cells #[.int .i64 y.kind, .int .i64 y.n, .string y.s, .slice Ab1 y.list.length cb1, .slice Ab2 y.names.length cb2] 27)) from below_alloc (below_alloc (Below.refl _ _) _) _)
 have b0 : Blk ((w.alloc (Obj.cells #[.int .i64 x.kind, .int .i64 x.n, .string x.s, .slice A1 x.list.length c1, .slice A2 x.names.length c2] 27)).alloc (Obj.cells #[.int .i64 y.kind, .int .i64 y.n, .string y.s, .slice Ab1 y.list.length cb1, .slice Ab2 y.names.length cb2] 27)) w.heap.size #[.int .i64 x.kind, .int .i64 x.n, .string x.s, .slice A1 x.list.length c1, .slice A2 x.names.length c2] 27 := (Blk.new w _ _).alloc _
 have b1 : Blk ((w.alloc (Obj.cells #[.int .i64 x.kind, .int .i64 x.n, .string x.s, .slice A1 x.list.length c1, .slice A2 x.names.length c2] 27)).alloc (Obj.cells #[.int .i64 y.kind, .int .i64 y.n, .string y.s, .slice Ab1 y.list.length cb1, .slice Ab2 y.names.length cb2] 27)) (w.heap.size + 1) #[.int .i64 y.kind, .int .i64 y.n, .string y.s, .slice Ab1 y.list.length cb1, .slice Ab2 y.names.length cb2] 27 := Blk.new1 w _ _ _
 go_enter Tryd.func12, Tryd.ntmps12
 go_wp2_with fail
 apply calls_gen; intro W0 hW
 replace b0 : Blk W0 w.heap.size #[.int .i64 x.kind, .int .i64 x.n, .string x.s, .slice A1 x.list.length c1, .slice A2 x.names.length c2] 27 := by rw [hW]; exact b0
 replace b1 : Blk W0 (w.heap.size + 1) #[.int .i64 y.kind, .int .i64 y.n, .string y.s, .slice Ab1 y.list.length cb1, .slice Ab2 y.names.length cb2] 27 := by rw [hW]; exact b1
 replace hB : Hd (Below w.heap.size w W0) := by rw [hW]; exact hB
 clear hW
 refine (impl_JsonOk x _ W0 ((tJ (m + 1)).K_below hB.out HK.out)).mono ?_
 rintro e w1 ⟨rfl, hX⟩
 replace b0 := b0.below hX
 replace b1 := b1.below hX
 replace hB := Hd.mk (below_then hB.out hX)
 clear hX
 have p0 : w1.cell? ⟨w.heap.size, 0, none⟩ = some (.int .i64 x.kind) := b0.cell 0 rfl
 have q0 : w1.cell? ⟨w.heap.size + 1, 0, none⟩ = some (.int .i64 y.kind) := b1.cell 0 rfl
 have p1 : w1.cell? ⟨w.heap.size, 1, none⟩ = some (.int .i64 x.n) := b0.cell 1 rfl
 have q1 : w1.cell? ⟨w.heap.size + 1, 1, none⟩ = some (.int .i64 y.n) := b1.cell 1 rfl
 have p2 : w1.cell? ⟨w.heap.size, 2, none⟩ = some (.string x.s) := b0.cell 2 rfl
 have q2 : w1.cell? ⟨w.heap.size + 1, 2, none⟩ = some (.string y.s) := b1.cell 2 rfl
 have p3 : w1.cell? ⟨w.heap.size, 3, none⟩ = some (.slice A1 x.list.length c1) := b0.cell 3 rfl
 have q3 : w1.cell? ⟨w.heap.size + 1, 3, none⟩ = some (.slice Ab1 y.list.length cb1) := b1.cell 3 rfl
 have p4 : w1.cell? ⟨w.heap.size, 4, none⟩ = some (.slice A2 x.names.length c2) := b0.cell 4 rfl
 have q4 : w1.cell? ⟨w.heap.size + 1, 4, none⟩ = some (.slice Ab2 y.names.length cb2) := b1.cell 4 rfl
 cases h1 : jsonOk x
 ·have HN := Hd.mk (show jsonSame x y = false by rw [jsonSame, h1]; rfl)
  go_wp2_with fail
  go_ret
  exact ⟨by rw [HN.out]; rfl, hB.out⟩
 have HE := Hd.mk (show jsonSame x y = (jsonOk y && eqv x y) by rw [jsonSame, h1]; rfl)
 clear h1
 go_wp2_with fail
 refine (impl_JsonOk y _ w1 ((tJ (m + 1)).K_below hB.out HKb.out)).mono ?_
 rintro e w2 ⟨rfl, hX⟩
 clear p0 p1 p2 p3 p4 q0 q1 q2 q3 q4
 replace b0 := b0.below hX
 replace b1 := b1.below hX
 replace hB := Hd.mk (below_then hB.out hX)
 clear hX
 have p0 : w2.cell? ⟨w.heap.size, 0, none⟩ = some (.int .i64 x.kind) := b0.cell 0 rfl
 have q0 : w2.cell? ⟨w.heap.size + 1, 0, none⟩ = some (.int .i64 y.kind) := b1.cell 0 rfl
 have p1 : w2.cell? ⟨w.heap.size, 1, none⟩ = some (.int .i64 x.n) := b0.cell 1 rfl
 have q1 : w2.cell? ⟨w.heap.size + 1, 1, none⟩ = some (.int .i64 y.n) := b1.cell 1 rfl
 have p2 : w2.cell? ⟨w.heap.size, 2, none⟩ = some (.string x.s) := b0.cell 2 rfl
 have q2 : w2.cell? ⟨w.heap.size + 1, 2, none⟩ = some (.string y.s) := b1.cell 2 rfl
 have p3 : w2.cell? ⟨w.heap.size, 3, none⟩ = some (.slice A1 x.list.length c1) := b0.cell 3 rfl
 have q3 : w2.cell? ⟨w.heap.size + 1, 3, none⟩ = some (.slice Ab1 y.list.length cb1) := b1.cell 3 rfl
 have p4 : w2.cell? ⟨w.heap.size, 4, none⟩ = some (.slice A2 x.names.length c2) := b0.cell 4 rfl
 have q4 : w2.cell? ⟨w.heap.size + 1, 4, none⟩ = some (.slice Ab2 y.names.length cb2) := b1.cell 4 rfl
 cases h1 : jsonOk y
 ·have HN := Hd.mk (show jsonSame x y = false by rw [HE.out, h1]; rfl)
  go_wp2_with fail
  go_ret
  exact ⟨by rw [HN.out]; rfl, hB.out⟩
 replace HE := Hd.mk (show jsonSame x y = eqv x y by rw [HE.out, h1]; rfl)
 clear h1
 go_wp2_with fail
 refine (alike_all (m + 1) x y _ _ w2 ((tJ (m + 1)).K_below hB.out HK.out) ((tJ (m + 1)).K_below hB.out HKb.out)).mono ?_
 rintro e w3 ⟨rfl, hX⟩
 replace hB := Hd.mk (below_then hB.out hX)
 clear hX
 go_wp2_with fail
 go_ret
 exact ⟨by rw [HE.out]; rfl, hB.out⟩
theorem sumZ_congr {α : Type} (f g : α → Int) : ∀ l : List α, (∀ x ∈ l, f x = g x) → sumZ f l = sumZ g l
 | [], _ => rfl
 | x :: l, h => by simp only [sumZ]; rw [h x (by simp), sumZ_congr f g l (fun y hy => h y (by simp [hy]))]
theorem sizeN_up : ∀ (d : Nat) (x : J), sizeN d x ≤ 400 → sizeN (d + 1) x = sizeN d x
 | 0, x, h => by simp [sizeN] at h
 | d + 1, x, h => by
  have h1 : sumZ (sizeN (d + 1)) x.list = sumZ (sizeN d) x.list := sumZ_congr _ _ _ (fun y hy => sizeN_up d y (size_part h hy))
  show (if ownB x = true ∧ 1 + sumZ (sizeN (d + 1)) x.list ≤ 400 then 1 + sumZ (sizeN (d + 1)) x.list else 401) = _
  rw [h1]; rfl
theorem sizeN_to {d e : Nat} (h : d ≤ e) {x : J} (hx : sizeN d x ≤ 400) : sizeN e x ≤ 400 := by
 obtain ⟨i, rfl⟩ : ∃ i, e = d + i := ⟨e - d, by omega⟩
 clear h
 induction i with
 | zero => exact hx
 | succ i ih => rw [← Nat.add_assoc, sizeN_up _ _ ih]; exact ih
theorem size_own {d : Nat} {x : J} (h : sizeN (d + 1) x ≤ 400) : ownB x = true ∧ sizeN (d + 1) x = 1 + sumZ (sizeN d) x.list := by
 unfold sizeN at h ⊢
 split at h
 ·rename_i h1
  exact ⟨h1.1, by rw [if_pos h1]⟩
 ·omega
theorem textB_size {s : ByteArray} (h : textB s = true) : s.size ≤ 60 := by
 unfold textB at h
 simp only [Bool.and_eq_true, decide_eq_true_eq] at h
 omega
theorem namesB_size {l : List ByteArray} (h : namesB l = true) : ∀ s ∈ l, s.size ≤ 60 := by
 intro s hs
 obtain ⟨k, hk, rfl⟩ := List.mem_iff_getElem.1 hs
 have h1 := List.all_eq_true.1 h k (List.mem_range.2 hk)
 rw [nameStep_at hk, Bool.and_eq_true] at h1
 exact textB_size h1.1
theorem bytes_nil' {s : ByteArray} : (s.toList == []) = true ↔ s = ByteArray.empty := by
 have : (s.toList == ByteArray.empty.toList) = true ↔ s = ByteArray.empty := bytes_eq
 simpa using this
theorem own_facts {x : J} (h : ownB x = true) : x.s.size ≤ 60 ∧ x.names.length ≤ x.list.length ∧ ∀ s ∈ x.names, s.size ≤ 60 := by
 unfold ownB at h
 split at h
 ·cases h
 split at h
 ·cases h
 rename_i h2
 split at h
 ·cases h
 split at h
 ·cases h
 rename_i h4
 have hs : x.kind ≠ 3 → x.s.size = 0 := by
  intro hk
  have : x.s.toList == [] := by
   cases hb : (x.s.toList == [])
   ·simp [hb, hk] at h4
   ·rfl
  rw [bytes_nil'.1 this]; rfl
 have hn : x.kind ≠ 5 → x.names = [] := by
  intro hk
  cases hb : x.names with
  | nil => rfl
  | cons a l => simp [hb, hk] at h2
 by_cases h5 : x.kind = 5
 ·have h6 : (((x.names.length : Int) == x.list.length) && namesB x.names) = true := by
   rw [h5] at h; exact h
  rw [Bool.and_eq_true] at h6
  refine ⟨by have := hs (by omega); omega, by have := h6.1; simp at this; omega, namesB_size h6.2⟩
 ·rw [hn h5]
  refine ⟨?_, by simp, by simp⟩
  by_cases h3 : x.kind = 3
  ·rw [h3] at h
   exact textB_size h
  ·have := hs h3; omega
theorem bulk_names {l : List ByteArray} (h : ∀ s ∈ l, s.size ≤ 60) : bulkStringS l ≤ 61 * l.length := by
 unfold bulkStringS
 induction l with
 | nil => simp [bulkL]
 | cons a l ih =>
  have h1 := h a (by simp)
  have h2 := ih (fun s hs => h s (by simp [hs]))
  simp only [bulkL, List.length_cons] at h2 ⊢
  omega
theorem bulkL_sum {α : Type} (f : α → Nat) (g : α → Int) (c e : Nat) : ∀ l : List α, (∀ x ∈ l, (f x : Int) + e ≤ c * g x) → (bulkL f l : Int) + e * l.length ≤ c * sumZ g l
 | [], _ => by simp [bulkL, sumZ]
 | x :: l, h => by
  have h1 := h x (by simp)
  have h2 := bulkL_sum f g c e l (fun y hy => h y (by simp [hy]))
  simp only [bulkL, sumZ, List.length_cons]
  have h3 : (c : Int) * (g x + sumZ g l) = c * g x + c * sumZ g l := by rw [Int.mul_add]
  have h4 : (e : Int) * ((l.length + 1 : Nat) : Int) = e * l.length + e := by push_cast; rw [Int.mul_add, Int.mul_one]
  rw [h3, h4]
  push_cast
  omega
theorem bulk_size : ∀ (m d : Nat) (x : J), sizeN d x ≤ 400 → (bulkJ m x : Int) + (62 : Nat) ≤ (122 : Nat) * sizeN d x
 | 0, d, x, h => by have := (sizeN_bound d x).1; simp only [bulkJ]; omega
 | m + 1, 0, x, h => by simp [sizeN] at h
 | m + 1, d + 1, x, h => by
  obtain ⟨ho, he⟩ := size_own h
  obtain ⟨h1, h2, h3⟩ := own_facts ho
  have h4 := bulk_names h3
  have h5 := bulkL_sum (bulkJ m) (sizeN d) 122 62 x.list (fun y hy => bulk_size m d y (size_part h hy))
  rw [he]
  simp only [bulkJ]
  push_cast at h5 ⊢
  omega
theorem cn_size : ∀ (m d : Nat) (x : J), sizeN d x ≤ 400 → (cnJ m x : Int) + (1 : Nat) ≤ (4 : Nat) * sizeN d x
 | 0, d, x, h => by have := (sizeN_bound d x).1; simp only [cnJ]; omega
 | m + 1, 0, x, h => by simp [sizeN] at h
 | m + 1, d + 1, x, h => by
  obtain ⟨ho, he⟩ := size_own h
  obtain ⟨h1, h2, h3⟩ := own_facts ho
  have h5 := bulkL_sum (cnJ m) (sizeN d) 4 1 x.list (fun y hy => cn_size m d y (size_part h hy))
  rw [he]
  simp only [cnJ]
  push_cast at h5 ⊢
  omega
theorem sum_len (d : Nat) : ∀ l : List J, (l.length : Int) ≤ sumZ (sizeN d) l
 | [] => by simp [sumZ]
 | x :: l => by have := sum_len d l; have := (sizeN_bound d x).1; simp only [sumZ, List.length_cons]; push_cast; omega
theorem list_len {d : Nat} {x : J} (h : sizeN (d + 1) x ≤ 400) : x.list.length ≤ 399 := by
 obtain ⟨_, he⟩ := size_own h
 have := sum_len d x.list
 omega
theorem own5 {j : J} (h : ownB j = true) (hk : (j.kind == 5) = true) : j.n = 0 ∧ j.s = ⟨#[]⟩ ∧ UpB j.names ∧ j.names.length = j.list.length := by
  have hk5 : j.kind = 5 := by simpa using hk
  unfold ownB at h
  simp only [hk5] at h
  split at h
  · cases h
  split at h
  · cases h
  split at h
  · cases h
  rename_i h3
  split at h
  · cases h
  rename_i h4
  split at h
  · rename_i h5; exact absurd h5 (by decide)
  split at h
  · rename_i h5; exact absurd h5 (by decide)
  split at h
  · rename_i h5; exact absurd h5 (by decide)
  split at h
  · simp only [Bool.and_eq_true] at h
    refine ⟨?_, ?_, namesB_up h.2, by have := h.1; simp at this; omega⟩
    · simpa using h3
    · refine bytes_ext ?_
      rw [show (⟨#[]⟩ : ByteArray).toList = [] from by rw [ByteArray.toList_eq]]
      simpa using h4
  · rename_i h5; exact absurd rfl h5
def endSg : ByteArray := ⟨#[45]⟩
def addAt (j : J) (s : ByteArray) : Int := if (s.toList == endSg.toList) = true then (j.list.length : Int) else idxS s.data.toList
def insJ (j : J) (q : Nat) (v : J) : J := ⟨j.kind, j.n, j.s, j.list.take q ++ v :: j.list.drop q, j.names⟩
def addV (j : J) (s : ByteArray) (v : J) : Option J :=
  if (j.kind == 5) = true then some (putJ j v s)
  else if ((j.kind == 4) && inB (addAt j s) 0 j.list.length) = true then some (insJ j (addAt j s).toNat v)
  else none
def dropV (j : J) (q : Nat) : J := ⟨j.kind, j.n, j.s, j.list.eraseIdx q, if (j.kind == 5) = true then j.names.eraseIdx q else j.names⟩
def setV (j : J) (q : Nat) (z : J) : J := ⟨j.kind, j.n, j.s, j.list.set q z, j.names⟩
noncomputable def wholeV (o : JOp) (j : J) : Option J := if (o.kind == 2) = true then none else if (o.kind == 4) = true then (if eqv j o.value = true then some j else none) else some o.value
noncomputable def patV (o : JOp) : List ByteArray → J → Option J
  | [], j => wholeV o j
  | s :: r, j =>
    if ((o.kind == 1) && r.isEmpty) = true then addV j s o.value
    else if placeS j s < 0 then none
    else if ((o.kind == 2) && r.isEmpty) = true then some (dropV j (placeS j s).toNat)
    else match j.list[(placeS j s).toNat]? with
      | some y => (patV o r y).map (setV j (placeS j s).toNat)
      | none => none
theorem pat_add {o : JOp} {s : ByteArray} {j : J} (h : (o.kind == 1) = true) : patV o [s] j = addV j s o.value := by
  unfold patV; rw [if_pos (by rw [h]; rfl)]
theorem pat_no {o : JOp} {s : ByteArray} {r : List ByteArray} {j : J} (h : ((o.kind == 1) && r.isEmpty) = false) (hp : placeS j s < 0) : patV o (s :: r) j = none := by
  unfold patV; rw [if_neg (by rw [h]; decide), if_pos hp]
theorem pat_drop {o : JOp} {s : ByteArray} {j : J} {q : Nat} (h : (o.kind == 2) = true) (hp : placeS j s = (q : Int)) : patV o [s] j = some (dropV j q) := by
  have h1 : (o.kind == 1) = false := by have : o.kind = 2 := by simpa using h
                                        rw [this]; decide
  unfold patV; rw [if_neg (by rw [h1]; decide), hp, if_neg (by omega), if_pos (by rw [h]; rfl)]; rfl
theorem pat_in {o : JOp} {s : ByteArray} {r : List ByteArray} {j : J} {q : Nat} (h : ((o.kind == 1) && r.isEmpty) = false) (h2 : ((o.kind == 2) && r.isEmpty) = false) (hp : placeS j s = (q : Int)) (hq : q < j.list.length) :
    patV o (s :: r) j = (patV o r j.list[q]).map (setV j q) := by
  rw [patV, if_neg (by rw [h]; decide), hp, if_neg (by omega), if_neg (by rw [h2]; decide)]
  simp only [Int.toNat_natCast, List.getElem?_eq_getElem hq]
theorem setV_self (j : J) (q : Nat) (hq : q < j.list.length) : setV j q j.list[q] = j := by
  unfold setV
  rw [List.set_getElem_self]
  cases j; rfl
theorem add_old {j v : J} {s : ByteArray} (ho : ownB j = true) (hk : (j.kind == 5) = true) (h : hasB j.names s = true) : posB j.names s < j.list.length ∧ addV j s v = some (setV j (posB j.names s) v) := by
  obtain ⟨h1, h2, h3, h4⟩ := own5 ho hk
  unfold hasB at h
  simp only [Bool.and_eq_true, decide_eq_true_eq] at h
  refine ⟨by omega, ?_⟩
  have hk5 : j.kind = 5 := by simpa using hk
  unfold addV
  rw [if_pos hk, putJ_old h3 h4 h.1 (by have := h.2; rw [List.getD_eq_getElem?_getD, List.getElem?_eq_getElem h.1] at this; exact this)]
  unfold setV
  rw [hk5, h1, h2]
theorem add_new {j v : J} {s : ByteArray} (ho : ownB j = true) (hk : (j.kind == 5) = true) (h : hasB j.names s = false) : posB j.names s ≤ j.list.length ∧ addV j s v = some ⟨j.kind, j.n, j.s, j.list.take (posB j.names s) ++ v :: j.list.drop (posB j.names s), j.names.take (posB j.names s) ++ s :: j.names.drop (posB j.names s)⟩ := by
  obtain ⟨h1, h2, h3, h4⟩ := own5 ho hk
  have hp := posB_le j.names s
  refine ⟨by omega, ?_⟩
  have hk5 : j.kind = 5 := by simpa using hk
  unfold addV
  rw [if_pos hk, putJ_new h3 h4 (fun hlt => by
    unfold hasB at h
    rw [List.getD_eq_getElem?_getD, List.getElem?_eq_getElem hlt] at h
    simpa [hlt] using h), hk5, h1, h2]
theorem R_elem5 {m : Nat} {w : World} {S : Nat → Prop} {g c q : Nat} {l : List J} (hR : (tJ (m + 1)).R 27 w S (.slice (some ⟨g, 0, none⟩) l.length c) l) (hq : q < l.length) :
  ∃ (Si : Nat → Prop) (A B : Option Addr) (a b : Nat), (tJ (m + 1)).H 27 w S (.slice (some ⟨g, 0, none⟩) l.length c) l q Si [.int .i64 l[q].kind, .int .i64 l[q].n, .string l[q].s, .slice A l[q].list.length a, .slice B l[q].names.length b] ∧
   (tJ (m + 1)).O w Si l[q] [.int .i64 l[q].kind, .int .i64 l[q].n, .string l[q].s, .slice A l[q].list.length a, .slice B l[q].names.length b] ∧ S g ∧ g < w.heap.size ∧
   (w.cell? ⟨g, q * 5, none⟩ = some (.int .i64 l[q].kind) ∧ w.cell? ⟨g, q * 5 + 1, none⟩ = some (.int .i64 l[q].n) ∧ w.cell? ⟨g, q * 5 + 2, none⟩ = some (.string l[q].s) ∧ w.cell? ⟨g, q * 5 + 3, none⟩ = some (.slice A l[q].list.length a) ∧ w.cell? ⟨g, q * 5 + 4, none⟩ = some (.slice B l[q].names.length b)) ∧
   (∀ j, w.frozen? ⟨g, j, none⟩ = false) ∧ l.length ≤ c ∧ c ≤ 9223372036854775807 := by
 obtain ⟨Si, cs, hH, hO⟩ := R_H hR (List.getElem?_eq_getElem hq)
 obtain ⟨v3, v4, _, _, rfl, _, h3, h4, _⟩ := tJ_O.1 hO
 obtain ⟨A, a, rfl, _, _⟩ := R_C h3
 obtain ⟨B, b, rfl, _, _⟩ := R_C h4
 obtain ⟨g2, cap, hv, hl, hc, hS, hg, _, hcell, hfz⟩ := H_cells hH (show 0 < 5 by decide)
 injection hv with e1 _ e3
 injection e1 with e1
 injection e1 with e1 _ _
 subst e1; subst e3
 exact ⟨Si, A, B, a, b, hH, hO, hS, hg, ⟨hcell 0 _ rfl, hcell 1 _ rfl, hcell 2 _ rfl, hcell 3 _ rfl, hcell 4 _ rfl⟩, hfz, hl, hc⟩
theorem one_cell {u : Value} (h : u.oneCell' = true) : u.cells = #[u] := by
 cases u <;> first | rfl | (exact absurd h (by simp [Value.oneCell']))
theorem H_set5 {m : Nat} {w : World} {S S' Si T : Nat → Prop} {g c q : Nat} {l : List J} {cs : List Value} {z : J} {d0 d1 d2 d3 d4 : Value} (hH : (tJ (m + 1)).H 27 w S (.slice (some ⟨g, 0, none⟩) l.length c) l q Si cs) (hcs : cs.length = 5)
  (hO : (tJ (m + 1)).O w T z [d0, d1, d2, d3, d4]) (hTg : ¬ T g) (hT : ∀ k, T k → Si k ∨ ¬ S k) (hS : ∀ k, S k → S' k) (hT' : ∀ k, T k → S' k) :
  (tJ (m + 1)).R 27 (((((w.setCell ⟨g, q * 5, none⟩ d0).setCell ⟨g, q * 5 + 1, none⟩ d1).setCell ⟨g, q * 5 + 2, none⟩ d2).setCell ⟨g, q * 5 + 3, none⟩ d3).setCell ⟨g, q * 5 + 4, none⟩ d4) S' (.slice (some ⟨g, 0, none⟩) l.length c) (l.set q z) := by
 have h1 := Ty.K_one _ (Ty.O_K _ hO)
 have k0 := one_cell (h1 d0 (by simp)); have k1 := one_cell (h1 d1 (by simp)); have k2 := one_cell (h1 d2 (by simp)); have k3 := one_cell (h1 d3 (by simp)); have k4 := one_cell (h1 d4 (by simp))
 have e := H_store (H_store (H_store (H_store (H_store hH 0 (show 0 < 5 by decide) d0 k0) 1 (show 1 < 5 by decide) d1 k1) 2 (show 2 < 5 by decide) d2 k2) 3 (show 3 < 5 by decide) d3 k3) 4 (show 4 < 5 by decide) d4 k4
 have hc : ((((cs.set 0 d0).set 1 d1).set 2 d2).set 3 d3).set 4 d4 = [d0, d1, d2, d3, d4] := by
  match cs, hcs with
  | [a, b, c, d, e], _ => rfl
 rw [hc] at e
 refine H_back (x' := z) (T := T) e ?_ hT hS hT'
 exact Ty.O_setCell (Ty.O_setCell (Ty.O_setCell (Ty.O_setCell (Ty.O_setCell hO hTg _) hTg _) hTg _) hTg _) hTg _
theorem Fr.set5 (w : World) (g a0 a1 a2 a3 a4 : Nat) (d0 d1 d2 d3 d4 : Value) : Fr w (((((w.setCell ⟨g, a0, none⟩ d0).setCell ⟨g, a1, none⟩ d1).setCell ⟨g, a2, none⟩ d2).setCell ⟨g, a3, none⟩ d3).setCell ⟨g, a4, none⟩ d4) (fun k => k = g) :=
 (((((Fr.refl w (fun k => k = g)).setCell _ (fun _ => rfl) d0).setCell _ (fun _ => rfl) d1).setCell _ (fun _ => rfl) d2).setCell _ (fun _ => rfl) d3).setCell _ (fun _ => rfl) d4
def PatPost (m : Nat) (w : World) (S : Nat → Prop) (r : Option J) (e : Ending) (w' : World) : Prop :=
 (∃ z cs', r = some z ∧ e = .returned (.tuple #[.agg cs'.toArray, .bool true]) ∧ (tJ m).O w' (fun k => w.heap.size ≤ k ∨ S k) z cs' ∧ Fr w w' S) ∨
 (∃ (a b : Int) (s : ByteArray) (A B : Option Addr) (n c n2 d : Nat), r = none ∧ e = .returned (.tuple #[.agg #[.int .i64 a, .int .i64 b, .string s, .slice A n c, .slice B n2 d], .bool false]) ∧ Fr w w' S)
theorem pat_some {m : Nat} {w w' : World} {S : Nat → Prop} {r : Option J} {e : Ending} {z : J} {cs : List Value} (h1 : r = some z) (h2 : e = .returned (.tuple #[.agg cs.toArray, .bool true])) (h3 : (tJ m).O w' (fun k => w.heap.size ≤ k ∨ S k) z cs) (h4 : Fr w w' S) : PatPost m w S r e w' := .inl ⟨z, cs, h1, h2, h3, h4⟩
theorem pat_none {m : Nat} {w w' : World} {S : Nat → Prop} {r : Option J} {e : Ending} {a b : Int} {s : ByteArray} {A B : Option Addr} {n c n2 d : Nat} (h1 : r = none) (h2 : e = .returned (.tuple #[.agg #[.int .i64 a, .int .i64 b, .string s, .slice A n c, .slice B n2 d], .bool false])) (h4 : Fr w w' S) : PatPost m w S r e w' := .inr ⟨a, b, s, A, B, n, c, n2, d, h1, h2, h4⟩
def Bnd (B : Nat) (j : J) : Prop := ∀ m, bulkJ m j ≤ B
theorem Bnd.list {B : Nat} {j : J} (h : Bnd B j) : j.list.length ≤ B := by
 have h1 := h 1
 simp only [bulkJ] at h1
 omega
theorem Bnd.names {B : Nat} {j : J} (h : Bnd B j) : j.names.length ≤ B ∧ ∀ s ∈ j.names, s.size ≤ B := by
 have h1 := h 1
 simp only [bulkJ, bulkStringS] at h1
 exact ⟨by omega, fun s hs => by have := bulkL_mem ByteArray.size hs; omega⟩
theorem Bnd.elem {B : Nat} {j : J} (h : Bnd B j) {x : J} (hx : x ∈ j.list) : Bnd B x := by
 intro m
 have h1 := h (m + 1)
 have h2 := bulkL_mem (bulkJ m) hx
 simp only [bulkJ] at h1
 omega
def drawWays : List ByteArray := [⟨#[97]⟩, ⟨#[48]⟩, ⟨#[49]⟩, ⟨#[45]⟩, ⟨#[114, 111, 119, 115]⟩, ⟨#[48, 48]⟩, ⟨#[122, 122]⟩]
theorem R_none {w : World} {S : Nat → Prop} {v : Value} {l : List J} {p : Nat} (h : (tJ 0).R 27 w S v l) (hp : p < l.length) : False := by
 obtain ⟨inner, f, _, _, hx⟩ := h
 exact hx p l[p] (by simp [hp])
theorem R_emptyS {W : World} {n : Nat} (hn : W.heap.size = n) : str.R 9 (W.alloc (.cells #[] 9)) (fun k => n ≤ k) (.slice (some ⟨n, 0, none⟩) 0 0) [] := by
 subst hn
 exact R_empty str 9 W
theorem R_str1 {W0 : World} (s : ByteArray) (hs : s.size ≤ 9223372036854775807) : str.R 9 (W0.alloc (.cells #[.string s] 9)) (fun k => k = W0.heap.size) (.slice (some ⟨W0.heap.size, 0, none⟩) 1 1) [s] := by
 refine R_block (xs := [s]) (cap := 1) (heap_alloc_new W0 _) rfl (Nat.le_refl _) (by omega) (by simp [show str.sz = 1 from rfl]) (fun _ => 0) (fun i x h => ?_)
 rcases i with _ | i
 ·simp at h
  subst h
  exact ⟨rfl, hs⟩
 ·simp at h
set_option maxHeartbeats 8000000 in
set_option maxRecDepth 100000 in
theorem spec_l3DrawWay {m B : Nat} {S : Nat → Prop} (j : J) (cs : List Value) (W0 w : World) (g : Nat) (hB : B ≤ 1000000) (hO : (tJ (m + 1)).O w S j cs) (hSg : ¬ S g) (hbj : Bnd B j) (hc : Cur W0 w g) :
  Calls Tryd.prog 53 #[.pointer (some ⟨g, 0, none⟩), .agg cs.toArray] w fun e w' => ∃ (v : Value) (way : List ByteArray), e = .returned v ∧ str.R 9 w' (fun k => w.heap.size ≤ k) v way ∧ way.length ≤ 6 ∧ (∀ s ∈ way, s.size ≤ B + 60) ∧ Cur W0 w' g ∧ Fr w w' (fun k => k = g) := by
 have HBB := Hd.mk hB; clear hB
 have hO := Hd.mk (Ty.O_bound _ hO)
 have hSg := Hd.mk hSg
 obtain ⟨v3, v4, _, _, rfl, _, hr3, hr4, _⟩ := tJ_O.1 hO.out
 obtain ⟨A3, c3, rfl, _, _⟩ := R_C hr3
 obtain ⟨A4, c4, rfl, _, _⟩ := R_C hr4
 clear hr3 hr4
 have HBN := Hd.mk hbj; clear hbj
 have hg := Hd.mk hc.lt
 have hC := Hd.mk hc; clear hc
 have hB := Hd.mk (Fr.refl w (fun k => k = g))
 go_enter Tryd.func53, Tryd.ntmps53
 go_wp2_with fail
 go_loopw [5, 6, 7, 8] (fun o i at_ s_ wr => ∃ (k m : Nat) (j : J) (A3 A4 : Option Addr) (c3 c4 : Nat) (vv : Value) (way : List ByteArray), k ≤ 5 ∧ i = .int .i64 k ∧ vv = o ∧ Hd (way.length = k) ∧ Hd (∀ s ∈ way, s.size ≤ B + 60) ∧ Hd (Bnd B j) ∧ Hd (Blk wr w.heap.size #[.int .i64 j.kind, .int .i64 j.n, .string j.s, .slice A3 j.list.length c3, .slice A4 j.names.length c4] 27) ∧ Hd ((tJ (m + 1)).O wr (fun q => S q ∧ q < w.heap.size) j [Value.int IntKind.i64 j.kind, .int .i64 j.n, .string j.s, .slice A3 j.list.length c3, .slice A4 j.names.length c4]) ∧ Hd (str.R 9 wr (fun q => w.heap.size < q) vv way) ∧ Hd (Cur W0 wr g) ∧ Hd (Fr w wr (fun k => k = g)) ∧ Hd (w.heap.size + 2 ≤ wr.heap.size)) (fun _ i _ _ _ => 5 - (intOf i).toNat)
 case atStart =>
  refine ⟨0, m, j, A3, A4, c3, c4, _, [], Nat.zero_le _, rfl, rfl, ⟨rfl⟩, ⟨by simp⟩, HBN, ⟨Blk.alloc (Blk.new _ _ _) _⟩, ⟨Ty.O_below hO.out (below_alloc (below_alloc (Below.refl _ _) _) _)⟩, ⟨R_mono (fun q h => by have h : w.heap.size + 1 ≤ q := h; omega) (R_emptyS (by simp))⟩, ⟨hC.out.below (below_alloc (below_alloc (Below.refl _ _) _) _)⟩, ⟨(hB.out.alloc _).alloc _⟩, ⟨by simp⟩⟩
 case round =>
  clear hO HBN hC hB
  obtain ⟨k, m, j, A3, A4, c3, c4, vv, way, hk5, rfl, rfl, HLW, HWS, HBN, b0, hO, hWy, hC, hB, hzw⟩ := hrel
  have hk0 : (0 : Int) ≤ (k : Int) := by omega
  obtain ⟨AW, cW, hvW, hcW, _⟩ := R_C hWy.out
  subst hvW
  obtain ⟨n, hn⟩ : ∃ z, z = way.length := ⟨_, rfl⟩
  have hWy0 := hWy.out
  rw [← hn] at hWy0 hcW ⊢
  replace hWy := Hd.mk hWy0; clear hWy0
  have hn5 : n ≤ 5 := by have := HLW.out; omega
  have HLWK := Hd.mk HLW.out
  replace HLW := Hd.mk hn.symm
  have HNK := Hd.mk (show n = k by rw [hn]; exact HLWK.out); clear hn
  have hlb := HBN.out.list
  have hBB_ := HBB.out
  have hl9 : j.list.length ≤ 1000000 := by omega
  have hn9 : j.names.length ≤ 1000000 := by have := HBN.out.names.1; omega
  clear hlb hBB_
  by_cases hk5l : (k : Int) < 5
  ·by_cases hl0 : (0 : Int) < (j.list.length : Int)
   ·have v00 : wr.cell? ⟨w.heap.size, 0, none⟩ = some (.int .i64 j.kind) := b0.out.cell 0 rfl
    have v01 : wr.cell? ⟨w.heap.size, 1, none⟩ = some (.int .i64 j.n) := b0.out.cell 1 rfl
    have v02 : wr.cell? ⟨w.heap.size, 2, none⟩ = some (.string j.s) := b0.out.cell 2 rfl
    have v03 : wr.cell? ⟨w.heap.size, 3, none⟩ = some (.slice A3 j.list.length c3) := b0.out.cell 3 rfl
    have v04 : wr.cell? ⟨w.heap.size, 4, none⟩ = some (.slice A4 j.names.length c4) := b0.out.cell 4 rfl
    have v0z := b0.out.frozen
    go_wp2_with fail
    clear v00 v01 v02 v03 v04 v0z
    refine (spec_l1Once 4 W0 _ g hC.out).mono ?_
    rintro e w1 ⟨bo, rfl, hC1, hX⟩
    have hC := Hd.mk hC1; clear hC1
    have hSz0 := hB.out.size
    have hg_ := hg.out
    have hzw_ := hzw.out
    have b0 := Hd.mk (b0.out.fr hX (fun h => by skip; (try simp only at h); omega))
    have hO := Hd.mk (Ty.O_fr hO.out hX (fun k hk hl h => by have q_ := hk; have h_ : k = g := h; have hn_ : (1 : Int) = 2 := (hSg.out (h_ ▸ q_.1)).elim; (try simp only [rng] at hk); (try simp only at hk); (try simp only at h); omega))
    have hWy := Hd.mk (R_fr hWy.out hX (fun k hk hl h => by have q_ := hk; have hg_ := hg.out; have h_ : k = g := h; (try simp only [rng] at hk); (try simp only at hk); (try simp only at h); omega))
    have hB := Hd.mk (hB.out.trans hX)
    have hz_ := hX.size
    clear hSz0 hg_ hX
    have z1 := Hd.mk hz_; clear hz_
    cases bo
    ·have v00 : w1.cell? ⟨w.heap.size, 0, none⟩ = some (.int .i64 j.kind) := b0.out.cell 0 rfl
     have v01 : w1.cell? ⟨w.heap.size, 1, none⟩ = some (.int .i64 j.n) := b0.out.cell 1 rfl
     have v02 : w1.cell? ⟨w.heap.size, 2, none⟩ = some (.string j.s) := b0.out.cell 2 rfl
     have v03 : w1.cell? ⟨w.heap.size, 3, none⟩ = some (.slice A3 j.list.length c3) := b0.out.cell 3 rfl
     have v04 : w1.cell? ⟨w.heap.size, 4, none⟩ = some (.slice A4 j.names.length c4) := b0.out.cell 4 rfl
     have v0z := b0.out.frozen
     go_wp2_with fail
     clear v00 v01 v02 v03 v04 v0z
     refine (spec_l1Below j.list.length W0 _ g hC.out).mono ?_
     rintro e w2 ⟨x, rfl, x0, x1, _, hC1, hX⟩
     have hC := Hd.mk hC1; clear hC1
     have hSz0 := hB.out.size
     have hg_ := hg.out
     have hzw_ := hzw.out; have z1_ := z1.out
     have b0 := Hd.mk (b0.out.fr hX (fun h => by skip; (try simp only at h); omega))
     have hO := Hd.mk (Ty.O_fr hO.out hX (fun k hk hl h => by have q_ := hk; have h_ : k = g := h; have hn_ : (1 : Int) = 2 := (hSg.out (h_ ▸ q_.1)).elim; (try simp only [rng] at hk); (try simp only at hk); (try simp only at h); omega))
     have hWy := Hd.mk (R_fr hWy.out hX (fun k hk hl h => by have q_ := hk; have hg_ := hg.out; have h_ : k = g := h; (try simp only [rng] at hk); (try simp only at hk); (try simp only at h); omega))
     have hB := Hd.mk (hB.out.trans hX)
     have hz_ := hX.size
     clear hSz0 hg_ hX
     have z2 := Hd.mk hz_; clear hz_
     replace x1 := x1 hl0
     obtain ⟨p, rfl⟩ := Int.eq_ofNat_of_zero_le x0
     have hp : p < j.list.length := by omega
     obtain ⟨v00, v01, v02, v03, v04, v0z⟩ := blk5 b0.out
     go_wp2_with fail
     clear v00 v01 v02 v03 v04 v0z
     refine (spec_l2Digits (p : Int) _ (by omega) (by omega)).mono ?_
     rintro e w3 ⟨rfl, hX⟩
     have b0 := b0.dn hX
     have hO := hO.ob hX
     have hWy := Hd.mk (R_below hWy.out hX)
     have hB := Hd.mk (hB.out.trans (Fr.of_below hX _))
     have hC := Hd.mk (hC.out.below hX)
     have hz_ := hX.size
     clear hX
     have z3 := Hd.mk hz_; clear hz_
     obtain ⟨s, hs⟩ : ∃ z : ByteArray, z = ⟨(Lib.itoa (p : Int)).toArray⟩ := ⟨_, rfl⟩
     rw [← hs]
     have hs6 : s.size ≤ 60 := by rw [hs]; have h1 := itoa_len (p : Int) (by omega); show (Lib.itoa (p : Int)).toArray.size ≤ 60; simp; omega
     have HSB := Hd.mk (show s.size ≤ B + 60 by omega)
     have hs99 : s.size ≤ 1000 := by omega
     clear hs hs6
     by_cases hk5 : j.kind = 5
     ·by_cases hpn : (p : Int) < (j.names.length : Int)
      ·obtain ⟨v3, v4, T3, T4, e_, _, _, hr4, _⟩ := tJ_O.1 hO.out
       simp only [List.cons.injEq, and_true, true_and] at e_
       obtain ⟨rfl, rfl⟩ := e_
       have hpN : p < j.names.length := by omega
       obtain ⟨ad4, had4, x4, _⟩ := C_str_at (R_Cv hr4) (Below.refl _ _) p hpN
       subst had4
       have HSB2 := Hd.mk (show j.names[p].size ≤ B + 60 by have := HBN.out.names.2 _ (List.getElem_mem hpN); omega)
       clear hr4
       have hk5d : decide (j.kind = 5) = true := decide_eq_true hk5
       have hk5b : (j.kind == 5) = true := by simpa using hk5
       clear hk5
       obtain ⟨sn, hsn⟩ : ∃ z, z = j.names[p] := ⟨_, rfl⟩
       rw [← hsn] at x4 HSB2
       clear hsn
       have hsz_ := HSB2.out
       have hBB_ := HBB.out
       obtain ⟨v00, v01, v02, v03, v04, v0z⟩ := blk5 b0.out
       have hE0 := Hd.mk (show str.R 9 (w3.alloc (.cells #[.string sn] 9)) (fun k => k = w3.heap.size) (.slice (some ⟨w3.heap.size, 0, none⟩) 1 1) [sn] from R_str1 sn (by omega))
       have hzw_ := hzw.out; have z1_ := z1.out; have z2_ := z2.out; have z3_ := z3.out
       go_wp2_with (at_builtin; refine append_str rfl _ _ 25 9 (.string ByteArray.empty) 16 rfl Tryd.underlying25 info_str rfl (by decide) (S := fun q => (fun q => w.heap.size < q) q ∧ q < w3.heap.size) (S' := (fun q => w.heap.size < q)) (v := .slice AW n cW) (xs := way) (ys := [sn]) (A := some ⟨w3.heap.size, 0, none⟩) (c := 1) rfl rfl (R_below (R_bound hWy.out) (below_alloc (Below.refl _ _) _)) (R_Cv hE0.out) (fun q h => h.1) (fun q h => by (try simp at h); omega) (by have := HLW.out; simp; omega) (fun v2 w4 hv2 hX0 => ?_); obtain ⟨way2, hl2⟩ : ∃ z, z = way ++ [sn] := ⟨_, rfl⟩; rw [← hl2] at hv2; have HL2 := Hd.mk hl2; clear hl2; obtain ⟨A5, c5, hv2e, hc5, _⟩ := R_C hv2; subst hv2e; have hX := (Fr.of_below (below_alloc (Below.refl w3.heap.size w3) _) _).trans hX0; have hO7 := Ty.O_fr hO.out hX (fun q hq hl h => by have q_ := h.1; have q2_ := hq.2; (try simp only at q_); omega); obtain ⟨v3, v4, T3, T4, e_, _, hr3, _, t3, _⟩ := tJ_O.1 hO7; simp only [List.cons.injEq, and_true, true_and] at e_; obtain ⟨rfl, rfl⟩ := e_; obtain ⟨m, rfl⟩ : ∃ m1 : Nat, m = m1 + 1 := by { cases m with | zero => exact (R_none hr3 hp).elim | succ m => exact ⟨m, rfl⟩ }; obtain ⟨gL, capL, hgL, _, _⟩ := R_form hr3 (by omega); injection hgL with hgL _ hcL; subst hgL; subst hcL; obtain ⟨Si, A6, B6, a6, b6, hH6, hO6, _, _, ⟨y0, y1, y2, y3, y4⟩, _, _, _⟩ := R_elem5 hr3 hp; have hsub := H_sub hH6; have Yb0 := b0.out.fr hX (fun h => by have q_ := h.1; (try simp only at q_); omega); have yb0_0 := Yb0.cell 0 rfl; have yb0_1 := Yb0.cell 1 rfl; have yb0_2 := Yb0.cell 2 rfl; have yb0_3 : w4.cell? ⟨w.heap.size, 3, none⟩ = some (.slice (some ⟨gL, 0, none⟩) j.list.length c3) := Yb0.cell 3 rfl; have yb0_4 := Yb0.cell 4 rfl; have yb0_z := Yb0.frozen)
       clear v00 v01 v02 v03 v04 v0z
       go_roundw
       case rel =>
        clear Yb0 yb0_0 yb0_1 yb0_2 yb0_3 yb0_4 yb0_z y0 y1 y2 y3 y4 hX0 hE0
        have key : ∀ W, W = (((((w4.setCell ⟨w.heap.size, 0, none⟩ (Value.int IntKind.i64 j.list[p].kind)).setCell ⟨w.heap.size, 1, none⟩ (Value.int IntKind.i64 j.list[p].n)).setCell ⟨w.heap.size, 2, none⟩ (Value.string j.list[p].s)).setCell ⟨w.heap.size, 3, none⟩ (Value.slice A6 j.list[p].list.length a6)).setCell ⟨w.heap.size, 4, none⟩ (Value.slice B6 j.list[p].names.length b6)) → ∃ (k1 m : Nat) (j : J) (A3 A4 : Option Addr) (c3 c4 : Nat) (vv : Value) (way : List ByteArray), k1 ≤ 5 ∧ (Value.int IntKind.i64 ((k : Int) + 1) : Value) = .int .i64 k1 ∧ vv = .slice A5 way2.length c5 ∧ Hd (way.length = k1) ∧ Hd (∀ s ∈ way, s.size ≤ B + 60) ∧ Hd (Bnd B j) ∧ Hd (Blk W w.heap.size #[.int .i64 j.kind, .int .i64 j.n, .string j.s, .slice A3 j.list.length c3, .slice A4 j.names.length c4] 27) ∧ Hd ((tJ (m + 1)).O W (fun q => S q ∧ q < w.heap.size) j [Value.int IntKind.i64 j.kind, .int .i64 j.n, .string j.s, .slice A3 j.list.length c3, .slice A4 j.names.length c4]) ∧ Hd (str.R 9 W (fun q => w.heap.size < q) vv way) ∧ Hd (Cur W0 W g) ∧ Hd (Fr w W (fun k => k = g)) ∧ Hd (w.heap.size + 2 ≤ W.heap.size) := by
         intro W hW
         have hO := Hd.mk (show (tJ (m + 1)).O w4 (fun q => S q ∧ q < w.heap.size) j.list[p] _ from Ty.O_mono _ (fun q h => (t3 q (hsub q h))) hO6)
         have hWy := Hd.mk (R_bound hv2)
         clear hv2 hO7 hr3 hH6 hO6
         have hzw_ := hzw.out; have z1_ := z1.out; have z2_ := z2.out; have z3_ := z3.out
         have hSz := hB.out.size
         have b0 := Hd.mk (b0.out.fr hX (fun h => by have hlt_ := b0.out.lt; have hh_ := h.1; (try simp only [rng] at h); (try simp only at h); omega))
         have hC := Hd.mk (hC.out.fr hX (fun h => by have hg_ := hg.out; have hlt_ := hC.out.lt; have hh_ := h.1; (try simp only [rng] at h); (try simp only at h); omega) (fun k h => by have hg_ := hg.out; have hge_ := hC.out.ge; have hh_ := h.1; (try simp only [rng] at h); (try simp only at h); omega))
         have hB := Hd.mk (hB.out.then_ hX (fun k h hl => by have hh_ := h.1; (try simp only [rng] at h); (try simp only at h); omega))
         have hz_ := hX.size
         clear hX
         have z4 := Hd.mk hz_; clear hz_
         have hz_ : w4.heap.size ≤ W.heap.size := by rw [hW]; simp
         have eF : Fr w4 W (fun k => k = w.heap.size ∨ w4.heap.size ≤ k) := by rw [hW]; (repeat (first | with_reducible refine Fr.setCell ?_ _ (fun _ => by simp <;> omega) _ | with_reducible refine Fr.alloc ?_ _ | with_reducible refine Fr.drew ?_)); exact Fr.refl _ _
         have hzw_ := hzw.out; have z1_ := z1.out; have z2_ := z2.out; have z3_ := z3.out; have z4_ := z4.out
         have hC := Hd.mk (hC.out.fr eF (fun h => by have hg_ := hg.out; have hlt_ := hC.out.lt; (try simp only [rng] at h); (try simp only at h); omega) (fun k h => by have hg_ := hg.out; have hge_ := hC.out.ge; (try simp only [rng] at h); (try simp only at h); omega))
         have hB := Hd.mk (hB.out.then_ eF (fun k h hl => by (try simp only [rng] at h); (try simp only at h); omega))
         have b0 := Hd.mk (show Blk W (w.heap.size) #[.int .i64 j.list[p].kind, .int .i64 j.list[p].n, .string j.list[p].s, .slice A6 j.list[p].list.length a6, .slice B6 j.list[p].names.length b6] 27 by rw [hW]; exact (Blk.all b0.out [Value.int IntKind.i64 j.list[p].kind, .int .i64 j.list[p].n, .string j.list[p].s, .slice A6 j.list[p].list.length a6, .slice B6 j.list[p].names.length b6] rfl))
         have hO := Hd.mk (Ty.O_fr hO.out eF (fun k hk hl h => by have q_ := hk.2; (try simp only [rng] at hk); (try simp only at hk); (try simp only at h); omega))
         have hWy := Hd.mk (R_fr hWy.out eF (fun k hk hl h => by have q_ := hk.1; (try simp only [rng] at hk); (try simp only at hk); (try simp only at h); omega))
         clear hW eF
         have z5 := Hd.mk hz_; clear hz_
         exact ⟨k + 1, m, j.list[p], _, _, _, _, _, way2, by omega, by go_num, rfl, ⟨by rw [HL2.out, List.length_append, HLW.out, HNK.out]; rfl⟩, ⟨fun s hs => by rw [HL2.out] at hs; rcases List.mem_append.1 hs with hs | hs; exact HWS.out s hs; rw [List.mem_singleton.1 hs]; exact hsz_⟩, ⟨HBN.out.elem (List.getElem_mem hp)⟩, b0, hO, ⟨R_mono (fun q h => h.1) hWy.out⟩, hC, hB, ⟨by have hzw_ := hzw.out; have z1_ := z1.out; have z2_ := z2.out; have z3_ := z3.out; have z4_ := z4.out; have z5_ := z5.out; omega⟩⟩
        exact key _ rfl
       case measure => simp [intOf]; omega
      ·have hpd : decide ((p : Int) < (j.names.length : Int)) = false := decide_eq_false hpn
       have hk5d : decide (j.kind = 5) = true := decide_eq_true hk5
       have hk5b : (j.kind == 5) = true := by simpa using hk5
       clear hk5
       have hsz_ := HSB.out
       have hBB_ := HBB.out
       obtain ⟨v00, v01, v02, v03, v04, v0z⟩ := blk5 b0.out
       have hE0 := Hd.mk (show str.R 9 (w3.alloc (.cells #[.string s] 9)) (fun k => k = w3.heap.size) (.slice (some ⟨w3.heap.size, 0, none⟩) 1 1) [s] from R_str1 s (by omega))
       have hzw_ := hzw.out; have z1_ := z1.out; have z2_ := z2.out; have z3_ := z3.out
       go_wp2_with (at_builtin; refine append_str rfl _ _ 25 9 (.string ByteArray.empty) 16 rfl Tryd.underlying25 info_str rfl (by decide) (S := fun q => (fun q => w.heap.size < q) q ∧ q < w3.heap.size) (S' := (fun q => w.heap.size < q)) (v := .slice AW n cW) (xs := way) (ys := [s]) (A := some ⟨w3.heap.size, 0, none⟩) (c := 1) rfl rfl (R_below (R_bound hWy.out) (below_alloc (Below.refl _ _) _)) (R_Cv hE0.out) (fun q h => h.1) (fun q h => by (try simp at h); omega) (by have := HLW.out; simp; omega) (fun v2 w4 hv2 hX0 => ?_); obtain ⟨way2, hl2⟩ : ∃ z, z = way ++ [s] := ⟨_, rfl⟩; rw [← hl2] at hv2; have HL2 := Hd.mk hl2; clear hl2; obtain ⟨A5, c5, hv2e, hc5, _⟩ := R_C hv2; subst hv2e; have hX := (Fr.of_below (below_alloc (Below.refl w3.heap.size w3) _) _).trans hX0; have hO7 := Ty.O_fr hO.out hX (fun q hq hl h => by have q_ := h.1; have q2_ := hq.2; (try simp only at q_); omega); obtain ⟨v3, v4, T3, T4, e_, _, hr3, _, t3, _⟩ := tJ_O.1 hO7; simp only [List.cons.injEq, and_true, true_and] at e_; obtain ⟨rfl, rfl⟩ := e_; obtain ⟨m, rfl⟩ : ∃ m1 : Nat, m = m1 + 1 := by { cases m with | zero => exact (R_none hr3 hp).elim | succ m => exact ⟨m, rfl⟩ }; obtain ⟨gL, capL, hgL, _, _⟩ := R_form hr3 (by omega); injection hgL with hgL _ hcL; subst hgL; subst hcL; obtain ⟨Si, A6, B6, a6, b6, hH6, hO6, _, _, ⟨y0, y1, y2, y3, y4⟩, _, _, _⟩ := R_elem5 hr3 hp; have hsub := H_sub hH6; have Yb0 := b0.out.fr hX (fun h => by have q_ := h.1; (try simp only at q_); omega); have yb0_0 := Yb0.cell 0 rfl; have yb0_1 := Yb0.cell 1 rfl; have yb0_2 := Yb0.cell 2 rfl; have yb0_3 : w4.cell? ⟨w.heap.size, 3, none⟩ = some (.slice (some ⟨gL, 0, none⟩) j.list.length c3) := Yb0.cell 3 rfl; have yb0_4 := Yb0.cell 4 rfl; have yb0_z := Yb0.frozen)
       clear v00 v01 v02 v03 v04 v0z
       go_roundw
       case rel =>
        clear Yb0 yb0_0 yb0_1 yb0_2 yb0_3 yb0_4 yb0_z y0 y1 y2 y3 y4 hX0 hE0
        have key : ∀ W, W = (((((w4.setCell ⟨w.heap.size, 0, none⟩ (Value.int IntKind.i64 j.list[p].kind)).setCell ⟨w.heap.size, 1, none⟩ (Value.int IntKind.i64 j.list[p].n)).setCell ⟨w.heap.size, 2, none⟩ (Value.string j.list[p].s)).setCell ⟨w.heap.size, 3, none⟩ (Value.slice A6 j.list[p].list.length a6)).setCell ⟨w.heap.size, 4, none⟩ (Value.slice B6 j.list[p].names.length b6)) → ∃ (k1 m : Nat) (j : J) (A3 A4 : Option Addr) (c3 c4 : Nat) (vv : Value) (way : List ByteArray), k1 ≤ 5 ∧ (Value.int IntKind.i64 ((k : Int) + 1) : Value) = .int .i64 k1 ∧ vv = .slice A5 way2.length c5 ∧ Hd (way.length = k1) ∧ Hd (∀ s ∈ way, s.size ≤ B + 60) ∧ Hd (Bnd B j) ∧ Hd (Blk W w.heap.size #[.int .i64 j.kind, .int .i64 j.n, .string j.s, .slice A3 j.list.length c3, .slice A4 j.names.length c4] 27) ∧ Hd ((tJ (m + 1)).O W (fun q => S q ∧ q < w.heap.size) j [Value.int IntKind.i64 j.kind, .int .i64 j.n, .string j.s, .slice A3 j.list.length c3, .slice A4 j.names.length c4]) ∧ Hd (str.R 9 W (fun q => w.heap.size < q) vv way) ∧ Hd (Cur W0 W g) ∧ Hd (Fr w W (fun k => k = g)) ∧ Hd (w.heap.size + 2 ≤ W.heap.size) := by
         intro W hW
         have hO := Hd.mk (show (tJ (m + 1)).O w4 (fun q => S q ∧ q < w.heap.size) j.list[p] _ from Ty.O_mono _ (fun q h => (t3 q (hsub q h))) hO6)
         have hWy := Hd.mk (R_bound hv2)
         clear hv2 hO7 hr3 hH6 hO6
         have hzw_ := hzw.out; have z1_ := z1.out; have z2_ := z2.out; have z3_ := z3.out
         have hSz := hB.out.size
         have b0 := Hd.mk (b0.out.fr hX (fun h => by have hlt_ := b0.out.lt; have hh_ := h.1; (try simp only [rng] at h); (try simp only at h); omega))
         have hC := Hd.mk (hC.out.fr hX (fun h => by have hg_ := hg.out; have hlt_ := hC.out.lt; have hh_ := h.1; (try simp only [rng] at h); (try simp only at h); omega) (fun k h => by have hg_ := hg.out; have hge_ := hC.out.ge; have hh_ := h.1; (try simp only [rng] at h); (try simp only at h); omega))
         have hB := Hd.mk (hB.out.then_ hX (fun k h hl => by have hh_ := h.1; (try simp only [rng] at h); (try simp only at h); omega))
         have hz_ := hX.size
         clear hX
         have z4 := Hd.mk hz_; clear hz_
         have hz_ : w4.heap.size ≤ W.heap.size := by rw [hW]; simp
         have eF : Fr w4 W (fun k => k = w.heap.size ∨ w4.heap.size ≤ k) := by rw [hW]; (repeat (first | with_reducible refine Fr.setCell ?_ _ (fun _ => by simp <;> omega) _ | with_reducible refine Fr.alloc ?_ _ | with_reducible refine Fr.drew ?_)); exact Fr.refl _ _
         have hzw_ := hzw.out; have z1_ := z1.out; have z2_ := z2.out; have z3_ := z3.out; have z4_ := z4.out
         have hC := Hd.mk (hC.out.fr eF (fun h => by have hg_ := hg.out; have hlt_ := hC.out.lt; (try simp only [rng] at h); (try simp only at h); omega) (fun k h => by have hg_ := hg.out; have hge_ := hC.out.ge; (try simp only [rng] at h); (try simp only at h); omega))
         have hB := Hd.mk (hB.out.then_ eF (fun k h hl => by (try simp only [rng] at h); (try simp only at h); omega))
         have b0 := Hd.mk (show Blk W (w.heap.size) #[.int .i64 j.list[p].kind, .int .i64 j.list[p].n, .string j.list[p].s, .slice A6 j.list[p].list.length a6, .slice B6 j.list[p].names.length b6] 27 by rw [hW]; exact (Blk.all b0.out [Value.int IntKind.i64 j.list[p].kind, .int .i64 j.list[p].n, .string j.list[p].s, .slice A6 j.list[p].list.length a6, .slice B6 j.list[p].names.length b6] rfl))
         have hO := Hd.mk (Ty.O_fr hO.out eF (fun k hk hl h => by have q_ := hk.2; (try simp only [rng] at hk); (try simp only at hk); (try simp only at h); omega))
         have hWy := Hd.mk (R_fr hWy.out eF (fun k hk hl h => by have q_ := hk.1; (try simp only [rng] at hk); (try simp only at hk); (try simp only at h); omega))
         clear hW eF
         have z5 := Hd.mk hz_; clear hz_
         exact ⟨k + 1, m, j.list[p], _, _, _, _, _, way2, by omega, by go_num, rfl, ⟨by rw [HL2.out, List.length_append, HLW.out, HNK.out]; rfl⟩, ⟨fun s hs => by rw [HL2.out] at hs; rcases List.mem_append.1 hs with hs | hs; exact HWS.out s hs; rw [List.mem_singleton.1 hs]; exact hsz_⟩, ⟨HBN.out.elem (List.getElem_mem hp)⟩, b0, hO, ⟨R_mono (fun q h => h.1) hWy.out⟩, hC, hB, ⟨by have hzw_ := hzw.out; have z1_ := z1.out; have z2_ := z2.out; have z3_ := z3.out; have z4_ := z4.out; have z5_ := z5.out; omega⟩⟩
        exact key _ rfl
       case measure => simp [intOf]; omega
     ·have hk5d : decide (j.kind = 5) = false := decide_eq_false hk5
      have hk5b : (j.kind == 5) = false := by simpa using hk5
      clear hk5
      have hsz_ := HSB.out
      have hBB_ := HBB.out
      obtain ⟨v00, v01, v02, v03, v04, v0z⟩ := blk5 b0.out
      have hE0 := Hd.mk (show str.R 9 (w3.alloc (.cells #[.string s] 9)) (fun k => k = w3.heap.size) (.slice (some ⟨w3.heap.size, 0, none⟩) 1 1) [s] from R_str1 s (by omega))
      have hzw_ := hzw.out; have z1_ := z1.out; have z2_ := z2.out; have z3_ := z3.out
      go_wp2_with (at_builtin; refine append_str rfl _ _ 25 9 (.string ByteArray.empty) 16 rfl Tryd.underlying25 info_str rfl (by decide) (S := fun q => (fun q => w.heap.size < q) q ∧ q < w3.heap.size) (S' := (fun q => w.heap.size < q)) (v := .slice AW n cW) (xs := way) (ys := [s]) (A := some ⟨w3.heap.size, 0, none⟩) (c := 1) rfl rfl (R_below (R_bound hWy.out) (below_alloc (Below.refl _ _) _)) (R_Cv hE0.out) (fun q h => h.1) (fun q h => by (try simp at h); omega) (by have := HLW.out; simp; omega) (fun v2 w4 hv2 hX0 => ?_); obtain ⟨way2, hl2⟩ : ∃ z, z = way ++ [s] := ⟨_, rfl⟩; rw [← hl2] at hv2; have HL2 := Hd.mk hl2; clear hl2; obtain ⟨A5, c5, hv2e, hc5, _⟩ := R_C hv2; subst hv2e; have hX := (Fr.of_below (below_alloc (Below.refl w3.heap.size w3) _) _).trans hX0; have hO7 := Ty.O_fr hO.out hX (fun q hq hl h => by have q_ := h.1; have q2_ := hq.2; (try simp only at q_); omega); obtain ⟨v3, v4, T3, T4, e_, _, hr3, _, t3, _⟩ := tJ_O.1 hO7; simp only [List.cons.injEq, and_true, true_and] at e_; obtain ⟨rfl, rfl⟩ := e_; obtain ⟨m, rfl⟩ : ∃ m1 : Nat, m = m1 + 1 := by { cases m with | zero => exact (R_none hr3 hp).elim | succ m => exact ⟨m, rfl⟩ }; obtain ⟨gL, capL, hgL, _, _⟩ := R_form hr3 (by omega); injection hgL with hgL _ hcL; subst hgL; subst hcL; obtain ⟨Si, A6, B6, a6, b6, hH6, hO6, _, _, ⟨y0, y1, y2, y3, y4⟩, _, _, _⟩ := R_elem5 hr3 hp; have hsub := H_sub hH6; have Yb0 := b0.out.fr hX (fun h => by have q_ := h.1; (try simp only at q_); omega); have yb0_0 := Yb0.cell 0 rfl; have yb0_1 := Yb0.cell 1 rfl; have yb0_2 := Yb0.cell 2 rfl; have yb0_3 : w4.cell? ⟨w.heap.size, 3, none⟩ = some (.slice (some ⟨gL, 0, none⟩) j.list.length c3) := Yb0.cell 3 rfl; have yb0_4 := Yb0.cell 4 rfl; have yb0_z := Yb0.frozen)
      clear v00 v01 v02 v03 v04 v0z
      go_roundw
      case rel =>
       clear Yb0 yb0_0 yb0_1 yb0_2 yb0_3 yb0_4 yb0_z y0 y1 y2 y3 y4 hX0 hE0
       have key : ∀ W, W = (((((w4.setCell ⟨w.heap.size, 0, none⟩ (Value.int IntKind.i64 j.list[p].kind)).setCell ⟨w.heap.size, 1, none⟩ (Value.int IntKind.i64 j.list[p].n)).setCell ⟨w.heap.size, 2, none⟩ (Value.string j.list[p].s)).setCell ⟨w.heap.size, 3, none⟩ (Value.slice A6 j.list[p].list.length a6)).setCell ⟨w.heap.size, 4, none⟩ (Value.slice B6 j.list[p].names.length b6)) → ∃ (k1 m : Nat) (j : J) (A3 A4 : Option Addr) (c3 c4 : Nat) (vv : Value) (way : List ByteArray), k1 ≤ 5 ∧ (Value.int IntKind.i64 ((k : Int) + 1) : Value) = .int .i64 k1 ∧ vv = .slice A5 way2.length c5 ∧ Hd (way.length = k1) ∧ Hd (∀ s ∈ way, s.size ≤ B + 60) ∧ Hd (Bnd B j) ∧ Hd (Blk W w.heap.size #[.int .i64 j.kind, .int .i64 j.n, .string j.s, .slice A3 j.list.length c3, .slice A4 j.names.length c4] 27) ∧ Hd ((tJ (m + 1)).O W (fun q => S q ∧ q < w.heap.size) j [Value.int IntKind.i64 j.kind, .int .i64 j.n, .string j.s, .slice A3 j.list.length c3, .slice A4 j.names.length c4]) ∧ Hd (str.R 9 W (fun q => w.heap.size < q) vv way) ∧ Hd (Cur W0 W g) ∧ Hd (Fr w W (fun k => k = g)) ∧ Hd (w.heap.size + 2 ≤ W.heap.size) := by
        intro W hW
        have hO := Hd.mk (show (tJ (m + 1)).O w4 (fun q => S q ∧ q < w.heap.size) j.list[p] _ from Ty.O_mono _ (fun q h => (t3 q (hsub q h))) hO6)
        have hWy := Hd.mk (R_bound hv2)
        clear hv2 hO7 hr3 hH6 hO6
        have hzw_ := hzw.out; have z1_ := z1.out; have z2_ := z2.out; have z3_ := z3.out
        have hSz := hB.out.size
        have b0 := Hd.mk (b0.out.fr hX (fun h => by have hlt_ := b0.out.lt; have hh_ := h.1; (try simp only [rng] at h); (try simp only at h); omega))
        have hC := Hd.mk (hC.out.fr hX (fun h => by have hg_ := hg.out; have hlt_ := hC.out.lt; have hh_ := h.1; (try simp only [rng] at h); (try simp only at h); omega) (fun k h => by have hg_ := hg.out; have hge_ := hC.out.ge; have hh_ := h.1; (try simp only [rng] at h); (try simp only at h); omega))
        have hB := Hd.mk (hB.out.then_ hX (fun k h hl => by have hh_ := h.1; (try simp only [rng] at h); (try simp only at h); omega))
        have hz_ := hX.size
        clear hX
        have z4 := Hd.mk hz_; clear hz_
        have hz_ : w4.heap.size ≤ W.heap.size := by rw [hW]; simp
        have eF : Fr w4 W (fun k => k = w.heap.size ∨ w4.heap.size ≤ k) := by rw [hW]; (repeat (first | with_reducible refine Fr.setCell ?_ _ (fun _ => by simp <;> omega) _ | with_reducible refine Fr.alloc ?_ _ | with_reducible refine Fr.drew ?_)); exact Fr.refl _ _
        have hzw_ := hzw.out; have z1_ := z1.out; have z2_ := z2.out; have z3_ := z3.out; have z4_ := z4.out
        have hC := Hd.mk (hC.out.fr eF (fun h => by have hg_ := hg.out; have hlt_ := hC.out.lt; (try simp only [rng] at h); (try simp only at h); omega) (fun k h => by have hg_ := hg.out; have hge_ := hC.out.ge; (try simp only [rng] at h); (try simp only at h); omega))
        have hB := Hd.mk (hB.out.then_ eF (fun k h hl => by (try simp only [rng] at h); (try simp only at h); omega))
        have b0 := Hd.mk (show Blk W (w.heap.size) #[.int .i64 j.list[p].kind, .int .i64 j.list[p].n, .string j.list[p].s, .slice A6 j.list[p].list.length a6, .slice B6 j.list[p].names.length b6] 27 by rw [hW]; exact (Blk.all b0.out [Value.int IntKind.i64 j.list[p].kind, .int .i64 j.list[p].n, .string j.list[p].s, .slice A6 j.list[p].list.length a6, .slice B6 j.list[p].names.length b6] rfl))
        have hO := Hd.mk (Ty.O_fr hO.out eF (fun k hk hl h => by have q_ := hk.2; (try simp only [rng] at hk); (try simp only at hk); (try simp only at h); omega))
        have hWy := Hd.mk (R_fr hWy.out eF (fun k hk hl h => by have q_ := hk.1; (try simp only [rng] at hk); (try simp only at hk); (try simp only at h); omega))
        clear hW eF
        have z5 := Hd.mk hz_; clear hz_
        exact ⟨k + 1, m, j.list[p], _, _, _, _, _, way2, by omega, by go_num, rfl, ⟨by rw [HL2.out, List.length_append, HLW.out, HNK.out]; rfl⟩, ⟨fun s hs => by rw [HL2.out] at hs; rcases List.mem_append.1 hs with hs | hs; exact HWS.out s hs; rw [List.mem_singleton.1 hs]; exact hsz_⟩, ⟨HBN.out.elem (List.getElem_mem hp)⟩, b0, hO, ⟨R_mono (fun q h => h.1) hWy.out⟩, hC, hB, ⟨by have hzw_ := hzw.out; have z1_ := z1.out; have z2_ := z2.out; have z3_ := z3.out; have z4_ := z4.out; have z5_ := z5.out; omega⟩⟩
       exact key _ rfl
      case measure => simp [intOf]; omega
    ·go_wp2_with fail
     refine (spec_l1Once 5 W0 _ g hC.out).mono ?_
     rintro e w2 ⟨bo, rfl, hC1, hX⟩
     have hC := Hd.mk hC1; clear hC1
     have hSz0 := hB.out.size
     have hg_ := hg.out
     have hzw_ := hzw.out; have z1_ := z1.out
     have b0 := Hd.mk (b0.out.fr hX (fun h => by skip; (try simp only at h); omega))
     have hO := Hd.mk (Ty.O_fr hO.out hX (fun k hk hl h => by have q_ := hk; have h_ : k = g := h; have hn_ : (1 : Int) = 2 := (hSg.out (h_ ▸ q_.1)).elim; (try simp only [rng] at hk); (try simp only at hk); (try simp only at h); omega))
     have hWy := Hd.mk (R_fr hWy.out hX (fun k hk hl h => by have q_ := hk; have hg_ := hg.out; have h_ : k = g := h; (try simp only [rng] at hk); (try simp only at hk); (try simp only at h); omega))
     have hB := Hd.mk (hB.out.trans hX)
     have hz_ := hX.size
     clear hSz0 hg_ hX
     have z2 := Hd.mk hz_; clear hz_
     cases bo
     ·have v00 : w2.cell? ⟨w.heap.size, 0, none⟩ = some (.int .i64 j.kind) := b0.out.cell 0 rfl
      have v01 : w2.cell? ⟨w.heap.size, 1, none⟩ = some (.int .i64 j.n) := b0.out.cell 1 rfl
      have v02 : w2.cell? ⟨w.heap.size, 2, none⟩ = some (.string j.s) := b0.out.cell 2 rfl
      have v03 : w2.cell? ⟨w.heap.size, 3, none⟩ = some (.slice A3 j.list.length c3) := b0.out.cell 3 rfl
      have v04 : w2.cell? ⟨w.heap.size, 4, none⟩ = some (.slice A4 j.names.length c4) := b0.out.cell 4 rfl
      have v0z := b0.out.frozen
      go_wp2_with fail
      clear v00 v01 v02 v03 v04 v0z
      go_ret
      exact ⟨_, way, rfl, R_mono (fun q h => Nat.le_of_lt h) hWy.out, by have := HLW.out; omega, HWS.out, hC.out, hB.out⟩
     ·have v00 : w2.cell? ⟨w.heap.size, 0, none⟩ = some (.int .i64 j.kind) := b0.out.cell 0 rfl
      have v01 : w2.cell? ⟨w.heap.size, 1, none⟩ = some (.int .i64 j.n) := b0.out.cell 1 rfl
      have v02 : w2.cell? ⟨w.heap.size, 2, none⟩ = some (.string j.s) := b0.out.cell 2 rfl
      have v03 : w2.cell? ⟨w.heap.size, 3, none⟩ = some (.slice A3 j.list.length c3) := b0.out.cell 3 rfl
      have v04 : w2.cell? ⟨w.heap.size, 4, none⟩ = some (.slice A4 j.names.length c4) := b0.out.cell 4 rfl
      have v0z := b0.out.frozen
      go_wp2_with fail
      clear v00 v01 v02 v03 v04 v0z
      apply calls_gen; intro W3 hW
      have hE0 := Hd.mk (show str.R 9 W3 (fun k => k = w2.heap.size) (.slice (some ⟨w2.heap.size, 0, none⟩) 7 7) drawWays by rw [hW]; exact R_strs (W0 := w2) drawWays (by decide) (by decide))
      have hz_ : w2.heap.size + 1 ≤ W3.heap.size := by rw [hW]; simp
      have hE : Below w2.heap.size w2 W3 := by rw [hW]; (repeat (first | with_reducible refine below_alloc ?_ _ | with_reducible refine below_drew ?_)); exact Below.refl _ _
      have hB := Hd.mk (hB.out.trans (Fr.of_below hE _))
      have hC := Hd.mk (hC.out.below hE)
      have b0 := b0.dn hE
      have hO := hO.ob hE
      have hWy := Hd.mk (R_below hWy.out hE)
      clear hW hE
      have z3 := Hd.mk hz_; clear hz_
      have hEg := Hd.mk (show ¬ (fun k => k = w2.heap.size) g by have hg_ := hg.out; have hSz_ := hB.out.size; have hzw_ := hzw.out; have z1_ := z1.out; have z2_ := z2.out; have z3_ := z3.out; (try simp only); omega)
      refine (spec_l1Pick _ _ _ drawWays W0 _ g hE0.out hEg.out rfl (by decide) (by decide) hC.out).mono ?_
      rintro e w4 ⟨u, rfl, hu, hC1, hX⟩
      have hC := Hd.mk hC1; clear hC1
      have hSz0 := hB.out.size
      have hg_ := hg.out
      have hzw_ := hzw.out; have z1_ := z1.out; have z2_ := z2.out; have z3_ := z3.out
      have b0 := Hd.mk (b0.out.fr hX (fun h => by skip; (try simp only at h); omega))
      have hO := Hd.mk (Ty.O_fr hO.out hX (fun k hk hl h => by have q_ := hk; have h_ : k = g := h; have hn_ : (1 : Int) = 2 := (hSg.out (h_ ▸ q_.1)).elim; (try simp only [rng] at hk); (try simp only at hk); (try simp only at h); omega))
      have hWy := Hd.mk (R_fr hWy.out hX (fun k hk hl h => by have q_ := hk; have hg_ := hg.out; have h_ : k = g := h; (try simp only [rng] at hk); (try simp only at hk); (try simp only at h); omega))
      have hB := Hd.mk (hB.out.trans hX)
      have hz_ := hX.size
      clear hSz0 hg_ hX
      have z4 := Hd.mk hz_; clear hz_
      clear hE0 hEg
      have hu6 : u.size ≤ 60 := (show ∀ s ∈ drawWays, s.size ≤ 60 by decide) u hu
      clear hu
      have hE0 := Hd.mk (R_strs (W0 := w4) [u] (by simp) (fun s_ h_ => by rw [List.mem_singleton.1 h_]; omega))
      simp only [List.map_cons, List.map_nil, List.length_cons, List.length_nil] at hE0
      have hzw_ := hzw.out; have z1_ := z1.out; have z2_ := z2.out; have z3_ := z3.out; have z4_ := z4.out
      go_wp2_with (at_builtin; refine append_str rfl _ _ 25 9 (.string ByteArray.empty) 16 rfl Tryd.underlying25 info_str rfl (by decide) (S := fun q => (fun q => w.heap.size < q) q ∧ q < w4.heap.size) (S' := (fun q => w.heap.size < q)) (v := .slice AW n cW) (xs := way) (ys := [u]) (A := some ⟨w4.heap.size, 0, none⟩) (c := 1) rfl rfl (R_below (R_bound hWy.out) (below_alloc (Below.refl _ _) _)) (R_Cv hE0.out) (fun q h => h.1) (fun q h => by (try simp at h); omega) (by have := HLW.out; simp; omega) (fun v2 w5 hv2 hX0 => ?_); obtain ⟨way2, hl2⟩ : ∃ z, z = way ++ [u] := ⟨_, rfl⟩; rw [← hl2] at hv2; have HL2 := Hd.mk hl2; clear hl2; obtain ⟨A5, c5, hv2e, hc5, _⟩ := R_C hv2; subst hv2e; have hX := (Fr.of_below (below_alloc (Below.refl w4.heap.size w4) _) _).trans hX0)
      go_ret
      have key : str.R 9 w5 (fun k => w.heap.size ≤ k) (.slice A5 way2.length c5) way2 ∧ way2.length ≤ 6 ∧ (∀ s ∈ way2, s.size ≤ B + 60) ∧ Cur W0 w5 g ∧ Fr w w5 (fun k => k = g) := by
       refine ⟨R_mono (fun q h => Nat.le_of_lt h) hv2, ?_, ?_, hC.out.fr hX (fun h => by have h1 := h.1; have hg_ := hg.out; (try simp only at h1); omega) (fun k h => by have h1 := h.1; have hge_ := hC.out.ge; have hg_ := hg.out; (try simp only at h1); omega), hB.out.then_ hX (fun k h hl => by have h1 := h.1; (try simp only at h1); omega)⟩
       ·rw [HL2.out, List.length_append]; have := HLW.out; simp; omega
       ·intro s hs; rw [HL2.out] at hs; rcases List.mem_append.1 hs with hs | hs; exact HWS.out s hs; rw [List.mem_singleton.1 hs]; omega
      first | exact ⟨_, way2, rfl, key⟩ | exact ⟨_, rfl, way2, key⟩
   ·have hl00 : j.list.length = 0 := by omega
    have hd0 : decide ((0 : Int) < (j.list.length : Int)) = false := decide_eq_false hl0
    obtain ⟨v00, v01, v02, v03, v04, v0z⟩ := blk5 b0.out
    go_wp2_with fail
    refine (spec_l1Once 5 W0 _ g hC.out).mono ?_
    rintro e w1 ⟨bo, rfl, hC1, hX⟩
    have hC := Hd.mk hC1; clear hC1
    have hSz0 := hB.out.size
    have hg_ := hg.out
    have hzw_ := hzw.out
    have b0 := Hd.mk (b0.out.fr hX (fun h => by skip; (try simp only at h); omega))
    have hO := Hd.mk (Ty.O_fr hO.out hX (fun k hk hl h => by have q_ := hk; have h_ : k = g := h; have hn_ : (1 : Int) = 2 := (hSg.out (h_ ▸ q_.1)).elim; (try simp only [rng] at hk); (try simp only at hk); (try simp only at h); omega))
    have hWy := Hd.mk (R_fr hWy.out hX (fun k hk hl h => by have q_ := hk; have hg_ := hg.out; have h_ : k = g := h; (try simp only [rng] at hk); (try simp only at hk); (try simp only at h); omega))
    have hB := Hd.mk (hB.out.trans hX)
    have hz_ := hX.size
    clear hSz0 hg_ hX
    have z1 := Hd.mk hz_; clear hz_
    cases bo
    ·have v00 : w1.cell? ⟨w.heap.size, 0, none⟩ = some (.int .i64 j.kind) := b0.out.cell 0 rfl
     have v01 : w1.cell? ⟨w.heap.size, 1, none⟩ = some (.int .i64 j.n) := b0.out.cell 1 rfl
     have v02 : w1.cell? ⟨w.heap.size, 2, none⟩ = some (.string j.s) := b0.out.cell 2 rfl
     have v03 : w1.cell? ⟨w.heap.size, 3, none⟩ = some (.slice A3 j.list.length c3) := b0.out.cell 3 rfl
     have v04 : w1.cell? ⟨w.heap.size, 4, none⟩ = some (.slice A4 j.names.length c4) := b0.out.cell 4 rfl
     have v0z := b0.out.frozen
     go_wp2_with fail
     clear v00 v01 v02 v03 v04 v0z
     go_ret
     exact ⟨_, way, rfl, R_mono (fun q h => Nat.le_of_lt h) hWy.out, by have := HLW.out; omega, HWS.out, hC.out, hB.out⟩
    ·have v00 : w1.cell? ⟨w.heap.size, 0, none⟩ = some (.int .i64 j.kind) := b0.out.cell 0 rfl
     have v01 : w1.cell? ⟨w.heap.size, 1, none⟩ = some (.int .i64 j.n) := b0.out.cell 1 rfl
     have v02 : w1.cell? ⟨w.heap.size, 2, none⟩ = some (.string j.s) := b0.out.cell 2 rfl
     have v03 : w1.cell? ⟨w.heap.size, 3, none⟩ = some (.slice A3 j.list.length c3) := b0.out.cell 3 rfl
     have v04 : w1.cell? ⟨w.heap.size, 4, none⟩ = some (.slice A4 j.names.length c4) := b0.out.cell 4 rfl
     have v0z := b0.out.frozen
     go_wp2_with fail
     clear v00 v01 v02 v03 v04 v0z
     apply calls_gen; intro W2 hW
     have hE0 := Hd.mk (show str.R 9 W2 (fun k => k = w1.heap.size) (.slice (some ⟨w1.heap.size, 0, none⟩) 7 7) drawWays by rw [hW]; exact R_strs (W0 := w1) drawWays (by decide) (by decide))
     have hz_ : w1.heap.size + 1 ≤ W2.heap.size := by rw [hW]; simp
     have hE : Below w1.heap.size w1 W2 := by rw [hW]; (repeat (first | with_reducible refine below_alloc ?_ _ | with_reducible refine below_drew ?_)); exact Below.refl _ _
     have hB := Hd.mk (hB.out.trans (Fr.of_below hE _))
     have hC := Hd.mk (hC.out.below hE)
     have b0 := b0.dn hE
     have hO := hO.ob hE
     have hWy := Hd.mk (R_below hWy.out hE)
     clear hW hE
     have z2 := Hd.mk hz_; clear hz_
     have hEg := Hd.mk (show ¬ (fun k => k = w1.heap.size) g by have hg_ := hg.out; have hSz_ := hB.out.size; have hzw_ := hzw.out; have z1_ := z1.out; have z2_ := z2.out; (try simp only); omega)
     refine (spec_l1Pick _ _ _ drawWays W0 _ g hE0.out hEg.out rfl (by decide) (by decide) hC.out).mono ?_
     rintro e w3 ⟨u, rfl, hu, hC1, hX⟩
     have hC := Hd.mk hC1; clear hC1
     have hSz0 := hB.out.size
     have hg_ := hg.out
     have hzw_ := hzw.out; have z1_ := z1.out; have z2_ := z2.out
     have b0 := Hd.mk (b0.out.fr hX (fun h => by skip; (try simp only at h); omega))
     have hO := Hd.mk (Ty.O_fr hO.out hX (fun k hk hl h => by have q_ := hk; have h_ : k = g := h; have hn_ : (1 : Int) = 2 := (hSg.out (h_ ▸ q_.1)).elim; (try simp only [rng] at hk); (try simp only at hk); (try simp only at h); omega))
     have hWy := Hd.mk (R_fr hWy.out hX (fun k hk hl h => by have q_ := hk; have hg_ := hg.out; have h_ : k = g := h; (try simp only [rng] at hk); (try simp only at hk); (try simp only at h); omega))
     have hB := Hd.mk (hB.out.trans hX)
     have hz_ := hX.size
     clear hSz0 hg_ hX
     have z3 := Hd.mk hz_; clear hz_
     clear hE0 hEg
     have hu6 : u.size ≤ 60 := (show ∀ s ∈ drawWays, s.size ≤ 60 by decide) u hu
     clear hu
     have hE0 := Hd.mk (R_strs (W0 := w3) [u] (by simp) (fun s_ h_ => by rw [List.mem_singleton.1 h_]; omega))
     simp only [List.map_cons, List.map_nil, List.length_cons, List.length_nil] at hE0
     have hzw_ := hzw.out; have z1_ := z1.out; have z2_ := z2.out; have z3_ := z3.out
     go_wp2_with (at_builtin; refine append_str rfl _ _ 25 9 (.string ByteArray.empty) 16 rfl Tryd.underlying25 info_str rfl (by decide) (S := fun q => (fun q => w.heap.size < q) q ∧ q < w3.heap.size) (S' := (fun q => w.heap.size < q)) (v := .slice AW n cW) (xs := way) (ys := [u]) (A := some ⟨w3.heap.size, 0, none⟩) (c := 1) rfl rfl (R_below (R_bound hWy.out) (below_alloc (Below.refl _ _) _)) (R_Cv hE0.out) (fun q h => h.1) (fun q h => by (try simp at h); omega) (by have := HLW.out; simp; omega) (fun v2 w4 hv2 hX0 => ?_); obtain ⟨way2, hl2⟩ : ∃ z, z = way ++ [u] := ⟨_, rfl⟩; rw [← hl2] at hv2; have HL2 := Hd.mk hl2; clear hl2; obtain ⟨A5, c5, hv2e, hc5, _⟩ := R_C hv2; subst hv2e; have hX := (Fr.of_below (below_alloc (Below.refl w3.heap.size w3) _) _).trans hX0)
     go_ret
     have key : str.R 9 w4 (fun k => w.heap.size ≤ k) (.slice A5 way2.length c5) way2 ∧ way2.length ≤ 6 ∧ (∀ s ∈ way2, s.size ≤ B + 60) ∧ Cur W0 w4 g ∧ Fr w w4 (fun k => k = g) := by
      refine ⟨R_mono (fun q h => Nat.le_of_lt h) hv2, ?_, ?_, hC.out.fr hX (fun h => by have h1 := h.1; have hg_ := hg.out; (try simp only at h1); omega) (fun k h => by have h1 := h.1; have hge_ := hC.out.ge; have hg_ := hg.out; (try simp only at h1); omega), hB.out.then_ hX (fun k h hl => by have h1 := h.1; (try simp only at h1); omega)⟩
      ·rw [HL2.out, List.length_append]; have := HLW.out; simp; omega
      ·intro s hs; rw [HL2.out] at hs; rcases List.mem_append.1 hs with hs | hs; exact HWS.out s hs; rw [List.mem_singleton.1 hs]; omega
     first | exact ⟨_, way2, rfl, key⟩ | exact ⟨_, rfl, way2, key⟩
  ·have hd5 : decide ((k : Int) < 5) = false := decide_eq_false hk5l
   obtain ⟨v00, v01, v02, v03, v04, v0z⟩ := blk5 b0.out
   go_wp2_with fail
   refine (spec_l1Once 5 W0 _ g hC.out).mono ?_
   rintro e w1 ⟨bo, rfl, hC1, hX⟩
   have hC := Hd.mk hC1; clear hC1
   have hSz0 := hB.out.size
   have hg_ := hg.out
   have hzw_ := hzw.out
   have b0 := Hd.mk (b0.out.fr hX (fun h => by skip; (try simp only at h); omega))
   have hO := Hd.mk (Ty.O_fr hO.out hX (fun k hk hl h => by have q_ := hk; have h_ : k = g := h; have hn_ : (1 : Int) = 2 := (hSg.out (h_ ▸ q_.1)).elim; (try simp only [rng] at hk); (try simp only at hk); (try simp only at h); omega))
   have hWy := Hd.mk (R_fr hWy.out hX (fun k hk hl h => by have q_ := hk; have hg_ := hg.out; have h_ : k = g := h; (try simp only [rng] at hk); (try simp only at hk); (try simp only at h); omega))
   have hB := Hd.mk (hB.out.trans hX)
   have hz_ := hX.size
   clear hSz0 hg_ hX
   have z1 := Hd.mk hz_; clear hz_
   cases bo
   ·have v00 : w1.cell? ⟨w.heap.size, 0, none⟩ = some (.int .i64 j.kind) := b0.out.cell 0 rfl
    have v01 : w1.cell? ⟨w.heap.size, 1, none⟩ = some (.int .i64 j.n) := b0.out.cell 1 rfl
    have v02 : w1.cell? ⟨w.heap.size, 2, none⟩ = some (.string j.s) := b0.out.cell 2 rfl
    have v03 : w1.cell? ⟨w.heap.size, 3, none⟩ = some (.slice A3 j.list.length c3) := b0.out.cell 3 rfl
    have v04 : w1.cell? ⟨w.heap.size, 4, none⟩ = some (.slice A4 j.names.length c4) := b0.out.cell 4 rfl
    have v0z := b0.out.frozen
    go_wp2_with fail
    clear v00 v01 v02 v03 v04 v0z
    go_ret
    exact ⟨_, way, rfl, R_mono (fun q h => Nat.le_of_lt h) hWy.out, by have := HLW.out; omega, HWS.out, hC.out, hB.out⟩
   ·have v00 : w1.cell? ⟨w.heap.size, 0, none⟩ = some (.int .i64 j.kind) := b0.out.cell 0 rfl
    have v01 : w1.cell? ⟨w.heap.size, 1, none⟩ = some (.int .i64 j.n) := b0.out.cell 1 rfl
    have v02 : w1.cell? ⟨w.heap.size, 2, none⟩ = some (.string j.s) := b0.out.cell 2 rfl
    have v03 : w1.cell? ⟨w.heap.size, 3, none⟩ = some (.slice A3 j.list.length c3) := b0.out.cell 3 rfl
    have v04 : w1.cell? ⟨w.heap.size, 4, none⟩ = some (.slice A4 j.names.length c4) := b0.out.cell 4 rfl
    have v0z := b0.out.frozen
    go_wp2_with fail
    clear v00 v01 v02 v03 v04 v0z
    apply calls_gen; intro W2 hW
    have hE0 := Hd.mk (show str.R 9 W2 (fun k => k = w1.heap.size) (.slice (some ⟨w1.heap.size, 0, none⟩) 7 7) drawWays by rw [hW]; exact R_strs (W0 := w1) drawWays (by decide) (by decide))
    have hz_ : w1.heap.size + 1 ≤ W2.heap.size := by rw [hW]; simp
    have hE : Below w1.heap.size w1 W2 := by rw [hW]; (repeat (first | with_reducible refine below_alloc ?_ _ | with_reducible refine below_drew ?_)); exact Below.refl _ _
    have hB := Hd.mk (hB.out.trans (Fr.of_below hE _))
    have hC := Hd.mk (hC.out.below hE)
    have b0 := b0.dn hE
    have hO := hO.ob hE
    have hWy := Hd.mk (R_below hWy.out hE)
    clear hW hE
    have z2 := Hd.mk hz_; clear hz_
    have hEg := Hd.mk (show ¬ (fun k => k = w1.heap.size) g by have hg_ := hg.out; have hSz_ := hB.out.size; have hzw_ := hzw.out; have z1_ := z1.out; have z2_ := z2.out; (try simp only); omega)
    refine (spec_l1Pick _ _ _ drawWays W0 _ g hE0.out hEg.out rfl (by decide) (by decide) hC.out).mono ?_
    rintro e w3 ⟨u, rfl, hu, hC1, hX⟩
    have hC := Hd.mk hC1; clear hC1
    have hSz0 := hB.out.size
    have hg_ := hg.out
    have hzw_ := hzw.out; have z1_ := z1.out; have z2_ := z2.out
    have b0 := Hd.mk (b0.out.fr hX (fun h => by skip; (try simp only at h); omega))
    have hO := Hd.mk (Ty.O_fr hO.out hX (fun k hk hl h => by have q_ := hk; have h_ : k = g := h; have hn_ : (1 : Int) = 2 := (hSg.out (h_ ▸ q_.1)).elim; (try simp only [rng] at hk); (try simp only at hk); (try simp only at h); omega))
    have hWy := Hd.mk (R_fr hWy.out hX (fun k hk hl h => by have q_ := hk; have hg_ := hg.out; have h_ : k = g := h; (try simp only [rng] at hk); (try simp only at hk); (try simp only at h); omega))
    have hB := Hd.mk (hB.out.trans hX)
    have hz_ := hX.size
    clear hSz0 hg_ hX
    have z3 := Hd.mk hz_; clear hz_
    clear hE0 hEg
    have hu6 : u.size ≤ 60 := (show ∀ s ∈ drawWays, s.size ≤ 60 by decide) u hu
    clear hu
    have hE0 := Hd.mk (R_strs (W0 := w3) [u] (by simp) (fun s_ h_ => by rw [List.mem_singleton.1 h_]; omega))
    simp only [List.map_cons, List.map_nil, List.length_cons, List.length_nil] at hE0
    have hzw_ := hzw.out; have z1_ := z1.out; have z2_ := z2.out; have z3_ := z3.out
    go_wp2_with (at_builtin; refine append_str rfl _ _ 25 9 (.string ByteArray.empty) 16 rfl Tryd.underlying25 info_str rfl (by decide) (S := fun q => (fun q => w.heap.size < q) q ∧ q < w3.heap.size) (S' := (fun q => w.heap.size < q)) (v := .slice AW n cW) (xs := way) (ys := [u]) (A := some ⟨w3.heap.size, 0, none⟩) (c := 1) rfl rfl (R_below (R_bound hWy.out) (below_alloc (Below.refl _ _) _)) (R_Cv hE0.out) (fun q h => h.1) (fun q h => by (try simp at h); omega) (by have := HLW.out; simp; omega) (fun v2 w4 hv2 hX0 => ?_); obtain ⟨way2, hl2⟩ : ∃ z, z = way ++ [u] := ⟨_, rfl⟩; rw [← hl2] at hv2; have HL2 := Hd.mk hl2; clear hl2; obtain ⟨A5, c5, hv2e, hc5, _⟩ := R_C hv2; subst hv2e; have hX := (Fr.of_below (below_alloc (Below.refl w3.heap.size w3) _) _).trans hX0)
    go_ret
    have key : str.R 9 w4 (fun k => w.heap.size ≤ k) (.slice A5 way2.length c5) way2 ∧ way2.length ≤ 6 ∧ (∀ s ∈ way2, s.size ≤ B + 60) ∧ Cur W0 w4 g ∧ Fr w w4 (fun k => k = g) := by
     refine ⟨R_mono (fun q h => Nat.le_of_lt h) hv2, ?_, ?_, hC.out.fr hX (fun h => by have h1 := h.1; have hg_ := hg.out; (try simp only at h1); omega) (fun k h => by have h1 := h.1; have hge_ := hC.out.ge; have hg_ := hg.out; (try simp only at h1); omega), hB.out.then_ hX (fun k h hl => by have h1 := h.1; (try simp only at h1); omega)⟩
     ·rw [HL2.out, List.length_append]; have := HLW.out; simp; omega
     ·intro s hs; rw [HL2.out] at hs; rcases List.mem_append.1 hs with hs | hs; exact HWS.out s hs; rw [List.mem_singleton.1 hs]; omega
    first | exact ⟨_, way2, rfl, key⟩ | exact ⟨_, rfl, way2, key⟩
end Go.Proofs.YtoaifagjdjgcbaaDoor.X
namespace Go.Proofs.YtoaifagjdjgcbaaDoor.X
open Go.RowKit Go.Sort
set_option linter.unusedVariables false
set_option linter.unusedSimpArgs false
open Ty
set_option maxHeartbeats 8000000 in
set_option maxRecDepth 100000 in
theorem spec_DrawGet (A : Option Addr) (c : Nat) (bs : List Int) (w : World) (hr : u8.C w A bs) (hbs : bs.length ≤ 1048576) :
  Calls Tryd.prog 18 #[.slice A bs.length c] w fun e w' => ∃ (j : J) (way : List ByteArray) (cs : List Value) (AW : Option Addr) (cW : Nat), e = .returned (.tuple #[.agg cs.toArray, .slice AW way.length cW]) ∧ (tJ 9).K w' j cs ∧ str.R 9 w' (fun k => w.heap.size ≤ k) (.slice AW way.length cW) way ∧ Bnd 30000 j ∧ way.length ≤ 6 ∧ (∀ s ∈ way, s.size ≤ 30060) ∧ Below w.heap.size w w' := by
 have HBS := Hd.mk hr; clear hr
 have hB := Hd.mk (Below.refl w.heap.size w)
 go_enter Tryd.func18, Tryd.ntmps18
 go_wp2_with fail
 apply calls_gen; intro W1 hW
 have hz_ : w.heap.size + 1 ≤ W1.heap.size := by rw [hW]; simp
 have hE : Below w.heap.size w W1 := by rw [hW]; (repeat (first | with_reducible refine below_alloc ?_ _ | with_reducible refine below_drew ?_)); exact Below.refl _ _
 have hB := hB.th hE
 have b0 := Hd.mk (show Blk W1 (w.heap.size) #[.int .i64 0, .int .i64 0, .string ⟨#[]⟩, .slice none 0 0, .slice none 0 0] 27 by rw [hW]; first | exact (Blk.new _ _ _) | (simpa using (Blk.new _ _ _)))
 clear hW hE
 have z1 := Hd.mk hz_; clear hz_
 refine (spec_l1New _ _ bs w W1 HBS.out hbs hB.out).mono ?_
 rintro e w2 ⟨g, rfl, hge, hC1, hX⟩
 have b0 := b0.dn hX
 have hG := Hd.mk (show W1.heap.size ≤ g ∧ g < w2.heap.size from ⟨hge, hC1.lt⟩)
 have hC := Hd.mk hC1; clear hC1 hge
 have hB := hB.th hX
 have hz_ := hX.size
 clear hX
 have z2 := Hd.mk hz_; clear hz_
 obtain ⟨v00, v01, v02, v03, v04, v0z⟩ := blk5 b0.out
 go_wp2_with fail
 clear v00 v01 v02 v03 v04 v0z
 refine (spec_l1Draw w _ g hC.out).mono ?_
 rintro e w3 ⟨j, cs, rfl, hBJ, hJ, hC1, hX⟩
 have hC := Hd.mk hC1; clear hC1
 have hSz0 := hB.out.size
 have hg_ := hG.out
 have z1_ := z1.out; have z2_ := z2.out
 have b0 := Hd.mk (b0.out.fr hX (fun h => by skip; (try simp only at h); omega))
 have hB := Hd.mk (below_frS hB.out hX (fun k h => by (try simp only at h); omega))
 have hz_ := hX.size
 clear hSz0 hg_ hX
 have z3 := Hd.mk hz_; clear hz_
 obtain ⟨jv3, jv4, _, _, rfl, _, jr3, jr4, _⟩ := tJ_O.1 hJ
 obtain ⟨jD3, jd3, rfl, _, _⟩ := R_C jr3
 obtain ⟨jD4, jd4, rfl, _, _⟩ := R_C jr4
 clear jr3 jr4
 replace hBJ := Hd.mk (show Bnd 30000 j from hBJ)
 have hJ := Hd.mk (show (tJ 9).O w3 (rng w2.heap.size w3.heap.size) j _ from Ty.O_bound _ hJ)
 obtain ⟨v00, v01, v02, v03, v04, v0z⟩ := blk5 b0.out
 go_wp2_with fail
 clear v00 v01 v02 v03 v04 v0z
 apply wp_gen; intro W4 hW
 have hz_ : w3.heap.size + 1 ≤ W4.heap.size := by rw [hW]; simp
 have hE : Below w3.heap.size w3 W4 := by rw [hW]; (repeat (first | with_reducible refine below_alloc ?_ _ | with_reducible refine below_drew ?_)); exact Below.refl _ _
 have hB := hB.th hE
 have hC := Hd.mk (hC.out.below hE)
 have b0 := b0.dn hE
 have b1 := Hd.mk (show Blk W4 (w3.heap.size) #[.int .i64 j.kind, .int .i64 j.n, .string j.s, .slice jD3 j.list.length jd3, .slice jD4 j.names.length jd4] 27 by rw [hW]; first | exact (Blk.new _ _ _) | (simpa using (Blk.new _ _ _)))
 have hJ := hJ.ob hE
 clear hW hE
 have z4 := Hd.mk hz_; clear hz_
 have sb0 := Hd.mk b0.out
 have sb1 := Hd.mk b1.out
 refine region_mixC (fun w2 => Fr W4 w2 (fun k => k = g)) (.q 0 (.q 2 (.p 1 (.b 3 .fin)))) [4, 5] (by kernel_rfl) (Fr.drew (Fr.refl _ _)) (by kernel_rfl) (fun _ _ _ _ _ h => h) ?_
 refine genT ?_
 intro W5 hW
 have hS := Hd.mk (show Fr W4 W5 (fun k => k = g) by rw [hW]; exact Fr.drew (Fr.refl _ _))
 have hz_ : W4.heap.size ≤ W5.heap.size := by rw [hW]; simp
 have hE : Below W4.heap.size W4 W5 := by rw [hW]; (repeat (first | with_reducible refine below_alloc ?_ _ | with_reducible refine below_drew ?_)); exact Below.refl _ _
 have hB := hB.th hE
 have hC := Hd.mk (hC.out.below hE)
 have b0 := b0.dn hE
 have b1 := b1.dn hE
 have hJ := hJ.ob hE
 clear hW hE
 have z5 := Hd.mk hz_; clear hz_
 refine mixT_see rfl (by rfl) (Value.agg #[.int .i64 j.kind, .int .i64 j.n, .string j.s, .slice jD3 j.list.length jd3, .slice jD4 j.names.length jd4]) (fun w_ hw_ => by have z1_ := z1.out; have z2_ := z2.out; have z3_ := z3.out; have z4_ := z4.out; have z5_ := z5.out; have f0_ := (sb1.out.fr hw_ (fun h => by have hg_ := hG.out; skip; have hlt_ := sb1.out.lt; (try simp only at h); omega)).cell 0 rfl; have f1_ := (sb1.out.fr hw_ (fun h => by have hg_ := hG.out; skip; have hlt_ := sb1.out.lt; (try simp only at h); omega)).cell 1 rfl; have f2_ := (sb1.out.fr hw_ (fun h => by have hg_ := hG.out; skip; have hlt_ := sb1.out.lt; (try simp only at h); omega)).cell 2 rfl; have f3_ := (sb1.out.fr hw_ (fun h => by have hg_ := hG.out; skip; have hlt_ := sb1.out.lt; (try simp only at h); omega)).cell 3 rfl; have f4_ := (sb1.out.fr hw_ (fun h => by have hg_ := hG.out; skip; have hlt_ := sb1.out.lt; (try simp only at h); omega)).cell 4 rfl; simp [execOp, go_sem, f0_, f1_, f2_, f3_, f4_]) hS.out ?_
 obtain ⟨v00, v01, v02, v03, v04, v0z⟩ := blk5 b0.out
 obtain ⟨v10, v11, v12, v13, v14, v1z⟩ := blk5 b1.out
 go_wp2_with fail
 refine mixQ_n ?_
 clear v00 v01 v02 v03 v04 v0z v10 v11 v12 v13 v14 v1z
 refine mixT_see rfl (by rfl) (Value.agg #[.int .i64 j.kind, .int .i64 j.n, .string j.s, .slice jD3 j.list.length jd3, .slice jD4 j.names.length jd4]) (fun w_ hw_ => by have z1_ := z1.out; have z2_ := z2.out; have z3_ := z3.out; have z4_ := z4.out; have z5_ := z5.out; have f0_ := (sb1.out.fr hw_ (fun h => by have hg_ := hG.out; skip; have hlt_ := sb1.out.lt; (try simp only at h); omega)).cell 0 rfl; have f1_ := (sb1.out.fr hw_ (fun h => by have hg_ := hG.out; skip; have hlt_ := sb1.out.lt; (try simp only at h); omega)).cell 1 rfl; have f2_ := (sb1.out.fr hw_ (fun h => by have hg_ := hG.out; skip; have hlt_ := sb1.out.lt; (try simp only at h); omega)).cell 2 rfl; have f3_ := (sb1.out.fr hw_ (fun h => by have hg_ := hG.out; skip; have hlt_ := sb1.out.lt; (try simp only at h); omega)).cell 3 rfl; have f4_ := (sb1.out.fr hw_ (fun h => by have hg_ := hG.out; skip; have hlt_ := sb1.out.lt; (try simp only at h); omega)).cell 4 rfl; simp [execOp, go_sem, f0_, f1_, f2_, f3_, f4_]) hS.out ?_
 obtain ⟨v00, v01, v02, v03, v04, v0z⟩ := blk5 b0.out
 obtain ⟨v10, v11, v12, v13, v14, v1z⟩ := blk5 b1.out
 go_wp2_with fail
 refine mixQ_n ?_
 clear v00 v01 v02 v03 v04 v0z v10 v11 v12 v13 v14 v1z
 refine mixT_p rfl ?_
 go_big_quiet_want; go_big_quiet_op; go_big_quiet_on; refine wpQuiet_nil ?_
 refine mixT_b rfl ?_ (by rfl)
 go_wp2_with fail
 apply calls_gen; intro W6 hW
 have hz_ : W5.heap.size ≤ W6.heap.size := by rw [hW]; simp
 have hE : Below W5.heap.size W5 W6 := by rw [hW]; (repeat (first | with_reducible refine below_alloc ?_ _ | with_reducible refine below_drew ?_)); exact Below.refl _ _
 have hB := hB.th hE
 have hC := Hd.mk (hC.out.below hE)
 replace hS := Hd.mk (hS.out.trans (Fr.of_below hE _))
 have b0 := b0.dn hE
 have b1 := b1.dn hE
 have hJ := hJ.ob hE
 clear hW hE
 have z6 := Hd.mk hz_; clear hz_
 have hg9_ := hG.out
 have z1_ := z1.out; have z2_ := z2.out; have z3_ := z3.out; have z4_ := z4.out; have z5_ := z5.out; have z6_ := z6.out
 refine (spec_l3DrawWay (B := 30000) j [Value.int IntKind.i64 j.kind, .int .i64 j.n, .string j.s, .slice jD3 j.list.length jd3, .slice jD4 j.names.length jd4] w _ g (by decide) hJ.out (fun h => by have h1 := h.1; omega) hBJ.out hC.out).mono ?_
 rintro e w7 ⟨v, way, rfl, hWy, hwl, hws, hC1, hX⟩
 have hC := Hd.mk hC1; clear hC1
 have hSz0 := hB.out.size
 have hg_ := hG.out
 have z1_ := z1.out; have z2_ := z2.out; have z3_ := z3.out; have z4_ := z4.out; have z5_ := z5.out; have z6_ := z6.out
 have b0 := Hd.mk (b0.out.fr hX (fun h => by skip; (try simp only at h); omega))
 have b1 := Hd.mk (b1.out.fr hX (fun h => by skip; (try simp only at h); omega))
 have hJ := Hd.mk (Ty.O_fr hJ.out hX (fun k hk hl h => by have hg_ := hG.out; (try simp only [rng] at hk); (try simp only at hk); (try simp only at h); omega))
 have hB := Hd.mk (below_frS hB.out hX (fun k h => by (try simp only at h); omega))
 replace hS := Hd.mk (hS.out.trans hX)
 have hz_ := hX.size
 clear hSz0 hg_ hX
 have z7 := Hd.mk hz_; clear hz_
 obtain ⟨AW, cW, hvW, hcW, _⟩ := R_C hWy
 subst hvW
 have hWy := Hd.mk (show str.R 9 w7 (rng W6.heap.size w7.heap.size) _ way from R_bound hWy)
 replace hwl := Hd.mk hwl; replace hws := Hd.mk hws
 go_wp2_with fail
 refine ⟨hS.out, ?_⟩
 refine mixT_fin ?_
 clear hS
 obtain ⟨v00, v01, v02, v03, v04, v0z⟩ := blk5 b0.out
 obtain ⟨v10, v11, v12, v13, v14, v1z⟩ := blk5 b1.out
 refine tail_b rfl ?_ (by rfl)
 go_wp2_with fail
 refine mixQ_n ?_
 refine tail_b rfl ?_ (by rfl)
 go_wp2_with fail
 refine mixQ_n ?_
 refine tail_nil ?_
 go_wp2_with fail
 refine bodyPost_retW (v := .tuple #[.agg #[.int .i64 j.kind, .int .i64 j.n, .string j.s, .slice jD3 j.list.length jd3, .slice jD4 j.names.length jd4], .slice AW way.length cW]) (by simp [results, Tryd.results18, go_sem, v00, v01, v02, v03, v04, v0z, v10, v11, v12, v13, v14, v1z]) rfl ?_
 intro W hW
 clear v00 v01 v02 v03 v04 v0z v10 v11 v12 v13 v14 v1z
 have hz_ : w7.heap.size ≤ W.heap.size := by rw [hW]; simp
 have eF : Fr w7 W (fun k => k = w.heap.size ∨ w7.heap.size ≤ k) := by rw [hW]; (repeat (first | with_reducible refine Fr.setCell ?_ _ (fun _ => by simp <;> omega) _ | with_reducible refine Fr.alloc ?_ _ | with_reducible refine Fr.drew ?_)); exact Fr.refl _ _
 have z1_ := z1.out; have z2_ := z2.out; have z3_ := z3.out; have z4_ := z4.out; have z5_ := z5.out; have z6_ := z6.out; have z7_ := z7.out
 have hC := Hd.mk (hC.out.fr eF (fun h => by have hg_ := hG.out; have hlt_ := hC.out.lt; (try simp only [rng] at h); (try simp only at h); omega) (fun k h => by have hg_ := hG.out; have hge_ := hC.out.ge; (try simp only [rng] at h); (try simp only at h); omega))
 have hB := Hd.mk (((Fr.of_below hB.out (fun k => k = w.heap.size ∨ w7.heap.size ≤ k)).then_ eF (fun k hk _ => hk)).below (fun k hk => by have := hB.out.size; omega))
 have b0 := Hd.mk (show Blk W (w.heap.size) #[.int .i64 j.kind, .int .i64 j.n, .string j.s, .slice jD3 j.list.length jd3, .slice jD4 j.names.length jd4] 27 by rw [hW]; exact (Blk.all b0.out [Value.int IntKind.i64 j.kind, .int .i64 j.n, .string j.s, .slice jD3 j.list.length jd3, .slice jD4 j.names.length jd4] rfl))
 have b1 := Hd.mk (b1.out.fr eF (fun h => by have hlt_ := b1.out.lt; (try simp only at h); omega))
 have hJ := Hd.mk (Ty.O_fr hJ.out eF (fun k hk hl h => by have hg_ := hG.out; (try simp only [rng] at hk); (try simp only at hk); (try simp only at h); omega))
 have hWy := Hd.mk (R_fr hWy.out eF (fun k hk hl h => by skip; (try simp only [rng] at hk); (try simp only at hk); (try simp only at h); omega))
 clear hW eF
 have z8 := Hd.mk hz_; clear hz_
 have z1_ := z1.out; have z2_ := z2.out; have z3_ := z3.out; have z4_ := z4.out; have z5_ := z5.out; have z6_ := z6.out; have z7_ := z7.out; have z8_ := z8.out
 have hSz_ := hB.out.size
 exact ⟨j, way, [Value.int IntKind.i64 j.kind, .int .i64 j.n, .string j.s, .slice jD3 j.list.length jd3, .slice jD4 j.names.length jd4], AW, cW, rfl, Ty.O_K _ hJ.out, R_mono (fun q h => by have h1 := h.1; omega) hWy.out, hBJ.out, hwl.out, hws.out, hB.out⟩
end Go.Proofs.YtoaifagjdjgcbaaDoor.X
namespace Go.Proofs.YtoaifagjdjgcbaaDoor.X
open Go.RowKit Go.Sort
set_option linter.unusedVariables false
set_option linter.unusedSimpArgs false
open Ty
theorem getV_cat : ∀ (a b : List ByteArray) (x : J), getV x (a ++ b) = (getV x a).bind (fun y => getV y b)
 | [], b, x => by rw [List.nil_append, getV]; rfl
 | s :: a, b, x => by
  rw [List.cons_append, getV, getV]
  by_cases h1 : placeS x s < 0
  ·rw [if_pos h1, if_pos h1]; rfl
  ·rw [if_neg h1, if_neg h1]
   cases hz : x.list[(placeS x s).toNat]? with
   | none => rfl
   | some z => exact getV_cat a b z
theorem getV_right : ∀ (way : List ByteArray) (d : Nat) (x y : J), sizeN d x ≤ 400 → getV x way = some y → ∃ e, e ≤ d ∧ sizeN e y ≤ sizeN d x
 | [], d, x, y, h, hy => by
  rw [getV] at hy
  obtain rfl := Option.some.inj hy
  exact ⟨d, Nat.le_refl _, Int.le_refl _⟩
 | s :: way, 0, x, y, h, hy => by simp [sizeN] at h
 | s :: way, d + 1, x, y, h, hy => by
  rw [getV] at hy
  by_cases h1 : placeS x s < 0
  ·rw [if_pos h1] at hy; cases hy
  ·rw [if_neg h1] at hy
   cases hz : x.list[(placeS x s).toNat]? with
   | none => rw [hz] at hy; cases hy
   | some z =>
    rw [hz] at hy
    have hm := List.mem_of_getElem? hz
    obtain ⟨e, he, h2⟩ := getV_right way d z y (size_part h hm) hy
    have h3 := sumZ_mem (sizeN d) (sizeN_pos d) hm
    have h4 := (size_own h).2
    exact ⟨e, by omega, by omega⟩
theorem sizeN_more {e d : Nat} {y : J} (h : sizeN e y ≤ 400) (hd : e ≤ d) : sizeN d y = sizeN e y := by
 obtain ⟨i, rfl⟩ := Nat.exists_eq_add_of_le hd
 clear hd
 induction i with
 | zero => rfl
 | succ i ih => rw [← Nat.add_assoc, sizeN_up _ _ (by rw [ih]; exact h), ih]
theorem jsonOk_iff {x : J} : jsonOk x = true ↔ sizeN 6 x ≤ 400 := ⟨fun h => of_decide_eq_true (show decide (sizeN 6 x ≤ 400) = true from h), fun h => decide_eq_true h⟩
theorem getV_ok {x y : J} {way : List ByteArray} (h : jsonOk x = true) (hy : getV x way = some y) : jsonOk y = true ∧ jsonSize y ≤ jsonSize x := by
 have h1 := jsonOk_iff.1 h
 obtain ⟨e, he, h2⟩ := getV_right way 6 x y h1 hy
 have h3 : sizeN 6 y = sizeN e y := sizeN_more (by omega) he
 have h4 : sizeN 6 y ≤ 400 := by omega
 refine ⟨jsonOk_iff.2 h4, ?_⟩
 rw [show jsonSize y = sizeN 6 y from if_pos h4, show jsonSize x = sizeN 6 x from if_pos h1]
 omega
theorem getB_iff {x : J} {way : List ByteArray} : getB x way = true ↔ jsonOk x = true ∧ ∃ y, getV x way = some y ∧ getJ x way = y := by
 unfold getB getJ
 rw [Bool.and_eq_true]
 constructor
 ·rintro ⟨h1, h2⟩
  obtain ⟨y, hy⟩ := Option.isSome_iff_exists.1 h2
  exact ⟨h1, y, hy, by rw [if_pos h1, hy]; rfl⟩
 ·rintro ⟨h1, y, hy, _⟩
  exact ⟨h1, by rw [hy]; rfl⟩
theorem getB_of {x y : J} {way : List ByteArray} (h1 : jsonOk x = true) (hy : getV x way = some y) : getB x way = true ∧ getJ x way = y := by
 unfold getB getJ
 rw [h1, hy, if_pos rfl]
 exact ⟨rfl, rfl⟩
theorem getJ_no {x : J} {way : List ByteArray} (h : getB x way = false) : (getJ x way).kind = 0 := by
 unfold getJ
 unfold getB at h
 split
 ·rename_i h1
  rw [h1, Bool.true_and] at h
  cases hy : getV x way with
  | none => rfl
  | some y => rw [hy] at h; cases h
 ·rfl
theorem get_cut {x : J} {way : List ByteArray} (k : Nat) (h : getB x way = true) : getB x (way.take k) = true ∧ getB (getJ x (way.take k)) (way.drop k) = true ∧ getJ (getJ x (way.take k)) (way.drop k) = getJ x way ∧ jsonOk (getJ x way) = true ∧ jsonSize (getJ x way) ≤ jsonSize x := by
 obtain ⟨hx, y, hy, hj⟩ := getB_iff.1 h
 have h1 := getV_cat (way.take k) (way.drop k) x
 rw [List.take_append_drop, hy] at h1
 cases hz : getV x (way.take k) with
 | none => rw [hz] at h1; cases h1
 | some z =>
  rw [hz] at h1
  have h2 : getV z (way.drop k) = some y := h1.symm
  obtain ⟨a1, a2⟩ := getB_of hx hz
  obtain ⟨hzo, _⟩ := getV_ok hx hz
  obtain ⟨b1, b2⟩ := getB_of hzo h2
  obtain ⟨hyo, hsz⟩ := getV_ok hx hy
  rw [a2, hj]
  exact ⟨a1, b1, b2, hyo, hsz⟩
theorem field_get {j : J} {s : ByteArray} (h : hasField j s = true) : getB j [s] = true ∧ getJ j [s] = field j s ∧ jsonOk (field j s) = true := by
 unfold hasField at h
 rw [Bool.and_eq_true] at h
 obtain ⟨h1, h2⟩ := h
 have h2 : 0 ≤ nameAt j.names s := of_decide_eq_true h2
 have ho := (size_own (d := 5) (jsonOk_iff.1 h1)).1
 have hl := nameAt_own ho s
 have hn := nameAt_le j.names s
 have hk : j.kind = 5 := by
  rcases Classical.em (j.kind = 5) with h | h
  ·exact h
  ·have := (own_names ho).2.2.1 h
   omega
 have hp : placeS j s = nameAt j.names s := by unfold placeS; rw [hk]; rfl
 have hq : j.list[(nameAt j.names s).toNat]? = some (j.list[(nameAt j.names s).toNat]'(by omega)) := List.getElem?_eq_getElem (by omega)
 have hv : getV j [s] = some (j.list[(nameAt j.names s).toNat]'(by omega)) := by
  rw [getV, hp, if_neg (by omega), hq]
  exact getV.eq_1 _
 obtain ⟨a1, a2⟩ := getB_of h1 hv
 have hf : field j s = j.list[(nameAt j.names s).toNat]'(by omega) := by
  unfold field
  rw [if_pos (by rw [h1, decide_eq_true h2]; rfl), List.getD_eq_getElem?_getD, hq]
  rfl
 rw [hf]
 exact ⟨a1, a2, (getV_ok h1 hv).1⟩
theorem field_no {j : J} {s : ByteArray} (h : hasField j s = false) : (field j s).kind = 0 := by
 unfold field
 unfold hasField at h
 rw [if_neg (by rw [h]; decide)]
 rfl
theorem jsonSame_symm (x y : J) : jsonSame x y = jsonSame y x := by
 unfold jsonSame
 have h : eqv x y = eqv y x := by
  rw [Bool.eq_iff_iff, eqv_iff, eqv_iff]
  exact ⟨Eq.symm, Eq.symm⟩
 rw [h]
 cases jsonOk x <;> cases jsonOk y <;> rfl
theorem jsonSame_self (x : J) : jsonSame x x = jsonOk x := by
 unfold jsonSame
 rw [eqv_self]
 cases jsonOk x <;> rfl
theorem jsonSame_eq {x y : J} (h : jsonSame x y = true) : x = y := by
 unfold jsonSame at h
 simp only [Bool.and_eq_true] at h
 exact eqv_iff.1 h.2.2
theorem jsonSize_no {x : J} (h : jsonOk x = false) : jsonSize x = 0 ∧ jsonDepth x = 0 := by
 have h1 : ¬ sizeN 6 x ≤ 400 := of_decide_eq_false (show decide (sizeN 6 x ≤ 400) = false from h)
 exact ⟨if_neg h1, if_neg h1⟩
theorem jsonSize_sum {x : J} (h : jsonOk x = true) : jsonSize x = 1 + sumZ jsonSize x.list := by
 have h1 : sizeN 6 x ≤ 400 := of_decide_eq_true (show decide (sizeN 6 x ≤ 400) = true from h)
 rw [show jsonSize x = sizeN 6 x from if_pos h1, (size_own h1).2, sumZ_congr jsonSize (sizeN 5) x.list (fun y hy => ?_)]
 have h2 : sizeN 5 y ≤ 400 := size_part h1 hy
 have h3 := sizeN_up 5 y h2
 rw [show jsonSize y = sizeN 6 y from if_pos (by rw [h3]; exact h2), h3]
theorem maxN_sum {α : Type} (f : α → Nat) (g : α → Int) : ∀ l : List α, (∀ x ∈ l, (f x : Int) ≤ g x) → (maxN f l : Int) ≤ sumZ g l
 | [], _ => Int.le_refl _
 | x :: l, h => by
  have h1 := maxN_sum f g l (fun y hy => h y (by simp [hy]))
  have h2 := h x (by simp)
  simp only [maxN, sumZ]
  omega
theorem depth_size : ∀ (d : Nat) (x : J), sizeN d x ≤ 400 → 1 ≤ depthD d x ∧ (depthD d x : Int) ≤ sizeN d x
 | 0, x, h => by simp [sizeN] at h
 | d + 1, x, h => by
  have h1 := maxN_sum (depthD d) (sizeN d) x.list (fun y hy => (depth_size d y (size_part h hy)).2)
  have h2 := (size_own h).2
  simp only [depthD]
  omega
theorem jsonDepth_le {x : J} (h : jsonOk x = true) : 1 ≤ jsonDepth x ∧ jsonDepth x ≤ jsonSize x := by
 have h1 : sizeN 6 x ≤ 400 := of_decide_eq_true (show decide (sizeN 6 x ≤ 400) = true from h)
 obtain ⟨h2, h3⟩ := depth_size 6 x h1
 rw [show jsonSize x = sizeN 6 x from if_pos h1, show jsonDepth x = (depthD 6 x : Int) from if_pos h1]
 omega
def firstRow (l : List Row) (id : Int) : Option Row := l.find? (fun x => x.id == id)
theorem rowAt_first (l : List Row) (id : Int) : (firstRow l id = none ∧ rowAt l id = -1) ∨ ∃ j, ∃ h : j < l.length, rowAt l id = (j : Int) ∧ firstRow l id = some l[j] := by
 rcases idxF_cases (fun x : Row => x.id == id) l with ⟨h1, h2⟩ | ⟨h1, h2⟩
 ·left
  refine ⟨?_, h1⟩
  unfold firstRow
  rw [List.find?_eq_none]
  intro x hx
  have := List.findIdx_eq_length.1 h2 x hx
  simpa using this
 ·right
  refine ⟨_, h2, h1, ?_⟩
  unfold firstRow
  rw [List.find?_eq_some_iff_getElem]
  exact ⟨List.findIdx_getElem (w := h2), _, h2, rfl, fun j hj => by have := List.not_of_lt_findIdx hj; simpa using this⟩
theorem first_ins (a b : List Row) (r : Row) (id : Int) (h : r.id ≠ id) : firstRow (a ++ r :: b) id = firstRow (a ++ b) id := by
 unfold firstRow
 rw [List.find?_append, List.find?_append, List.find?_cons]
 rw [show (r.id == id) = false by simpa using h]
theorem first_put_ne (l : List Row) (r : Row) (id : Int) (h : r.id ≠ id) : firstRow (rowPut l r) id = firstRow l id := by
 unfold rowPut
 split
 ·rename_i hlt
  have h1 : l[l.findIdx (fun x => x.id == r.id)].id = r.id := by simpa using List.findIdx_getElem (xs := l) (p := fun x : Row => x.id == r.id) (w := hlt)
  generalize hq : l.findIdx (fun x => x.id == r.id) = q at hlt h1
  rw [List.set_eq_take_append_cons_drop, if_pos hlt, first_ins _ _ _ _ h]
  have h2 : l = l.take q ++ l[q] :: l.drop (q + 1) := by rw [List.getElem_cons_drop, List.take_append_drop]
  rw [h2, first_ins _ _ l[q] id (by rw [h1]; exact h)]
  have h3 : (l.take q ++ l[q] :: l.drop (q + 1)).take q = l.take q := by rw [← h2]
  have h4 : (l.take q ++ l[q] :: l.drop (q + 1)).drop (q + 1) = l.drop (q + 1) := by rw [← h2]
  rw [h3, h4]
 ·rw [first_ins _ _ _ _ h, List.take_append_drop]
theorem first_put (l : List Row) (r : Row) : firstRow (rowPut l r) r.id = some r := by
 unfold rowPut
 split
 ·rename_i hlt
  rw [List.set_eq_take_append_cons_drop, if_pos hlt]
  unfold firstRow
  rw [List.find?_append, List.find?_cons]
  have h1 : (l.take (l.findIdx (fun x => x.id == r.id))).find? (fun x => x.id == r.id) = none := by
   rw [List.find?_eq_none]
   intro x hx
   obtain ⟨j, hj, rfl⟩ := List.mem_take_iff_getElem.1 hx
   have := List.not_of_lt_findIdx (p := fun x : Row => x.id == r.id) (xs := l) (i := j) (by omega)
   simpa using this
  rw [h1]
  simp
 ·rename_i hlt
  unfold firstRow
  rw [List.find?_append, List.find?_cons]
  have h1 : (l.take (l.findIdx (fun x => decide (r.id < x.id)))).find? (fun x => x.id == r.id) = none := by
   rw [List.find?_eq_none]
   intro x hx hb
   exact hlt (List.findIdx_lt_length_of_exists ⟨x, List.mem_of_mem_take hx, hb⟩)
  rw [h1]
  simp
theorem drop_gone (l : List Row) (id : Int) (h : IdsP l) : rowAt (rowDrop l id) id = -1 := by
 rcases rowAt_first (rowDrop l id) id with ⟨_, h1⟩ | ⟨j, hj, h1, h2⟩
 ·exact h1
 ·exfalso
  have h3 : (rowDrop l id)[j].id = id := by
   unfold firstRow at h2
   simpa using List.find?_some h2
  unfold rowDrop at hj h3
  rw [List.getElem_eraseIdx] at h3
  have hl : (l.eraseIdx (l.findIdx (fun r => r.id == id))).length ≤ l.length := List.length_eraseIdx_le _ _
  have key : ∀ a (ha : a < l.length), a ≠ l.findIdx (fun r => r.id == id) → l[a].id ≠ id := by
   intro a ha hne he
   have hlt : l.findIdx (fun r => r.id == id) < l.length := List.findIdx_lt_length_of_exists ⟨l[a], List.getElem_mem ha, by simpa using he⟩
   have hq : l[l.findIdx (fun r => r.id == id)].id = id := by simpa using List.findIdx_getElem (xs := l) (p := fun x : Row => x.id == id) (w := hlt)
   apply hne
   have h4 : (l.map Row.id)[a]'(by simpa using ha) = (l.map Row.id)[l.findIdx (fun r => r.id == id)]'(by simpa using hlt) := by
    simp only [List.getElem_map]
    rw [he, hq]
   exact (List.getElem_inj h).1 h4
  split at h3
  ·rename_i hb
   exact key j _ (by omega) h3
  ·rename_i hb
   exact key (j + 1) _ (by omega) h3
theorem put_has (l : List Row) (r : Row) : ∃ q, ∃ h : q < (rowPut l r).length, rowAt (rowPut l r) r.id = (q : Int) ∧ (rowPut l r)[q] = r := by
 rcases rowAt_first (rowPut l r) r.id with ⟨h1, _⟩ | ⟨j, hj, h1, h2⟩
 ·rw [first_put] at h1; cases h1
 ·rw [first_put] at h2
  injection h2 with h2
  exact ⟨j, hj, h1, h2.symm⟩
theorem put_keeps (l : List Row) (r : Row) (i : Nat) (hi : i < l.length) (hne : l[i].id ≠ r.id) : ∃ j, ∃ h : j < (rowPut l r).length, rowAt (rowPut l r) l[i].id = (j : Int) ∧ (rowAt l l[i].id = (i : Int) → (rowPut l r)[j] = l[i]) := by
 rcases rowAt_first (rowPut l r) l[i].id with ⟨h1, _⟩ | ⟨j, hj, h1, h2⟩
 ·rw [first_put_ne _ _ _ (Ne.symm hne)] at h1
  unfold firstRow at h1
  rw [List.find?_eq_none] at h1
  exact absurd (by simp) (h1 l[i] (List.getElem_mem hi))
 ·refine ⟨j, hj, h1, fun h3 => ?_⟩
  rw [first_put_ne _ _ _ (Ne.symm hne)] at h2
  rcases rowAt_first l l[i].id with ⟨_, h5⟩ | ⟨k, hk, h5, h6⟩
  ·omega
  ·obtain rfl : k = i := by omega
   rw [h6] at h2
   injection h2 with h2
   exact h2.symm
theorem laws_big (A : Option Addr) (c : Nat) (bs : List Int) (w : World) (hm : bs.length ≤ 9223372036854775807) : Calls Tryd.prog 7 #[.slice A bs.length c] w fun e w' => e = .returned (.bool (decide ((1048576 : Int) < bs.length))) ∧ w = w' := by
 go_enter Tryd.func7, Tryd.ntmps7
 go_wp2
 go_ret
 exact ⟨rfl, rfl⟩
end Go.Proofs.YtoaifagjdjgcbaaDoor.X
