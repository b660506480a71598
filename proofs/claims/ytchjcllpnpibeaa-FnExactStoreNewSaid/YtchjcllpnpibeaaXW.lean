/- What is proved here: contracts of StoreNew. Conditions: none. -/
import Derived.Test.YtchjcllpnpibeaaXV
import Derived.Test.YtchjcllpnpibeaaXFe
namespace Go.Proofs.Ytchjcllpnpibeaa.X
open Go.RowKit Go.Sort
set_option linter.unusedVariables false
set_option linter.unusedSimpArgs false
open Ty
def storeNew (cols : List Int) : Store := if schemaOk cols then ⟨cols, 0, List.replicate cols.length []⟩ else ⟨[], 0, []⟩
theorem storeOk_new (cols : List Int) : storeOk ⟨cols, 0, List.replicate cols.length []⟩ = schemaOk cols := by
  unfold storeOk
  cases h : schemaOk cols
  · rfl
  · simp only [Bool.true_and, List.length_replicate, bne_self_eq_false, Bool.not_false]
    rw [show inB 0 0 100000 = true from rfl, Bool.true_and, List.all_eq_true]
    intro k hk
    have hk : k < cols.length := by simpa using hk
    have e : (List.replicate cols.length ([] : List Row)).getD k [] = [] := by simp [List.getD_eq_getElem?_getD, List.getElem?_replicate, hk]
    rw [e]
    unfold rowsOk
    simp only [List.length_nil, List.range_zero, List.all_nil, Bool.true_and, h]
    simp [hasTab, inB]
    omega
theorem bulkL_rep {α : Type} (b : α → Nat) (x : α) (n : Nat) (h : b x = 0) : bulkL b (List.replicate n x) = 0 := by
  induction n with
  | zero => rfl
  | succ n ih => simp only [List.replicate_succ, bulkL, h, ih]
theorem cnt_storeNew (l : List Int) : ((storeNew l).cols.length : Int) + (bulkL cnRows (storeNew l).tabs : Int) ≤ l.length := by
  unfold storeNew
  split
  · have : bulkL cnRows (List.replicate l.length []) = 0 := bulkL_rep _ _ _ rfl
    simp only [this]; omega
  · simp [bulkL]
theorem sl_KC {w : World} {l : List Int} {A : Option Addr} {n c : Nat} (h : (sl 3 int).K w l [.slice A n c]) : int.C w A l := by
  obtain ⟨A1, c1, he, _, hC⟩ := sl_K.1 h
  simp only [List.cons.injEq, and_true, Value.slice.injEq] at he
  obtain ⟨rfl, _⟩ := he
  exact hC
theorem ZS (w : World) (S : Nat → Prop) : tStore.O w S ⟨[], 0, []⟩ [.slice none 0 0, .int .i64 0, .slice none 0 0] :=
  tStore_O.2 ⟨_, _, fun _ => False, fun _ => False, rfl, R_nil, R_nil, fun _ h => h.elim, fun _ h => h.elim, fun _ h => h.elim⟩
theorem info_RowSS_ : (Try.prog.info? 42).map (fun i => (i.zero, i.size, i.bytes)) = some (some (.slice none 0 0), 1, 24) := by kernel_rfl
theorem R_tabs {w W1 : World} (n : Nat) (hn : n ≤ 9223372036854775807) (hW : W1 = w.alloc (.cells (madeCells #[Value.slice none 0 0] n) 42)) : tRows.R 42 W1 (rng w.heap.size (w.heap.size + 1)) (.slice (some ⟨w.heap.size, 0, none⟩) n n) (List.replicate n []) := by
  subst hW
  have h := R_made (d := tRows) (e := 42) (W := w) (S := rng w.heap.size (w.heap.size + 1)) (z := .slice none 0 0) [] n (Nat.le_refl _) hn rfl (fun _ _ _ => ⟨_, rfl, R_nil⟩) ⟨Nat.le_refl _, Nat.lt_succ_self _⟩
  simp only [show tRows.sz = 1 from rfl, Nat.mul_one, show (Value.slice none 0 0).cells = #[Value.slice none 0 0] from rfl] at h
  exact h
theorem Fr.cell_out {w w1 : World} {S : Nat → Prop} (h : Fr w w1 S) (p : Addr) (hp : p.block < w.heap.size) (hs : ¬ S p.block) : w1.cell? p = w.cell? p := by
  unfold World.cell?
  rw [h.block _ hp hs]
theorem Fr.frozen_out {w w1 : World} {S : Nat → Prop} (h : Fr w w1 S) (p : Addr) (hp : p.block < w.heap.size) (hs : ¬ S p.block) : w1.frozen? p = w.frozen? p := by
  unfold World.frozen?
  rw [h.block _ hp hs]
set_option maxRecDepth 100000 in
theorem spec_l7Schema (A : Option Addr) (c : Nat) (l : List Int) (w : World) (hr : int.C w A l) (hl : l.length ≤ 4194304) :
    Calls Try.prog 160 #[.agg #[.slice A l.length c]] w fun e w' => ∃ v, e = .returned (.agg #[v]) ∧ int.R 3 w' (fun k => w.heap.size ≤ k) v l ∧ Below w.heap.size w w' := by
  have HC := Hd.mk hr; clear hr
  have hB := Hd.mk (Below.refl w.heap.size w)
  go_enter Try.func160, Try.ntmps160
  have HR0 : Hd (int.R 3 (((w.alloc (.cells #[.slice A l.length c] 28)).alloc (.cells #[.slice none 0 0] 28)).alloc (.cells #[] 3)) (fun k => w.heap.size + 1 + 1 ≤ k) (.slice (some ⟨w.heap.size + 1 + 1, 0, none⟩) 0 0) []) := ⟨by simpa using R_empty int 3 ((w.alloc (.cells #[.slice A l.length c] 28)).alloc (.cells #[.slice none 0 0] 28))⟩
  have HB3 : ∀ o1 o2 o3, Hd (Below w.heap.size w (((w.alloc o1).alloc o2).alloc o3)) := fun o1 o2 o3 => ⟨below_alloc (below_alloc (below_alloc (Below.refl _ _) _) _) _⟩
  go_wp2_with (at_builtin; refine append_scal (h1 := fun _ => rfl) rfl _ _ 23 3 (.int .i64 0) 8 rfl Try.underlying23 info_int rfl (by decide) (S' := fun k => w.heap.size + 1 + 1 ≤ k) rfl rfl HR0.out (C_below HC.out (HB3 _ _ _).out) (fun _ h => h) (fun k h => by simp at h; omega) (by simp; omega) (fun v1 w1 hv hf => ?_); obtain ⟨D1, d1, rfl, _, _⟩ := R_C hv; have hq : w1.cell? ⟨w.heap.size + 1, 0, none⟩ = some (.slice none 0 0) := (hf.cell_out ⟨w.heap.size + 1, 0, none⟩ (by simp) (by simp)).trans (by simp [go_sem]); have hz : w1.frozen? ⟨w.heap.size + 1, 0, none⟩ = false := (hf.frozen_out ⟨w.heap.size + 1, 0, none⟩ (by simp) (by simp)).trans (by simp [go_sem]); have HV := Hd.mk hv; clear hv; have HB1 := Hd.mk (((Fr.of_below (HB3 _ _ _).out (fun k => w.heap.size + 1 + 1 ≤ k)).then_ hf (fun k h _ => h)).below (fun k h => by omega)); clear hf HR0 HB3)
  refine bodyPost_retW (v := .agg #[.slice D1 l.length d1]) (by simp [results, Try.results160, go_sem, hq]) rfl ?_
  intro W hW
  have eF : Fr w1 W (fun k => k = w.heap.size + 1) := by rw [hW]; exact Fr.setCell (S := fun k => k = w.heap.size + 1) (Fr.refl _ _) _ (fun _ => rfl) _
  exact ⟨_, rfl, R_mono (fun k h => by omega) (R_fr HV.out eF (fun k h1 _ h2 => by omega)), ((Fr.of_below HB1.out (fun k => k = w.heap.size + 1)).then_ eF (fun k h _ => h)).below (fun k h => by omega)⟩
set_option maxRecDepth 100000 in
theorem spec_StoreNew (A : Option Addr) (c : Nat) (l : List Int) (w : World) (hr : int.C w A l) (hl : l.length ≤ 4194304) :
    Calls Try.prog 69 #[.agg #[.slice A l.length c]] w fun e w' => ∃ cs, e = .returned (.tuple #[.agg cs.toArray, .bool (schemaOk l)]) ∧ tStore.O w' (fun k => w.heap.size ≤ k) (storeNew l) cs ∧ Below w.heap.size w w' := by
  have hm := hr.1
  have HC := Hd.mk hr; clear hr
  have hB := Hd.mk (Below.refl w.heap.size w)
  have hmk := make_eq (P := Try.prog) 79 42 (.slice none 0 0) 1 24 Try.underlying79 info_RowSS_ l.length (by omega) (by omega)
  have hMK := Hd.mk hmk; clear hmk
  go_enter Try.func69, Try.ntmps69
  go_wp2_with fail
  apply calls_gen; intro W1 hW
  have hz_ : w.heap.size + 2 ≤ W1.heap.size := by rw [hW]; simp
  have hE : Below w.heap.size w W1 := by rw [hW]; (repeat (first | with_reducible refine below_alloc ?_ _ | with_reducible refine below_drew ?_)); exact Below.refl _ _
  have hB := Hd.mk (below_then hB.out hE)
  have b0 := Hd.mk (show Blk W1 (w.heap.size) #[Value.slice A l.length c] 28 by rw [hW]; first | exact ((Blk.new _ _ _).alloc _) | (simpa using ((Blk.new _ _ _).alloc _)))
  have b1 := Hd.mk (show Blk W1 (w.heap.size + 1) #[Value.slice none 0 0, Value.int IntKind.i64 0, Value.slice none 0 0] 81 by rw [hW]; first | exact (Blk.new1 _ _ _ _) | (simpa using (Blk.new1 _ _ _ _)))
  clear hW hE
  have z1 := Hd.mk hz_; clear hz_
  refine (spec_SchemaOk _ _ l _ (C_below HC.out hB.out)).mono ?_
  rintro e w2 ⟨rfl, hX⟩
  have b0 := Hd.mk (b0.out.below hX)
  have b1 := Hd.mk (b1.out.below hX)
  have hB := Hd.mk (below_then hB.out hX)
  have hz_ := hX.size
  clear hX
  have z2 := Hd.mk hz_; clear hz_
  cases hb : schemaOk l
  · have HE := Hd.mk (show storeNew l = ⟨[], 0, []⟩ by unfold storeNew; rw [hb]; rfl)
    have fb0_0 : w2.cell? ⟨w.heap.size, 0, none⟩ = some (Value.slice A l.length c) := b0.out.cell 0 rfl
    have fb0_z := b0.out.frozen
    have fb1_0 : w2.cell? ⟨w.heap.size + 1, 0, none⟩ = some (Value.slice none 0 0) := b1.out.cell 0 rfl
    have fb1_1 : w2.cell? ⟨w.heap.size + 1, 1, none⟩ = some (Value.int IntKind.i64 0) := b1.out.cell 1 rfl
    have fb1_2 : w2.cell? ⟨w.heap.size + 1, 2, none⟩ = some (Value.slice none 0 0) := b1.out.cell 2 rfl
    have fb1_z := b1.out.frozen
    go_wp2_with fail
    refine bodyPost_retW (v := .tuple #[.agg #[Value.slice none 0 0, Value.int IntKind.i64 0, Value.slice none 0 0], .bool false]) (by simp [results, Try.results69, go_sem, fb0_0, fb0_z, fb1_0, fb1_1, fb1_2, fb1_z]) rfl ?_
    intro W hW
    clear fb0_0 fb0_z fb1_0 fb1_1 fb1_2 fb1_z
    have hz_ : w2.heap.size ≤ W.heap.size := by rw [hW]; simp
    have eF : Fr w2 W (fun k => k = w.heap.size + 1 ∨ w2.heap.size ≤ k) := by rw [hW]; (repeat (first | with_reducible refine Fr.setCell ?_ _ (fun _ => by simp <;> omega) _ | with_reducible refine Fr.alloc ?_ _ | with_reducible refine Fr.drew ?_)); exact Fr.refl _ _
    have z1_ := z1.out; have z2_ := z2.out
    have hB := Hd.mk (((Fr.of_below hB.out (fun k => k = w.heap.size + 1 ∨ w2.heap.size ≤ k)).then_ eF (fun k hk _ => hk)).below (fun k hk => by have := hB.out.size; omega))
    have b0 := Hd.mk (b0.out.fr eF (fun h => by have hlt_ := b0.out.lt; (try simp only at h); omega))
    have b1 := Hd.mk (show Blk W (w.heap.size + 1) #[Value.slice none 0 0, Value.int IntKind.i64 0, Value.slice none 0 0] 81 by rw [hW]; exact (Blk.all b1.out [Value.slice none 0 0, Value.int IntKind.i64 0, Value.slice none 0 0] rfl))
    clear hW eF
    have z3 := Hd.mk hz_; clear hz_
    exact ⟨_, by rw [hb], by rw [HE.out]; exact ZS _ _, hB.out⟩
  · have HE := Hd.mk (show storeNew l = ⟨l, 0, List.replicate l.length []⟩ by unfold storeNew; rw [hb]; rfl)
    have fb0_0 : w2.cell? ⟨w.heap.size, 0, none⟩ = some (Value.slice A l.length c) := b0.out.cell 0 rfl
    have fb0_z := b0.out.frozen
    have fb1_0 : w2.cell? ⟨w.heap.size + 1, 0, none⟩ = some (Value.slice none 0 0) := b1.out.cell 0 rfl
    have fb1_1 : w2.cell? ⟨w.heap.size + 1, 1, none⟩ = some (Value.int IntKind.i64 0) := b1.out.cell 1 rfl
    have fb1_2 : w2.cell? ⟨w.heap.size + 1, 2, none⟩ = some (Value.slice none 0 0) := b1.out.cell 2 rfl
    have fb1_z := b1.out.frozen
    go_wp2_with fail
    clear fb0_0 fb0_z fb1_0 fb1_1 fb1_2 fb1_z
    apply wp_gen; intro W3 hW
    have hz_ : w2.heap.size ≤ W3.heap.size := by rw [hW]; simp
    have hE : Below w2.heap.size w2 W3 := by rw [hW]; (repeat (first | with_reducible refine below_alloc ?_ _ | with_reducible refine below_drew ?_)); exact Below.refl _ _
    have hB := Hd.mk (below_then hB.out hE)
    have b0 := Hd.mk (b0.out.below hE)
    have b1 := Hd.mk (b1.out.below hE)
    clear hW hE
    have z3 := Hd.mk hz_; clear hz_
    have fb0_0 : W3.cell? ⟨w.heap.size, 0, none⟩ = some (Value.slice A l.length c) := b0.out.cell 0 rfl
    have fb0_z := b0.out.frozen
    have fb1_0 : W3.cell? ⟨w.heap.size + 1, 0, none⟩ = some (Value.slice none 0 0) := b1.out.cell 0 rfl
    have fb1_1 : W3.cell? ⟨w.heap.size + 1, 1, none⟩ = some (Value.int IntKind.i64 0) := b1.out.cell 1 rfl
    have fb1_2 : W3.cell? ⟨w.heap.size + 1, 2, none⟩ = some (Value.slice none 0 0) := b1.out.cell 2 rfl
    have fb1_z := b1.out.frozen
    have rfb0_0 := cell_regrown fb0_0
    have rfb1_0 := cell_regrown fb1_0
    have rfb1_1 := cell_regrown fb1_1
    have rfb1_2 := cell_regrown fb1_2
    refine region_mixT (.q 0 (.q 2 (.q 3 (.q 4 (.br 1 5 (.b 5 (.q 6 .fin)) (.b 1 (.q 6 .fin))))))) [7, 8] (by kernel_rfl) (by kernel_rfl) (fun _ _ _ _ _ h => h) ?_
    refine genT ?_
    intro W4 hW
    have hS := Hd.mk (show Below W3.heap.size W3 W4 by rw [hW]; exact below_drew (Below.refl _ _))
    have hz_ : W3.heap.size ≤ W4.heap.size := by rw [hW]; simp
    have hE : Below W3.heap.size W3 W4 := by rw [hW]; (repeat (first | with_reducible refine below_alloc ?_ _ | with_reducible refine below_drew ?_)); exact Below.refl _ _
    have hB := Hd.mk (below_then hB.out hE)
    have b0 := Hd.mk (b0.out.below hE)
    have b1 := Hd.mk (b1.out.below hE)
    clear hW hE
    have z4 := Hd.mk hz_; clear hz_
    refine mixT_q rfl ?_
    go_big_quiet_want; go_big_quiet_op; go_big_quiet_on; refine wpQuiet_nil ?_
    refine mixT_q rfl ?_
    go_big_quiet_want; go_big_quiet_op; go_big_quiet_on; refine wpQuiet_nil ?_
    refine mixT_q rfl ?_
    go_big_quiet_want; go_big_quiet_op; go_big_quiet_on; refine wpQuiet_nil ?_
    refine mixT_q rfl ?_
    go_big_quiet_want; go_big_quiet_op; go_big_quiet_on; refine wpQuiet_nil ?_
    refine ⟨?_, ?_⟩
    · refine stepM_of rfl ?_ (by rfl)
      go_wp2_with fail
      apply calls_gen; intro W5 hW
      have hz_ : W4.heap.size ≤ W5.heap.size := by rw [hW]; simp
      have hE : Below W4.heap.size W4 W5 := by rw [hW]; (repeat (first | with_reducible refine below_alloc ?_ _ | with_reducible refine below_drew ?_)); exact Below.refl _ _
      have hB := Hd.mk (below_then hB.out hE)
      replace hS := Hd.mk (below_then hS.out hE)
      have b0 := Hd.mk (b0.out.below hE)
      have b1 := Hd.mk (b1.out.below hE)
      clear hW hE
      have z5 := Hd.mk hz_; clear hz_
      refine (spec_l7Schema _ _ l _ (C_below HC.out hB.out) hl).mono ?_
      rintro e w6 ⟨v1, rfl, hO, hX⟩
      have b0 := Hd.mk (b0.out.below hX)
      have b1 := Hd.mk (b1.out.below hX)
      have hB := Hd.mk (below_then hB.out hX)
      replace hS := Hd.mk (below_then hS.out hX)
      have hz_ := hX.size
      clear hX
      have z6 := Hd.mk hz_; clear hz_
      obtain ⟨D1, d1, rfl, _, _⟩ := R_C hO
      replace hO := Hd.mk (show int.R 3 w6 (rng W5.heap.size w6.heap.size) _ l from R_bound hO)
      go_wp2_with fail
      refine ⟨cls_below hS.out, ?_⟩
      refine mixT_b rfl ?_ (by rfl)
      have hmk := hMK.out
      go_wp2_with fail
      clear hmk
      refine ⟨cls_below (below_alloc hS.out _), ?_⟩
      refine genT ?_; intro W7 hW
      have hT := Hd.mk (R_tabs l.length hm hW)
      have hz_ : w6.heap.size + 1 ≤ W7.heap.size := by rw [hW]; simp
      have hE : Below w6.heap.size w6 W7 := by rw [hW]; (repeat (first | with_reducible refine below_alloc ?_ _ | with_reducible refine below_drew ?_)); exact Below.refl _ _
      have hB := Hd.mk (below_then hB.out hE)
      replace hS := Hd.mk (below_then hS.out hE)
      have b0 := Hd.mk (b0.out.below hE)
      have b1 := Hd.mk (b1.out.below hE)
      have hO := Hd.mk (R_below hO.out hE)
      clear hW hE
      have z7 := Hd.mk hz_; clear hz_
      refine mixT_q rfl ?_
      go_big_quiet_want; go_big_quiet_op; go_big_quiet_on; refine wpQuiet_nil ?_
      refine mixT_fin ?_
      clear hS
      clear rfb0_0 rfb1_0 rfb1_1 rfb1_2
      clear fb0_0 fb0_z fb1_0 fb1_1 fb1_2 fb1_z
      have fb0_0 : W7.cell? ⟨w.heap.size, 0, none⟩ = some (Value.slice A l.length c) := b0.out.cell 0 rfl
      have fb0_z := b0.out.frozen
      have fb1_0 : W7.cell? ⟨w.heap.size + 1, 0, none⟩ = some (Value.slice none 0 0) := b1.out.cell 0 rfl
      have fb1_1 : W7.cell? ⟨w.heap.size + 1, 1, none⟩ = some (Value.int IntKind.i64 0) := b1.out.cell 1 rfl
      have fb1_2 : W7.cell? ⟨w.heap.size + 1, 2, none⟩ = some (Value.slice none 0 0) := b1.out.cell 2 rfl
      have fb1_z := b1.out.frozen
      refine tail_b rfl ?_ (by rfl)
      go_wp2_with fail
      refine mixQ_n ?_
      refine tail_b rfl ?_ (by rfl)
      go_wp2_with fail
      refine mixQ_n ?_
      refine tail_nil ?_
      go_wp2_with fail
      refine bodyPost_retW (v := .tuple #[.agg #[Value.slice D1 l.length d1, Value.int IntKind.i64 0, Value.slice (some ⟨w6.heap.size, 0, none⟩) l.length l.length], .bool true]) (by simp [results, Try.results69, go_sem, fb0_0, fb0_z, fb1_0, fb1_1, fb1_2, fb1_z]) rfl ?_
      intro W hW
      clear fb0_0 fb0_z fb1_0 fb1_1 fb1_2 fb1_z
      have hz_ : W7.heap.size ≤ W.heap.size := by rw [hW]; simp
      have eF : Fr W7 W (fun k => k = w.heap.size + 1 ∨ W7.heap.size ≤ k) := by rw [hW]; (repeat (first | with_reducible refine Fr.setCell ?_ _ (fun _ => by simp <;> omega) _ | with_reducible refine Fr.alloc ?_ _ | with_reducible refine Fr.drew ?_)); exact Fr.refl _ _
      have z1_ := z1.out; have z2_ := z2.out; have z3_ := z3.out; have z4_ := z4.out; have z5_ := z5.out; have z6_ := z6.out; have z7_ := z7.out
      have hB := Hd.mk (((Fr.of_below hB.out (fun k => k = w.heap.size + 1 ∨ W7.heap.size ≤ k)).then_ eF (fun k hk _ => hk)).below (fun k hk => by have := hB.out.size; omega))
      have b0 := Hd.mk (b0.out.fr eF (fun h => by have hlt_ := b0.out.lt; (try simp only at h); omega))
      have b1 := Hd.mk (show Blk W (w.heap.size + 1) #[Value.slice D1 l.length d1, Value.int IntKind.i64 0, Value.slice (some ⟨w6.heap.size, 0, none⟩) l.length l.length] 81 by rw [hW]; exact (Blk.all b1.out [Value.slice D1 l.length d1, Value.int IntKind.i64 0, Value.slice (some ⟨w6.heap.size, 0, none⟩) l.length l.length] rfl))
      have hO := Hd.mk (R_fr hO.out eF (fun k hk hl h => by skip; (try simp only [rng] at hk); (try simp only at h); omega))
      have hT := Hd.mk (R_fr hT.out eF (fun k hk hl h => by skip; (try simp only [rng] at hk); (try simp only at h); omega))
      clear hW eF
      have z8 := Hd.mk hz_; clear hz_
      have hBs := hB.out.size
      have z1_ := z1.out; have z2_ := z2.out; have z3_ := z3.out; have z4_ := z4.out; have z5_ := z5.out; have z6_ := z6.out; have z7_ := z7.out
      exact ⟨[Value.slice D1 l.length d1, Value.int IntKind.i64 0, Value.slice (some ⟨w6.heap.size, 0, none⟩) l.length l.length], by rw [hb], by rw [HE.out]; exact tStore_O.2 ⟨_, _, _, _, rfl, hO.out, hT.out, fun k hk => by have := hk.1; omega, fun k hk => by have := hk.1; omega, fun k h1 h2 => by have := h1.1; have := h1.2; have := h2.1; have := h2.2; omega⟩, hB.out⟩
    · refine stepM_of rfl ?_ (by rfl)
      have hmk := hMK.out
      go_wp2_with fail
      clear hmk
      refine ⟨cls_below (below_alloc hS.out _), ?_⟩
      refine genT ?_; intro W5 hW
      have hT := Hd.mk (R_tabs l.length hm hW)
      have hz_ : W4.heap.size + 1 ≤ W5.heap.size := by rw [hW]; simp
      have hE : Below W4.heap.size W4 W5 := by rw [hW]; (repeat (first | with_reducible refine below_alloc ?_ _ | with_reducible refine below_drew ?_)); exact Below.refl _ _
      have hB := Hd.mk (below_then hB.out hE)
      replace hS := Hd.mk (below_then hS.out hE)
      have b0 := Hd.mk (b0.out.below hE)
      have b1 := Hd.mk (b1.out.below hE)
      clear hW hE
      have z5 := Hd.mk hz_; clear hz_
      refine mixT_b rfl ?_ (by rfl)
      go_wp2_with fail
      apply calls_gen; intro W6 hW
      have hz_ : W5.heap.size ≤ W6.heap.size := by rw [hW]; simp
      have hE : Below W5.heap.size W5 W6 := by rw [hW]; (repeat (first | with_reducible refine below_alloc ?_ _ | with_reducible refine below_drew ?_)); exact Below.refl _ _
      have hB := Hd.mk (below_then hB.out hE)
      replace hS := Hd.mk (below_then hS.out hE)
      have b0 := Hd.mk (b0.out.below hE)
      have b1 := Hd.mk (b1.out.below hE)
      have hT := Hd.mk (R_below hT.out hE)
      clear hW hE
      have z6 := Hd.mk hz_; clear hz_
      refine (spec_l7Schema _ _ l _ (C_below HC.out hB.out) hl).mono ?_
      rintro e w7 ⟨v1, rfl, hO, hX⟩
      have b0 := Hd.mk (b0.out.below hX)
      have b1 := Hd.mk (b1.out.below hX)
      have hT := Hd.mk (R_below hT.out hX)
      have hB := Hd.mk (below_then hB.out hX)
      replace hS := Hd.mk (below_then hS.out hX)
      have hz_ := hX.size
      clear hX
      have z7 := Hd.mk hz_; clear hz_
      obtain ⟨D1, d1, rfl, _, _⟩ := R_C hO
      replace hO := Hd.mk (show int.R 3 w7 (rng W6.heap.size w7.heap.size) _ l from R_bound hO)
      go_wp2_with fail
      refine ⟨cls_below hS.out, ?_⟩
      refine mixT_q rfl ?_
      go_big_quiet_want; go_big_quiet_op; go_big_quiet_on; refine wpQuiet_nil ?_
      refine mixT_fin ?_
      clear hS
      clear rfb0_0 rfb1_0 rfb1_1 rfb1_2
      clear fb0_0 fb0_z fb1_0 fb1_1 fb1_2 fb1_z
      have fb0_0 : w7.cell? ⟨w.heap.size, 0, none⟩ = some (Value.slice A l.length c) := b0.out.cell 0 rfl
      have fb0_z := b0.out.frozen
      have fb1_0 : w7.cell? ⟨w.heap.size + 1, 0, none⟩ = some (Value.slice none 0 0) := b1.out.cell 0 rfl
      have fb1_1 : w7.cell? ⟨w.heap.size + 1, 1, none⟩ = some (Value.int IntKind.i64 0) := b1.out.cell 1 rfl
      have fb1_2 : w7.cell? ⟨w.heap.size + 1, 2, none⟩ = some (Value.slice none 0 0) := b1.out.cell 2 rfl
      have fb1_z := b1.out.frozen
      refine tail_b rfl ?_ (by rfl)
      go_wp2_with fail
      refine mixQ_n ?_
      refine tail_b rfl ?_ (by rfl)
      go_wp2_with fail
      refine mixQ_n ?_
      refine tail_nil ?_
      go_wp2_with fail
      refine bodyPost_retW (v := .tuple #[.agg #[Value.slice D1 l.length d1, Value.int IntKind.i64 0, Value.slice (some ⟨W4.heap.size, 0, none⟩) l.length l.length], .bool true]) (by simp [results, Try.results69, go_sem, fb0_0, fb0_z, fb1_0, fb1_1, fb1_2, fb1_z]) rfl ?_
      intro W hW
      clear fb0_0 fb0_z fb1_0 fb1_1 fb1_2 fb1_z
      have hz_ : w7.heap.size ≤ W.heap.size := by rw [hW]; simp
      have eF : Fr w7 W (fun k => k = w.heap.size + 1 ∨ w7.heap.size ≤ k) := by rw [hW]; (repeat (first | with_reducible refine Fr.setCell ?_ _ (fun _ => by simp <;> omega) _ | with_reducible refine Fr.alloc ?_ _ | with_reducible refine Fr.drew ?_)); exact Fr.refl _ _
      have z1_ := z1.out; have z2_ := z2.out; have z3_ := z3.out; have z4_ := z4.out; have z5_ := z5.out; have z6_ := z6.out; have z7_ := z7.out
      have hB := Hd.mk (((Fr.of_below hB.out (fun k => k = w.heap.size + 1 ∨ w7.heap.size ≤ k)).then_ eF (fun k hk _ => hk)).below (fun k hk => by have := hB.out.size; omega))
      have b0 := Hd.mk (b0.out.fr eF (fun h => by have hlt_ := b0.out.lt; (try simp only at h); omega))
      have b1 := Hd.mk (show Blk W (w.heap.size + 1) #[Value.slice D1 l.length d1, Value.int IntKind.i64 0, Value.slice (some ⟨W4.heap.size, 0, none⟩) l.length l.length] 81 by rw [hW]; exact (Blk.all b1.out [Value.slice D1 l.length d1, Value.int IntKind.i64 0, Value.slice (some ⟨W4.heap.size, 0, none⟩) l.length l.length] rfl))
      have hT := Hd.mk (R_fr hT.out eF (fun k hk hl h => by skip; (try simp only [rng] at hk); (try simp only at h); omega))
      have hO := Hd.mk (R_fr hO.out eF (fun k hk hl h => by skip; (try simp only [rng] at hk); (try simp only at h); omega))
      clear hW eF
      have z8 := Hd.mk hz_; clear hz_
      have hBs := hB.out.size
      have z1_ := z1.out; have z2_ := z2.out; have z3_ := z3.out; have z4_ := z4.out; have z5_ := z5.out; have z6_ := z6.out; have z7_ := z7.out
      exact ⟨[Value.slice D1 l.length d1, Value.int IntKind.i64 0, Value.slice (some ⟨W4.heap.size, 0, none⟩) l.length l.length], by rw [hb], by rw [HE.out]; exact tStore_O.2 ⟨_, _, _, _, rfl, hO.out, hT.out, fun k hk => by have := hk.1; omega, fun k hk => by have := hk.1; omega, fun k h1 h2 => by have := h1.1; have := h1.2; have := h2.1; have := h2.2; omega⟩, hB.out⟩
set_option maxHeartbeats 4000000 in
set_option maxRecDepth 100000 in
theorem impl_StoreNew (A : Option Addr) (c : Nat) (l : List Int) (w : World) (hr : int.C w A l) (hl : l.length ≤ 4194304) :
    Calls Try.prog 70 #[.agg #[.slice A l.length c]] w fun e w' => ∃ cs, e = .returned (.tuple #[.agg cs.toArray, .bool (schemaOk l)]) ∧ tStore.O w' (fun k => w.heap.size ≤ k) (storeNew l) cs ∧ Below w.heap.size w w' := by
  have hm := hr.1
  have HC := Hd.mk hr; clear hr
  have hB := Hd.mk (Below.refl w.heap.size w)
  have hmk := make_eq (P := Try.prog) 79 42 (.slice none 0 0) 1 24 Try.underlying79 info_RowSS_ l.length (by omega) (by omega)
  have hMK := Hd.mk hmk; clear hmk
  go_enter Try.func70, Try.ntmps70
  go_wp2_with fail
  apply wp_gen; intro W1 hW
  have hz_ : w.heap.size + 2 ≤ W1.heap.size := by rw [hW]; simp
  have hE : Below w.heap.size w W1 := by rw [hW]; (repeat (first | with_reducible refine below_alloc ?_ _ | with_reducible refine below_drew ?_)); exact Below.refl _ _
  have hB := Hd.mk (below_then hB.out hE)
  have b0 := Hd.mk (show Blk W1 (w.heap.size) #[Value.slice A l.length c] 28 by rw [hW]; first | exact ((Blk.new _ _ _).alloc _) | (simpa using ((Blk.new _ _ _).alloc _)))
  have b1 := Hd.mk (show Blk W1 (w.heap.size + 1) #[Value.slice none 0 0, Value.int IntKind.i64 0, Value.slice none 0 0] 81 by rw [hW]; first | exact (Blk.new1 _ _ _ _) | (simpa using (Blk.new1 _ _ _ _)))
  clear hW hE
  have z1 := Hd.mk hz_; clear hz_
  refine region_to (fun a w' => ∃ (p : Nat) (D : Option Addr) (d : Nat) (D2 : Option Addr) (u5 u6 u7 u8 u9 u10 u11 u12 u13 : Value), a = ⟨#[.agg #[.slice A l.length c], .pointer (some ⟨w.heap.size, 0, none⟩), .pointer (some ⟨w.heap.size + 1, 0, none⟩), .bool false, .pointer (some ⟨p, 0, none⟩), u5, u6, u7, u8, u9, u10, u11, u12, u13, undef, undef, undef, undef, undef], []⟩ ∧ Hd (Blk w' p #[.slice D l.length d, .int .i64 0, .slice D2 l.length l.length] 81) ∧ Hd (Blk w' (w.heap.size + 1) #[.slice none 0 0, .int .i64 0, .slice none 0 0] 81) ∧ Hd (w.heap.size + 2 ≤ p) ∧ Hd (tStore.O w' (fun k => w.heap.size + 2 ≤ k ∧ k ≠ p) ⟨l, 0, List.replicate l.length []⟩ [.slice D l.length d, .int .i64 0, .slice D2 l.length l.length]) ∧ Hd (Below w.heap.size w w')) ?_ ?_
  case refine_1 =>
    have fb0_0 : W1.cell? ⟨w.heap.size, 0, none⟩ = some (Value.slice A l.length c) := b0.out.cell 0 rfl
    have fb0_z := b0.out.frozen
    have fb1_0 : W1.cell? ⟨w.heap.size + 1, 0, none⟩ = some (Value.slice none 0 0) := b1.out.cell 0 rfl
    have fb1_1 : W1.cell? ⟨w.heap.size + 1, 1, none⟩ = some (Value.int IntKind.i64 0) := b1.out.cell 1 rfl
    have fb1_2 : W1.cell? ⟨w.heap.size + 1, 2, none⟩ = some (Value.slice none 0 0) := b1.out.cell 2 rfl
    have fb1_z := b1.out.frozen
    have rfb0_0 := cell_regrown fb0_0
    have rfb1_0 := cell_regrown fb1_0
    have rfb1_1 := cell_regrown fb1_1
    have rfb1_2 := cell_regrown fb1_2
    refine region_mixT (.q 0 (.q 1 (.q 4 (.q 5 (.q 6 (.br3 2 7 9 (.q 3 (.br 7 9 (.q 8 (.b 9 .fin)) (.b 7 (.q 8 .fin)))) (.br 2 9 (.q 3 (.q 8 (.b 9 .fin))) (.b 2 (.q 3 (.q 8 .fin)))) (.br 2 7 (.q 3 (.b 7 (.q 8 .fin))) (.b 2 (.q 3 (.q 8 .fin)))))))))) [10] (by kernel_rfl) (by kernel_rfl) (fun _ _ _ _ _ h => h) ?_
    refine genT ?_
    intro W2 hW
    have hS := Hd.mk (show Below W1.heap.size W1 W2 by rw [hW]; exact below_drew (Below.refl _ _))
    have hz_ : W1.heap.size ≤ W2.heap.size := by rw [hW]; simp
    have hE : Below W1.heap.size W1 W2 := by rw [hW]; (repeat (first | with_reducible refine below_alloc ?_ _ | with_reducible refine below_drew ?_)); exact Below.refl _ _
    have hB := Hd.mk (below_then hB.out hE)
    have b0 := Hd.mk (b0.out.below hE)
    have b1 := Hd.mk (b1.out.below hE)
    clear hW hE
    have z2 := Hd.mk hz_; clear hz_
    refine mixT_q rfl ?_
    go_big_quiet_want; go_big_quiet_op; go_big_quiet_on; refine wpQuiet_nil ?_
    refine mixT_q rfl ?_
    go_big_quiet_want; go_big_quiet_op; go_big_quiet_on; refine wpQuiet_nil ?_
    refine mixT_q rfl ?_
    go_big_quiet_want; go_big_quiet_op; go_big_quiet_on; refine wpQuiet_nil ?_
    refine mixT_q rfl ?_
    go_big_quiet_want; go_big_quiet_op; go_big_quiet_on; refine wpQuiet_nil ?_
    refine mixT_q rfl ?_
    go_big_quiet_want; go_big_quiet_op; go_big_quiet_on; refine wpQuiet_nil ?_
    refine ⟨?_, ?_, ?_⟩
    · refine stepM_of rfl ?_ (by rfl)
      go_wp2_with fail
      apply calls_gen; intro W3 hW
      have hz_ : W2.heap.size ≤ W3.heap.size := by rw [hW]; simp
      have hE : Below W2.heap.size W2 W3 := by rw [hW]; (repeat (first | with_reducible refine below_alloc ?_ _ | with_reducible refine below_drew ?_)); exact Below.refl _ _
      have hB := Hd.mk (below_then hB.out hE)
      replace hS := Hd.mk (below_then hS.out hE)
      have b0 := Hd.mk (b0.out.below hE)
      have b1 := Hd.mk (b1.out.below hE)
      clear hW hE
      have z3 := Hd.mk hz_; clear hz_
      refine (impl_copyInts _ _ l _ (C_below HC.out hB.out) hl).mono ?_
      rintro e w4 ⟨v1, rfl, hO, hX⟩
      have b0 := Hd.mk (b0.out.below hX)
      have b1 := Hd.mk (b1.out.below hX)
      have hB := Hd.mk (below_then hB.out hX)
      replace hS := Hd.mk (below_then hS.out hX)
      have hz_ := hX.size
      clear hX
      have z4 := Hd.mk hz_; clear hz_
      obtain ⟨D1, d1, rfl, _, _⟩ := R_C hO
      replace hO := Hd.mk (show int.R 3 w4 (rng W3.heap.size w4.heap.size) _ l from R_bound hO)
      go_wp2_with fail
      refine ⟨cls_below hS.out, ?_⟩
      refine mixT_q rfl ?_
      go_big_quiet_want; go_big_quiet_op; go_big_quiet_on; refine wpQuiet_nil ?_
      refine ⟨?_, ?_⟩
      · refine stepM_of rfl ?_ (by rfl)
        have hmk := hMK.out
        go_wp2_with fail
        clear hmk
        refine ⟨cls_below (below_alloc hS.out _), ?_⟩
        refine genT ?_; intro W5 hW
        have hT := Hd.mk (R_tabs l.length hm hW)
        have hz_ : w4.heap.size + 1 ≤ W5.heap.size := by rw [hW]; simp
        have hE : Below w4.heap.size w4 W5 := by rw [hW]; (repeat (first | with_reducible refine below_alloc ?_ _ | with_reducible refine below_drew ?_)); exact Below.refl _ _
        have hB := Hd.mk (below_then hB.out hE)
        replace hS := Hd.mk (below_then hS.out hE)
        have b0 := Hd.mk (b0.out.below hE)
        have b1 := Hd.mk (b1.out.below hE)
        have hO := Hd.mk (R_below hO.out hE)
        clear hW hE
        have z5 := Hd.mk hz_; clear hz_
        refine mixT_q rfl ?_
        go_big_quiet_want; go_big_quiet_op; go_big_quiet_on; refine wpQuiet_nil ?_
        refine mixT_b rfl ?_ (by rfl)
        go_wp2_with fail
        refine ⟨cls_below (below_alloc hS.out _), ?_⟩
        refine genT ?_; intro W6 hW
        have hz_ : W5.heap.size + 1 ≤ W6.heap.size := by rw [hW]; simp
        have hE : Below W5.heap.size W5 W6 := by rw [hW]; (repeat (first | with_reducible refine below_alloc ?_ _ | with_reducible refine below_drew ?_)); exact Below.refl _ _
        have hB := Hd.mk (below_then hB.out hE)
        replace hS := Hd.mk (below_then hS.out hE)
        have b0 := Hd.mk (b0.out.below hE)
        have b1 := Hd.mk (b1.out.below hE)
        have b2 := Hd.mk (show Blk W6 (W5.heap.size) #[Value.slice none 0 0, Value.int IntKind.i64 0, Value.slice none 0 0] 81 by rw [hW]; first | exact (Blk.new _ _ _) | (simpa using (Blk.new _ _ _)))
        have hO := Hd.mk (R_below hO.out hE)
        have hT := Hd.mk (R_below hT.out hE)
        clear hW hE
        have z6 := Hd.mk hz_; clear hz_
        refine mixT_fin ?_
        clear hS
        clear rfb0_0 rfb1_0 rfb1_1 rfb1_2
        clear fb0_0 fb0_z fb1_0 fb1_1 fb1_2 fb1_z
        have fb0_0 : W6.cell? ⟨w.heap.size, 0, none⟩ = some (Value.slice A l.length c) := b0.out.cell 0 rfl
        have fb0_z := b0.out.frozen
        have fb1_0 : W6.cell? ⟨w.heap.size + 1, 0, none⟩ = some (Value.slice none 0 0) := b1.out.cell 0 rfl
        have fb1_1 : W6.cell? ⟨w.heap.size + 1, 1, none⟩ = some (Value.int IntKind.i64 0) := b1.out.cell 1 rfl
        have fb1_2 : W6.cell? ⟨w.heap.size + 1, 2, none⟩ = some (Value.slice none 0 0) := b1.out.cell 2 rfl
        have fb1_z := b1.out.frozen
        have fb2_0 : W6.cell? ⟨W5.heap.size, 0, none⟩ = some (Value.slice none 0 0) := b2.out.cell 0 rfl
        have fb2_1 : W6.cell? ⟨W5.heap.size, 1, none⟩ = some (Value.int IntKind.i64 0) := b2.out.cell 1 rfl
        have fb2_2 : W6.cell? ⟨W5.heap.size, 2, none⟩ = some (Value.slice none 0 0) := b2.out.cell 2 rfl
        have fb2_z := b2.out.frozen
        refine tail_b rfl ?_ (by rfl)
        go_wp2_with fail
        refine mixQ_n ?_
        refine tail_nil ?_
        refine region_gen ?_; intro W hW
        clear fb0_0 fb0_z fb1_0 fb1_1 fb1_2 fb1_z fb2_0 fb2_1 fb2_2 fb2_z
        have hz_ : W6.heap.size ≤ W.heap.size := by rw [hW]; simp
        have eF : Fr W6 W (fun k => k = W5.heap.size ∨ W6.heap.size ≤ k) := by rw [hW]; (repeat (first | with_reducible refine Fr.setCell ?_ _ (fun _ => by simp <;> omega) _ | with_reducible refine Fr.alloc ?_ _ | with_reducible refine Fr.drew ?_)); exact Fr.refl _ _
        have z1_ := z1.out; have z2_ := z2.out; have z3_ := z3.out; have z4_ := z4.out; have z5_ := z5.out; have z6_ := z6.out
        have hB := Hd.mk (((Fr.of_below hB.out (fun k => k = W5.heap.size ∨ W6.heap.size ≤ k)).then_ eF (fun k hk _ => hk)).below (fun k hk => by have := hB.out.size; omega))
        have b0 := Hd.mk (b0.out.fr eF (fun h => by have hlt_ := b0.out.lt; (try simp only at h); omega))
        have b1 := Hd.mk (b1.out.fr eF (fun h => by have hlt_ := b1.out.lt; (try simp only at h); omega))
        have b2 := Hd.mk (show Blk W (W5.heap.size) #[Value.slice D1 l.length d1, Value.int IntKind.i64 0, Value.slice (some ⟨w4.heap.size, 0, none⟩) l.length l.length] 81 by rw [hW]; exact (Blk.all b2.out [Value.slice D1 l.length d1, Value.int IntKind.i64 0, Value.slice (some ⟨w4.heap.size, 0, none⟩) l.length l.length] rfl))
        have hO := Hd.mk (R_fr hO.out eF (fun k hk hl h => by skip; (try simp only [rng] at hk); (try simp only at h); omega))
        have hT := Hd.mk (R_fr hT.out eF (fun k hk hl h => by skip; (try simp only [rng] at hk); (try simp only at h); omega))
        clear hW eF
        have z7 := Hd.mk hz_; clear hz_
        have hBs := hB.out.size
        have z1_ := z1.out; have z2_ := z2.out; have z3_ := z3.out; have z4_ := z4.out; have z5_ := z5.out; have z6_ := z6.out; have z7_ := z7.out
        exact ⟨W5.heap.size, D1, d1, _, _, _, _, _, _, _, _, _, _, rfl, b2, b1, ⟨by omega⟩, ⟨tStore_O.2 ⟨_, _, _, _, rfl, hO.out, hT.out, fun k hk => by have := hk.1; have := hk.2; constructor <;> omega, fun k hk => by have := hk.1; have := hk.2; constructor <;> omega, fun k h1 h2 => by have := h1.1; have := h1.2; have := h2.1; have := h2.2; omega⟩⟩, hB⟩
      · refine stepM_of rfl ?_ (by rfl)
        go_wp2_with fail
        refine ⟨cls_below (below_alloc hS.out _), ?_⟩
        refine genT ?_; intro W5 hW
        have hz_ : w4.heap.size + 1 ≤ W5.heap.size := by rw [hW]; simp
        have hE : Below w4.heap.size w4 W5 := by rw [hW]; (repeat (first | with_reducible refine below_alloc ?_ _ | with_reducible refine below_drew ?_)); exact Below.refl _ _
        have hB := Hd.mk (below_then hB.out hE)
        replace hS := Hd.mk (below_then hS.out hE)
        have b0 := Hd.mk (b0.out.below hE)
        have b1 := Hd.mk (b1.out.below hE)
        have b2 := Hd.mk (show Blk W5 (w4.heap.size) #[Value.slice none 0 0, Value.int IntKind.i64 0, Value.slice none 0 0] 81 by rw [hW]; first | exact (Blk.new _ _ _) | (simpa using (Blk.new _ _ _)))
        have hO := Hd.mk (R_below hO.out hE)
        clear hW hE
        have z5 := Hd.mk hz_; clear hz_
        refine mixT_b rfl ?_ (by rfl)
        have hmk := hMK.out
        go_wp2_with fail
        clear hmk
        refine ⟨cls_below (below_alloc hS.out _), ?_⟩
        refine genT ?_; intro W6 hW
        have hT := Hd.mk (R_tabs l.length hm hW)
        have hz_ : W5.heap.size + 1 ≤ W6.heap.size := by rw [hW]; simp
        have hE : Below W5.heap.size W5 W6 := by rw [hW]; (repeat (first | with_reducible refine below_alloc ?_ _ | with_reducible refine below_drew ?_)); exact Below.refl _ _
        have hB := Hd.mk (below_then hB.out hE)
        replace hS := Hd.mk (below_then hS.out hE)
        have b0 := Hd.mk (b0.out.below hE)
        have b1 := Hd.mk (b1.out.below hE)
        have b2 := Hd.mk (b2.out.below hE)
        have hO := Hd.mk (R_below hO.out hE)
        clear hW hE
        have z6 := Hd.mk hz_; clear hz_
        refine mixT_q rfl ?_
        go_big_quiet_want; go_big_quiet_op; go_big_quiet_on; refine wpQuiet_nil ?_
        refine mixT_fin ?_
        clear hS
        clear rfb0_0 rfb1_0 rfb1_1 rfb1_2
        clear fb0_0 fb0_z fb1_0 fb1_1 fb1_2 fb1_z
        have fb0_0 : W6.cell? ⟨w.heap.size, 0, none⟩ = some (Value.slice A l.length c) := b0.out.cell 0 rfl
        have fb0_z := b0.out.frozen
        have fb1_0 : W6.cell? ⟨w.heap.size + 1, 0, none⟩ = some (Value.slice none 0 0) := b1.out.cell 0 rfl
        have fb1_1 : W6.cell? ⟨w.heap.size + 1, 1, none⟩ = some (Value.int IntKind.i64 0) := b1.out.cell 1 rfl
        have fb1_2 : W6.cell? ⟨w.heap.size + 1, 2, none⟩ = some (Value.slice none 0 0) := b1.out.cell 2 rfl
        have fb1_z := b1.out.frozen
        have fb2_0 : W6.cell? ⟨w4.heap.size, 0, none⟩ = some (Value.slice none 0 0) := b2.out.cell 0 rfl
        have fb2_1 : W6.cell? ⟨w4.heap.size, 1, none⟩ = some (Value.int IntKind.i64 0) := b2.out.cell 1 rfl
        have fb2_2 : W6.cell? ⟨w4.heap.size, 2, none⟩ = some (Value.slice none 0 0) := b2.out.cell 2 rfl
        have fb2_z := b2.out.frozen
        refine tail_b rfl ?_ (by rfl)
        go_wp2_with fail
        refine mixQ_n ?_
        refine tail_nil ?_
        refine region_gen ?_; intro W hW
        clear fb0_0 fb0_z fb1_0 fb1_1 fb1_2 fb1_z fb2_0 fb2_1 fb2_2 fb2_z
        have hz_ : W6.heap.size ≤ W.heap.size := by rw [hW]; simp
        have eF : Fr W6 W (fun k => k = w4.heap.size ∨ W6.heap.size ≤ k) := by rw [hW]; (repeat (first | with_reducible refine Fr.setCell ?_ _ (fun _ => by simp <;> omega) _ | with_reducible refine Fr.alloc ?_ _ | with_reducible refine Fr.drew ?_)); exact Fr.refl _ _
        have z1_ := z1.out; have z2_ := z2.out; have z3_ := z3.out; have z4_ := z4.out; have z5_ := z5.out; have z6_ := z6.out
        have hB := Hd.mk (((Fr.of_below hB.out (fun k => k = w4.heap.size ∨ W6.heap.size ≤ k)).then_ eF (fun k hk _ => hk)).below (fun k hk => by have := hB.out.size; omega))
        have b0 := Hd.mk (b0.out.fr eF (fun h => by have hlt_ := b0.out.lt; (try simp only at h); omega))
        have b1 := Hd.mk (b1.out.fr eF (fun h => by have hlt_ := b1.out.lt; (try simp only at h); omega))
        have b2 := Hd.mk (show Blk W (w4.heap.size) #[Value.slice D1 l.length d1, Value.int IntKind.i64 0, Value.slice (some ⟨W5.heap.size, 0, none⟩) l.length l.length] 81 by rw [hW]; exact (Blk.all b2.out [Value.slice D1 l.length d1, Value.int IntKind.i64 0, Value.slice (some ⟨W5.heap.size, 0, none⟩) l.length l.length] rfl))
        have hO := Hd.mk (R_fr hO.out eF (fun k hk hl h => by skip; (try simp only [rng] at hk); (try simp only at h); omega))
        have hT := Hd.mk (R_fr hT.out eF (fun k hk hl h => by skip; (try simp only [rng] at hk); (try simp only at h); omega))
        clear hW eF
        have z7 := Hd.mk hz_; clear hz_
        have hBs := hB.out.size
        have z1_ := z1.out; have z2_ := z2.out; have z3_ := z3.out; have z4_ := z4.out; have z5_ := z5.out; have z6_ := z6.out; have z7_ := z7.out
        exact ⟨w4.heap.size, D1, d1, _, _, _, _, _, _, _, _, _, _, rfl, b2, b1, ⟨by omega⟩, ⟨tStore_O.2 ⟨_, _, _, _, rfl, hO.out, hT.out, fun k hk => by have := hk.1; have := hk.2; constructor <;> omega, fun k hk => by have := hk.1; have := hk.2; constructor <;> omega, fun k h1 h2 => by have := h1.1; have := h1.2; have := h2.1; have := h2.2; omega⟩⟩, hB⟩
    · refine stepM_of rfl ?_ (by rfl)
      have hmk := hMK.out
      go_wp2_with fail
      clear hmk
      refine ⟨cls_below (below_alloc hS.out _), ?_⟩
      refine genT ?_; intro W3 hW
      have hT := Hd.mk (R_tabs l.length hm hW)
      have hz_ : W2.heap.size + 1 ≤ W3.heap.size := by rw [hW]; simp
      have hE : Below W2.heap.size W2 W3 := by rw [hW]; (repeat (first | with_reducible refine below_alloc ?_ _ | with_reducible refine below_drew ?_)); exact Below.refl _ _
      have hB := Hd.mk (below_then hB.out hE)
      replace hS := Hd.mk (below_then hS.out hE)
      have b0 := Hd.mk (b0.out.below hE)
      have b1 := Hd.mk (b1.out.below hE)
      clear hW hE
      have z3 := Hd.mk hz_; clear hz_
      refine ⟨?_, ?_⟩
      · refine stepM_of rfl ?_ (by rfl)
        go_wp2_with fail
        apply calls_gen; intro W4 hW
        have hz_ : W3.heap.size ≤ W4.heap.size := by rw [hW]; simp
        have hE : Below W3.heap.size W3 W4 := by rw [hW]; (repeat (first | with_reducible refine below_alloc ?_ _ | with_reducible refine below_drew ?_)); exact Below.refl _ _
        have hB := Hd.mk (below_then hB.out hE)
        replace hS := Hd.mk (below_then hS.out hE)
        have b0 := Hd.mk (b0.out.below hE)
        have b1 := Hd.mk (b1.out.below hE)
        have hT := Hd.mk (R_below hT.out hE)
        clear hW hE
        have z4 := Hd.mk hz_; clear hz_
        refine (impl_copyInts _ _ l _ (C_below HC.out hB.out) hl).mono ?_
        rintro e w5 ⟨v1, rfl, hO, hX⟩
        have b0 := Hd.mk (b0.out.below hX)
        have b1 := Hd.mk (b1.out.below hX)
        have hT := Hd.mk (R_below hT.out hX)
        have hB := Hd.mk (below_then hB.out hX)
        replace hS := Hd.mk (below_then hS.out hX)
        have hz_ := hX.size
        clear hX
        have z5 := Hd.mk hz_; clear hz_
        obtain ⟨D1, d1, rfl, _, _⟩ := R_C hO
        replace hO := Hd.mk (show int.R 3 w5 (rng W4.heap.size w5.heap.size) _ l from R_bound hO)
        go_wp2_with fail
        refine ⟨cls_below hS.out, ?_⟩
        refine mixT_q rfl ?_
        go_big_quiet_want; go_big_quiet_op; go_big_quiet_on; refine wpQuiet_nil ?_
        refine mixT_q rfl ?_
        go_big_quiet_want; go_big_quiet_op; go_big_quiet_on; refine wpQuiet_nil ?_
        refine mixT_b rfl ?_ (by rfl)
        go_wp2_with fail
        refine ⟨cls_below (below_alloc hS.out _), ?_⟩
        refine genT ?_; intro W6 hW
        have hz_ : w5.heap.size + 1 ≤ W6.heap.size := by rw [hW]; simp
        have hE : Below w5.heap.size w5 W6 := by rw [hW]; (repeat (first | with_reducible refine below_alloc ?_ _ | with_reducible refine below_drew ?_)); exact Below.refl _ _
        have hB := Hd.mk (below_then hB.out hE)
        replace hS := Hd.mk (below_then hS.out hE)
        have b0 := Hd.mk (b0.out.below hE)
        have b1 := Hd.mk (b1.out.below hE)
        have b2 := Hd.mk (show Blk W6 (w5.heap.size) #[Value.slice none 0 0, Value.int IntKind.i64 0, Value.slice none 0 0] 81 by rw [hW]; first | exact (Blk.new _ _ _) | (simpa using (Blk.new _ _ _)))
        have hT := Hd.mk (R_below hT.out hE)
        have hO := Hd.mk (R_below hO.out hE)
        clear hW hE
        have z6 := Hd.mk hz_; clear hz_
        refine mixT_fin ?_
        clear hS
        clear rfb0_0 rfb1_0 rfb1_1 rfb1_2
        clear fb0_0 fb0_z fb1_0 fb1_1 fb1_2 fb1_z
        have fb0_0 : W6.cell? ⟨w.heap.size, 0, none⟩ = some (Value.slice A l.length c) := b0.out.cell 0 rfl
        have fb0_z := b0.out.frozen
        have fb1_0 : W6.cell? ⟨w.heap.size + 1, 0, none⟩ = some (Value.slice none 0 0) := b1.out.cell 0 rfl
        have fb1_1 : W6.cell? ⟨w.heap.size + 1, 1, none⟩ = some (Value.int IntKind.i64 0) := b1.out.cell 1 rfl
        have fb1_2 : W6.cell? ⟨w.heap.size + 1, 2, none⟩ = some (Value.slice none 0 0) := b1.out.cell 2 rfl
        have fb1_z := b1.out.frozen
        have fb2_0 : W6.cell? ⟨w5.heap.size, 0, none⟩ = some (Value.slice none 0 0) := b2.out.cell 0 rfl
        have fb2_1 : W6.cell? ⟨w5.heap.size, 1, none⟩ = some (Value.int IntKind.i64 0) := b2.out.cell 1 rfl
        have fb2_2 : W6.cell? ⟨w5.heap.size, 2, none⟩ = some (Value.slice none 0 0) := b2.out.cell 2 rfl
        have fb2_z := b2.out.frozen
        refine tail_b rfl ?_ (by rfl)
        go_wp2_with fail
        refine mixQ_n ?_
        refine tail_nil ?_
        refine region_gen ?_; intro W hW
        clear fb0_0 fb0_z fb1_0 fb1_1 fb1_2 fb1_z fb2_0 fb2_1 fb2_2 fb2_z
        have hz_ : W6.heap.size ≤ W.heap.size := by rw [hW]; simp
        have eF : Fr W6 W (fun k => k = w5.heap.size ∨ W6.heap.size ≤ k) := by rw [hW]; (repeat (first | with_reducible refine Fr.setCell ?_ _ (fun _ => by simp <;> omega) _ | with_reducible refine Fr.alloc ?_ _ | with_reducible refine Fr.drew ?_)); exact Fr.refl _ _
        have z1_ := z1.out; have z2_ := z2.out; have z3_ := z3.out; have z4_ := z4.out; have z5_ := z5.out; have z6_ := z6.out
        have hB := Hd.mk (((Fr.of_below hB.out (fun k => k = w5.heap.size ∨ W6.heap.size ≤ k)).then_ eF (fun k hk _ => hk)).below (fun k hk => by have := hB.out.size; omega))
        have b0 := Hd.mk (b0.out.fr eF (fun h => by have hlt_ := b0.out.lt; (try simp only at h); omega))
        have b1 := Hd.mk (b1.out.fr eF (fun h => by have hlt_ := b1.out.lt; (try simp only at h); omega))
        have b2 := Hd.mk (show Blk W (w5.heap.size) #[Value.slice D1 l.length d1, Value.int IntKind.i64 0, Value.slice (some ⟨W2.heap.size, 0, none⟩) l.length l.length] 81 by rw [hW]; exact (Blk.all b2.out [Value.slice D1 l.length d1, Value.int IntKind.i64 0, Value.slice (some ⟨W2.heap.size, 0, none⟩) l.length l.length] rfl))
        have hT := Hd.mk (R_fr hT.out eF (fun k hk hl h => by skip; (try simp only [rng] at hk); (try simp only at h); omega))
        have hO := Hd.mk (R_fr hO.out eF (fun k hk hl h => by skip; (try simp only [rng] at hk); (try simp only at h); omega))
        clear hW eF
        have z7 := Hd.mk hz_; clear hz_
        have hBs := hB.out.size
        have z1_ := z1.out; have z2_ := z2.out; have z3_ := z3.out; have z4_ := z4.out; have z5_ := z5.out; have z6_ := z6.out; have z7_ := z7.out
        exact ⟨w5.heap.size, D1, d1, _, _, _, _, _, _, _, _, _, _, rfl, b2, b1, ⟨by omega⟩, ⟨tStore_O.2 ⟨_, _, _, _, rfl, hO.out, hT.out, fun k hk => by have := hk.1; have := hk.2; constructor <;> omega, fun k hk => by have := hk.1; have := hk.2; constructor <;> omega, fun k h1 h2 => by have := h1.1; have := h1.2; have := h2.1; have := h2.2; omega⟩⟩, hB⟩
      · refine stepM_of rfl ?_ (by rfl)
        go_wp2_with fail
        refine ⟨cls_below (below_alloc hS.out _), ?_⟩
        refine genT ?_; intro W4 hW
        have hz_ : W3.heap.size + 1 ≤ W4.heap.size := by rw [hW]; simp
        have hE : Below W3.heap.size W3 W4 := by rw [hW]; (repeat (first | with_reducible refine below_alloc ?_ _ | with_reducible refine below_drew ?_)); exact Below.refl _ _
        have hB := Hd.mk (below_then hB.out hE)
        replace hS := Hd.mk (below_then hS.out hE)
        have b0 := Hd.mk (b0.out.below hE)
        have b1 := Hd.mk (b1.out.below hE)
        have b2 := Hd.mk (show Blk W4 (W3.heap.size) #[Value.slice none 0 0, Value.int IntKind.i64 0, Value.slice none 0 0] 81 by rw [hW]; first | exact (Blk.new _ _ _) | (simpa using (Blk.new _ _ _)))
        have hT := Hd.mk (R_below hT.out hE)
        clear hW hE
        have z4 := Hd.mk hz_; clear hz_
        refine mixT_b rfl ?_ (by rfl)
        go_wp2_with fail
        apply calls_gen; intro W5 hW
        have hz_ : W4.heap.size ≤ W5.heap.size := by rw [hW]; simp
        have hE : Below W4.heap.size W4 W5 := by rw [hW]; (repeat (first | with_reducible refine below_alloc ?_ _ | with_reducible refine below_drew ?_)); exact Below.refl _ _
        have hB := Hd.mk (below_then hB.out hE)
        replace hS := Hd.mk (below_then hS.out hE)
        have b0 := Hd.mk (b0.out.below hE)
        have b1 := Hd.mk (b1.out.below hE)
        have b2 := Hd.mk (b2.out.below hE)
        have hT := Hd.mk (R_below hT.out hE)
        clear hW hE
        have z5 := Hd.mk hz_; clear hz_
        refine (impl_copyInts _ _ l _ (C_below HC.out hB.out) hl).mono ?_
        rintro e w6 ⟨v1, rfl, hO, hX⟩
        have b0 := Hd.mk (b0.out.below hX)
        have b1 := Hd.mk (b1.out.below hX)
        have b2 := Hd.mk (b2.out.below hX)
        have hT := Hd.mk (R_below hT.out hX)
        have hB := Hd.mk (below_then hB.out hX)
        replace hS := Hd.mk (below_then hS.out hX)
        have hz_ := hX.size
        clear hX
        have z6 := Hd.mk hz_; clear hz_
        obtain ⟨D1, d1, rfl, _, _⟩ := R_C hO
        replace hO := Hd.mk (show int.R 3 w6 (rng W5.heap.size w6.heap.size) _ l from R_bound hO)
        go_wp2_with fail
        refine ⟨cls_below hS.out, ?_⟩
        refine mixT_q rfl ?_
        go_big_quiet_want; go_big_quiet_op; go_big_quiet_on; refine wpQuiet_nil ?_
        refine mixT_q rfl ?_
        go_big_quiet_want; go_big_quiet_op; go_big_quiet_on; refine wpQuiet_nil ?_
        refine mixT_fin ?_
        clear hS
        clear rfb0_0 rfb1_0 rfb1_1 rfb1_2
        clear fb0_0 fb0_z fb1_0 fb1_1 fb1_2 fb1_z
        have fb0_0 : w6.cell? ⟨w.heap.size, 0, none⟩ = some (Value.slice A l.length c) := b0.out.cell 0 rfl
        have fb0_z := b0.out.frozen
        have fb1_0 : w6.cell? ⟨w.heap.size + 1, 0, none⟩ = some (Value.slice none 0 0) := b1.out.cell 0 rfl
        have fb1_1 : w6.cell? ⟨w.heap.size + 1, 1, none⟩ = some (Value.int IntKind.i64 0) := b1.out.cell 1 rfl
        have fb1_2 : w6.cell? ⟨w.heap.size + 1, 2, none⟩ = some (Value.slice none 0 0) := b1.out.cell 2 rfl
        have fb1_z := b1.out.frozen
        have fb2_0 : w6.cell? ⟨W3.heap.size, 0, none⟩ = some (Value.slice none 0 0) := b2.out.cell 0 rfl
        have fb2_1 : w6.cell? ⟨W3.heap.size, 1, none⟩ = some (Value.int IntKind.i64 0) := b2.out.cell 1 rfl
        have fb2_2 : w6.cell? ⟨W3.heap.size, 2, none⟩ = some (Value.slice none 0 0) := b2.out.cell 2 rfl
        have fb2_z := b2.out.frozen
        refine tail_b rfl ?_ (by rfl)
        go_wp2_with fail
        refine mixQ_n ?_
        refine tail_nil ?_
        refine region_gen ?_; intro W hW
        clear fb0_0 fb0_z fb1_0 fb1_1 fb1_2 fb1_z fb2_0 fb2_1 fb2_2 fb2_z
        have hz_ : w6.heap.size ≤ W.heap.size := by rw [hW]; simp
        have eF : Fr w6 W (fun k => k = W3.heap.size ∨ w6.heap.size ≤ k) := by rw [hW]; (repeat (first | with_reducible refine Fr.setCell ?_ _ (fun _ => by simp <;> omega) _ | with_reducible refine Fr.alloc ?_ _ | with_reducible refine Fr.drew ?_)); exact Fr.refl _ _
        have z1_ := z1.out; have z2_ := z2.out; have z3_ := z3.out; have z4_ := z4.out; have z5_ := z5.out; have z6_ := z6.out
        have hB := Hd.mk (((Fr.of_below hB.out (fun k => k = W3.heap.size ∨ w6.heap.size ≤ k)).then_ eF (fun k hk _ => hk)).below (fun k hk => by have := hB.out.size; omega))
        have b0 := Hd.mk (b0.out.fr eF (fun h => by have hlt_ := b0.out.lt; (try simp only at h); omega))
        have b1 := Hd.mk (b1.out.fr eF (fun h => by have hlt_ := b1.out.lt; (try simp only at h); omega))
        have b2 := Hd.mk (show Blk W (W3.heap.size) #[Value.slice D1 l.length d1, Value.int IntKind.i64 0, Value.slice (some ⟨W2.heap.size, 0, none⟩) l.length l.length] 81 by rw [hW]; exact (Blk.all b2.out [Value.slice D1 l.length d1, Value.int IntKind.i64 0, Value.slice (some ⟨W2.heap.size, 0, none⟩) l.length l.length] rfl))
        have hT := Hd.mk (R_fr hT.out eF (fun k hk hl h => by skip; (try simp only [rng] at hk); (try simp only at h); omega))
        have hO := Hd.mk (R_fr hO.out eF (fun k hk hl h => by skip; (try simp only [rng] at hk); (try simp only at h); omega))
        clear hW eF
        have z7 := Hd.mk hz_; clear hz_
        have hBs := hB.out.size
        have z1_ := z1.out; have z2_ := z2.out; have z3_ := z3.out; have z4_ := z4.out; have z5_ := z5.out; have z6_ := z6.out; have z7_ := z7.out
        exact ⟨W3.heap.size, D1, d1, _, _, _, _, _, _, _, _, _, _, rfl, b2, b1, ⟨by omega⟩, ⟨tStore_O.2 ⟨_, _, _, _, rfl, hO.out, hT.out, fun k hk => by have := hk.1; have := hk.2; constructor <;> omega, fun k hk => by have := hk.1; have := hk.2; constructor <;> omega, fun k h1 h2 => by have := h1.1; have := h1.2; have := h2.1; have := h2.2; omega⟩⟩, hB⟩
    · refine stepM_of rfl ?_ (by rfl)
      go_wp2_with fail
      refine ⟨cls_below (below_alloc hS.out _), ?_⟩
      refine genT ?_; intro W3 hW
      have hz_ : W2.heap.size + 1 ≤ W3.heap.size := by rw [hW]; simp
      have hE : Below W2.heap.size W2 W3 := by rw [hW]; (repeat (first | with_reducible refine below_alloc ?_ _ | with_reducible refine below_drew ?_)); exact Below.refl _ _
      have hB := Hd.mk (below_then hB.out hE)
      replace hS := Hd.mk (below_then hS.out hE)
      have b0 := Hd.mk (b0.out.below hE)
      have b1 := Hd.mk (b1.out.below hE)
      have b2 := Hd.mk (show Blk W3 (W2.heap.size) #[Value.slice none 0 0, Value.int IntKind.i64 0, Value.slice none 0 0] 81 by rw [hW]; first | exact (Blk.new _ _ _) | (simpa using (Blk.new _ _ _)))
      clear hW hE
      have z3 := Hd.mk hz_; clear hz_
      refine ⟨?_, ?_⟩
      · refine stepM_of rfl ?_ (by rfl)
        go_wp2_with fail
        apply calls_gen; intro W4 hW
        have hz_ : W3.heap.size ≤ W4.heap.size := by rw [hW]; simp
        have hE : Below W3.heap.size W3 W4 := by rw [hW]; (repeat (first | with_reducible refine below_alloc ?_ _ | with_reducible refine below_drew ?_)); exact Below.refl _ _
        have hB := Hd.mk (below_then hB.out hE)
        replace hS := Hd.mk (below_then hS.out hE)
        have b0 := Hd.mk (b0.out.below hE)
        have b1 := Hd.mk (b1.out.below hE)
        have b2 := Hd.mk (b2.out.below hE)
        clear hW hE
        have z4 := Hd.mk hz_; clear hz_
        refine (impl_copyInts _ _ l _ (C_below HC.out hB.out) hl).mono ?_
        rintro e w5 ⟨v1, rfl, hO, hX⟩
        have b0 := Hd.mk (b0.out.below hX)
        have b1 := Hd.mk (b1.out.below hX)
        have b2 := Hd.mk (b2.out.below hX)
        have hB := Hd.mk (below_then hB.out hX)
        replace hS := Hd.mk (below_then hS.out hX)
        have hz_ := hX.size
        clear hX
        have z5 := Hd.mk hz_; clear hz_
        obtain ⟨D1, d1, rfl, _, _⟩ := R_C hO
        replace hO := Hd.mk (show int.R 3 w5 (rng W4.heap.size w5.heap.size) _ l from R_bound hO)
        go_wp2_with fail
        refine ⟨cls_below hS.out, ?_⟩
        refine mixT_q rfl ?_
        go_big_quiet_want; go_big_quiet_op; go_big_quiet_on; refine wpQuiet_nil ?_
        refine mixT_b rfl ?_ (by rfl)
        have hmk := hMK.out
        go_wp2_with fail
        clear hmk
        refine ⟨cls_below (below_alloc hS.out _), ?_⟩
        refine genT ?_; intro W6 hW
        have hT := Hd.mk (R_tabs l.length hm hW)
        have hz_ : w5.heap.size + 1 ≤ W6.heap.size := by rw [hW]; simp
        have hE : Below w5.heap.size w5 W6 := by rw [hW]; (repeat (first | with_reducible refine below_alloc ?_ _ | with_reducible refine below_drew ?_)); exact Below.refl _ _
        have hB := Hd.mk (below_then hB.out hE)
        replace hS := Hd.mk (below_then hS.out hE)
        have b0 := Hd.mk (b0.out.below hE)
        have b1 := Hd.mk (b1.out.below hE)
        have b2 := Hd.mk (b2.out.below hE)
        have hO := Hd.mk (R_below hO.out hE)
        clear hW hE
        have z6 := Hd.mk hz_; clear hz_
        refine mixT_q rfl ?_
        go_big_quiet_want; go_big_quiet_op; go_big_quiet_on; refine wpQuiet_nil ?_
        refine mixT_fin ?_
        clear hS
        clear rfb0_0 rfb1_0 rfb1_1 rfb1_2
        clear fb0_0 fb0_z fb1_0 fb1_1 fb1_2 fb1_z
        have fb0_0 : W6.cell? ⟨w.heap.size, 0, none⟩ = some (Value.slice A l.length c) := b0.out.cell 0 rfl
        have fb0_z := b0.out.frozen
        have fb1_0 : W6.cell? ⟨w.heap.size + 1, 0, none⟩ = some (Value.slice none 0 0) := b1.out.cell 0 rfl
        have fb1_1 : W6.cell? ⟨w.heap.size + 1, 1, none⟩ = some (Value.int IntKind.i64 0) := b1.out.cell 1 rfl
        have fb1_2 : W6.cell? ⟨w.heap.size + 1, 2, none⟩ = some (Value.slice none 0 0) := b1.out.cell 2 rfl
        have fb1_z := b1.out.frozen
        have fb2_0 : W6.cell? ⟨W2.heap.size, 0, none⟩ = some (Value.slice none 0 0) := b2.out.cell 0 rfl
        have fb2_1 : W6.cell? ⟨W2.heap.size, 1, none⟩ = some (Value.int IntKind.i64 0) := b2.out.cell 1 rfl
        have fb2_2 : W6.cell? ⟨W2.heap.size, 2, none⟩ = some (Value.slice none 0 0) := b2.out.cell 2 rfl
        have fb2_z := b2.out.frozen
        refine tail_b rfl ?_ (by rfl)
        go_wp2_with fail
        refine mixQ_n ?_
        refine tail_nil ?_
        refine region_gen ?_; intro W hW
        clear fb0_0 fb0_z fb1_0 fb1_1 fb1_2 fb1_z fb2_0 fb2_1 fb2_2 fb2_z
        have hz_ : W6.heap.size ≤ W.heap.size := by rw [hW]; simp
        have eF : Fr W6 W (fun k => k = W2.heap.size ∨ W6.heap.size ≤ k) := by rw [hW]; (repeat (first | with_reducible refine Fr.setCell ?_ _ (fun _ => by simp <;> omega) _ | with_reducible refine Fr.alloc ?_ _ | with_reducible refine Fr.drew ?_)); exact Fr.refl _ _
        have z1_ := z1.out; have z2_ := z2.out; have z3_ := z3.out; have z4_ := z4.out; have z5_ := z5.out; have z6_ := z6.out
        have hB := Hd.mk (((Fr.of_below hB.out (fun k => k = W2.heap.size ∨ W6.heap.size ≤ k)).then_ eF (fun k hk _ => hk)).below (fun k hk => by have := hB.out.size; omega))
        have b0 := Hd.mk (b0.out.fr eF (fun h => by have hlt_ := b0.out.lt; (try simp only at h); omega))
        have b1 := Hd.mk (b1.out.fr eF (fun h => by have hlt_ := b1.out.lt; (try simp only at h); omega))
        have b2 := Hd.mk (show Blk W (W2.heap.size) #[Value.slice D1 l.length d1, Value.int IntKind.i64 0, Value.slice (some ⟨w5.heap.size, 0, none⟩) l.length l.length] 81 by rw [hW]; exact (Blk.all b2.out [Value.slice D1 l.length d1, Value.int IntKind.i64 0, Value.slice (some ⟨w5.heap.size, 0, none⟩) l.length l.length] rfl))
        have hO := Hd.mk (R_fr hO.out eF (fun k hk hl h => by skip; (try simp only [rng] at hk); (try simp only at h); omega))
        have hT := Hd.mk (R_fr hT.out eF (fun k hk hl h => by skip; (try simp only [rng] at hk); (try simp only at h); omega))
        clear hW eF
        have z7 := Hd.mk hz_; clear hz_
        have hBs := hB.out.size
        have z1_ := z1.out; have z2_ := z2.out; have z3_ := z3.out; have z4_ := z4.out; have z5_ := z5.out; have z6_ := z6.out; have z7_ := z7.out
        exact ⟨W2.heap.size, D1, d1, _, _, _, _, _, _, _, _, _, _, rfl, b2, b1, ⟨by omega⟩, ⟨tStore_O.2 ⟨_, _, _, _, rfl, hO.out, hT.out, fun k hk => by have := hk.1; have := hk.2; constructor <;> omega, fun k hk => by have := hk.1; have := hk.2; constructor <;> omega, fun k h1 h2 => by have := h1.1; have := h1.2; have := h2.1; have := h2.2; omega⟩⟩, hB⟩
      · refine stepM_of rfl ?_ (by rfl)
        have hmk := hMK.out
        go_wp2_with fail
        clear hmk
        refine ⟨cls_below (below_alloc hS.out _), ?_⟩
        refine genT ?_; intro W4 hW
        have hT := Hd.mk (R_tabs l.length hm hW)
        have hz_ : W3.heap.size + 1 ≤ W4.heap.size := by rw [hW]; simp
        have hE : Below W3.heap.size W3 W4 := by rw [hW]; (repeat (first | with_reducible refine below_alloc ?_ _ | with_reducible refine below_drew ?_)); exact Below.refl _ _
        have hB := Hd.mk (below_then hB.out hE)
        replace hS := Hd.mk (below_then hS.out hE)
        have b0 := Hd.mk (b0.out.below hE)
        have b1 := Hd.mk (b1.out.below hE)
        have b2 := Hd.mk (b2.out.below hE)
        clear hW hE
        have z4 := Hd.mk hz_; clear hz_
        refine mixT_b rfl ?_ (by rfl)
        go_wp2_with fail
        apply calls_gen; intro W5 hW
        have hz_ : W4.heap.size ≤ W5.heap.size := by rw [hW]; simp
        have hE : Below W4.heap.size W4 W5 := by rw [hW]; (repeat (first | with_reducible refine below_alloc ?_ _ | with_reducible refine below_drew ?_)); exact Below.refl _ _
        have hB := Hd.mk (below_then hB.out hE)
        replace hS := Hd.mk (below_then hS.out hE)
        have b0 := Hd.mk (b0.out.below hE)
        have b1 := Hd.mk (b1.out.below hE)
        have b2 := Hd.mk (b2.out.below hE)
        have hT := Hd.mk (R_below hT.out hE)
        clear hW hE
        have z5 := Hd.mk hz_; clear hz_
        refine (impl_copyInts _ _ l _ (C_below HC.out hB.out) hl).mono ?_
        rintro e w6 ⟨v1, rfl, hO, hX⟩
        have b0 := Hd.mk (b0.out.below hX)
        have b1 := Hd.mk (b1.out.below hX)
        have b2 := Hd.mk (b2.out.below hX)
        have hT := Hd.mk (R_below hT.out hX)
        have hB := Hd.mk (below_then hB.out hX)
        replace hS := Hd.mk (below_then hS.out hX)
        have hz_ := hX.size
        clear hX
        have z6 := Hd.mk hz_; clear hz_
        obtain ⟨D1, d1, rfl, _, _⟩ := R_C hO
        replace hO := Hd.mk (show int.R 3 w6 (rng W5.heap.size w6.heap.size) _ l from R_bound hO)
        go_wp2_with fail
        refine ⟨cls_below hS.out, ?_⟩
        refine mixT_q rfl ?_
        go_big_quiet_want; go_big_quiet_op; go_big_quiet_on; refine wpQuiet_nil ?_
        refine mixT_q rfl ?_
        go_big_quiet_want; go_big_quiet_op; go_big_quiet_on; refine wpQuiet_nil ?_
        refine mixT_fin ?_
        clear hS
        clear rfb0_0 rfb1_0 rfb1_1 rfb1_2
        clear fb0_0 fb0_z fb1_0 fb1_1 fb1_2 fb1_z
        have fb0_0 : w6.cell? ⟨w.heap.size, 0, none⟩ = some (Value.slice A l.length c) := b0.out.cell 0 rfl
        have fb0_z := b0.out.frozen
        have fb1_0 : w6.cell? ⟨w.heap.size + 1, 0, none⟩ = some (Value.slice none 0 0) := b1.out.cell 0 rfl
        have fb1_1 : w6.cell? ⟨w.heap.size + 1, 1, none⟩ = some (Value.int IntKind.i64 0) := b1.out.cell 1 rfl
        have fb1_2 : w6.cell? ⟨w.heap.size + 1, 2, none⟩ = some (Value.slice none 0 0) := b1.out.cell 2 rfl
        have fb1_z := b1.out.frozen
        have fb2_0 : w6.cell? ⟨W2.heap.size, 0, none⟩ = some (Value.slice none 0 0) := b2.out.cell 0 rfl
        have fb2_1 : w6.cell? ⟨W2.heap.size, 1, none⟩ = some (Value.int IntKind.i64 0) := b2.out.cell 1 rfl
        have fb2_2 : w6.cell? ⟨W2.heap.size, 2, none⟩ = some (Value.slice none 0 0) := b2.out.cell 2 rfl
        have fb2_z := b2.out.frozen
        refine tail_b rfl ?_ (by rfl)
        go_wp2_with fail
        refine mixQ_n ?_
        refine tail_nil ?_
        refine region_gen ?_; intro W hW
        clear fb0_0 fb0_z fb1_0 fb1_1 fb1_2 fb1_z fb2_0 fb2_1 fb2_2 fb2_z
        have hz_ : w6.heap.size ≤ W.heap.size := by rw [hW]; simp
        have eF : Fr w6 W (fun k => k = W2.heap.size ∨ w6.heap.size ≤ k) := by rw [hW]; (repeat (first | with_reducible refine Fr.setCell ?_ _ (fun _ => by simp <;> omega) _ | with_reducible refine Fr.alloc ?_ _ | with_reducible refine Fr.drew ?_)); exact Fr.refl _ _
        have z1_ := z1.out; have z2_ := z2.out; have z3_ := z3.out; have z4_ := z4.out; have z5_ := z5.out; have z6_ := z6.out
        have hB := Hd.mk (((Fr.of_below hB.out (fun k => k = W2.heap.size ∨ w6.heap.size ≤ k)).then_ eF (fun k hk _ => hk)).below (fun k hk => by have := hB.out.size; omega))
        have b0 := Hd.mk (b0.out.fr eF (fun h => by have hlt_ := b0.out.lt; (try simp only at h); omega))
        have b1 := Hd.mk (b1.out.fr eF (fun h => by have hlt_ := b1.out.lt; (try simp only at h); omega))
        have b2 := Hd.mk (show Blk W (W2.heap.size) #[Value.slice D1 l.length d1, Value.int IntKind.i64 0, Value.slice (some ⟨W3.heap.size, 0, none⟩) l.length l.length] 81 by rw [hW]; exact (Blk.all b2.out [Value.slice D1 l.length d1, Value.int IntKind.i64 0, Value.slice (some ⟨W3.heap.size, 0, none⟩) l.length l.length] rfl))
        have hT := Hd.mk (R_fr hT.out eF (fun k hk hl h => by skip; (try simp only [rng] at hk); (try simp only at h); omega))
        have hO := Hd.mk (R_fr hO.out eF (fun k hk hl h => by skip; (try simp only [rng] at hk); (try simp only at h); omega))
        clear hW eF
        have z7 := Hd.mk hz_; clear hz_
        have hBs := hB.out.size
        have z1_ := z1.out; have z2_ := z2.out; have z3_ := z3.out; have z4_ := z4.out; have z5_ := z5.out; have z6_ := z6.out; have z7_ := z7.out
        exact ⟨W2.heap.size, D1, d1, _, _, _, _, _, _, _, _, _, _, rfl, b2, b1, ⟨by omega⟩, ⟨tStore_O.2 ⟨_, _, _, _, rfl, hO.out, hT.out, fun k hk => by have := hk.1; have := hk.2; constructor <;> omega, fun k hk => by have := hk.1; have := hk.2; constructor <;> omega, fun k h1 h2 => by have := h1.1; have := h1.2; have := h2.1; have := h2.2; omega⟩⟩, hB⟩
  case refine_2 =>
    rintro a w1 ⟨p, D, d, D2, u5, u6, u7, u8, u9, u10, u11, u12, u13, rfl, b2, b1, hp, hO, hB1⟩
    replace hB := hB1; clear hB1
    have hp2 : ¬ p = w.heap.size + 1 := by have := hp.out; omega
    have z0 := Hd.mk (show w.heap.size + 2 ≤ w1.heap.size by have := b2.out.lt; have := hp.out; omega)
    have fb1_0 : w1.cell? ⟨w.heap.size + 1, 0, none⟩ = some (Value.slice none 0 0) := b1.out.cell 0 rfl
    have fb1_1 : w1.cell? ⟨w.heap.size + 1, 1, none⟩ = some (Value.int IntKind.i64 0) := b1.out.cell 1 rfl
    have fb1_2 : w1.cell? ⟨w.heap.size + 1, 2, none⟩ = some (Value.slice none 0 0) := b1.out.cell 2 rfl
    have fb1_z := b1.out.frozen
    have fb2_0 : w1.cell? ⟨p, 0, none⟩ = some (Value.slice D l.length d) := b2.out.cell 0 rfl
    have fb2_1 : w1.cell? ⟨p, 1, none⟩ = some (Value.int IntKind.i64 0) := b2.out.cell 1 rfl
    have fb2_2 : w1.cell? ⟨p, 2, none⟩ = some (Value.slice D2 l.length l.length) := b2.out.cell 2 rfl
    have fb2_z := b2.out.frozen
    go_wp2_with fail
    clear fb1_0 fb1_1 fb1_2 fb1_z fb2_0 fb2_1 fb2_2 fb2_z
    apply calls_gen; intro W3 hW
    have hz_ : w1.heap.size ≤ W3.heap.size := by rw [hW]; simp
    have hE : Below w1.heap.size w1 W3 := by rw [hW]; (repeat (first | with_reducible refine below_alloc ?_ _ | with_reducible refine below_drew ?_)); exact Below.refl _ _
    have hB := Hd.mk (below_then hB.out hE)
    have b1 := Hd.mk (b1.out.below hE)
    have b2 := Hd.mk (b2.out.below hE)
    have hO := Hd.mk (Ty.O_below hO.out hE)
    clear hW hE
    have z3 := Hd.mk hz_; clear hz_
    refine (impl_StoreOk ⟨l, 0, List.replicate l.length []⟩ _ _ (by simpa using tStore.O_K hO.out)).mono ?_
    rintro e w4 ⟨rfl, hX⟩
    have b1 := Hd.mk (b1.out.below hX)
    have b2 := Hd.mk (b2.out.below hX)
    have hO := Hd.mk (Ty.O_below hO.out hX)
    have hB := Hd.mk (below_then hB.out hX)
    have hz_ := hX.size
    clear hX
    have z4 := Hd.mk hz_; clear hz_
    rw [storeOk_new]
    cases hb : schemaOk l
    · have HE := Hd.mk (show storeNew l = ⟨[], 0, []⟩ by unfold storeNew; rw [hb]; rfl)
      have fb1_0 : w4.cell? ⟨w.heap.size + 1, 0, none⟩ = some (Value.slice none 0 0) := b1.out.cell 0 rfl
      have fb1_1 : w4.cell? ⟨w.heap.size + 1, 1, none⟩ = some (Value.int IntKind.i64 0) := b1.out.cell 1 rfl
      have fb1_2 : w4.cell? ⟨w.heap.size + 1, 2, none⟩ = some (Value.slice none 0 0) := b1.out.cell 2 rfl
      have fb1_z := b1.out.frozen
      have fb2_0 : w4.cell? ⟨p, 0, none⟩ = some (Value.slice D l.length d) := b2.out.cell 0 rfl
      have fb2_1 : w4.cell? ⟨p, 1, none⟩ = some (Value.int IntKind.i64 0) := b2.out.cell 1 rfl
      have fb2_2 : w4.cell? ⟨p, 2, none⟩ = some (Value.slice D2 l.length l.length) := b2.out.cell 2 rfl
      have fb2_z := b2.out.frozen
      go_wp2_with fail
      refine bodyPost_retW (v := .tuple #[.agg #[Value.slice none 0 0, Value.int IntKind.i64 0, Value.slice none 0 0], .bool false]) (by simp [results, Try.results70, go_sem, fb1_0, fb1_1, fb1_2, fb1_z, fb2_0, fb2_1, fb2_2, fb2_z]) rfl ?_
      intro W hW
      clear fb1_0 fb1_1 fb1_2 fb1_z fb2_0 fb2_1 fb2_2 fb2_z
      have hz_ : w4.heap.size ≤ W.heap.size := by rw [hW]; simp
      have eF : Fr w4 W (fun k => k = w.heap.size + 1 ∨ w4.heap.size ≤ k) := by rw [hW]; (repeat (first | with_reducible refine Fr.setCell ?_ _ (fun _ => by simp <;> omega) _ | with_reducible refine Fr.alloc ?_ _ | with_reducible refine Fr.drew ?_)); exact Fr.refl _ _
      have z0_ := z0.out; have z3_ := z3.out; have z4_ := z4.out
      have hB := Hd.mk (((Fr.of_below hB.out (fun k => k = w.heap.size + 1 ∨ w4.heap.size ≤ k)).then_ eF (fun k hk _ => hk)).below (fun k hk => by have := hB.out.size; omega))
      have b1 := Hd.mk (show Blk W (w.heap.size + 1) #[Value.slice none 0 0, Value.int IntKind.i64 0, Value.slice none 0 0] 81 by rw [hW]; exact (Blk.all b1.out [Value.slice none 0 0, Value.int IntKind.i64 0, Value.slice none 0 0] rfl))
      have b2 := Hd.mk (b2.out.fr eF (fun h => by have hlt_ := b2.out.lt; (try simp only at h); omega))
      have hO := Hd.mk (Ty.O_fr hO.out eF (fun k hk hl h => by have hp_ := hp.out; (try simp only [rng] at hk); (try simp only at h); omega))
      clear hW eF
      have z5 := Hd.mk hz_; clear hz_
      exact ⟨_, by rw [hb], by rw [HE.out]; exact ZS _ _, hB.out⟩
    · have HE := Hd.mk (show storeNew l = ⟨l, 0, List.replicate l.length []⟩ by unfold storeNew; rw [hb]; rfl)
      have fb1_0 : w4.cell? ⟨w.heap.size + 1, 0, none⟩ = some (Value.slice none 0 0) := b1.out.cell 0 rfl
      have fb1_1 : w4.cell? ⟨w.heap.size + 1, 1, none⟩ = some (Value.int IntKind.i64 0) := b1.out.cell 1 rfl
      have fb1_2 : w4.cell? ⟨w.heap.size + 1, 2, none⟩ = some (Value.slice none 0 0) := b1.out.cell 2 rfl
      have fb1_z := b1.out.frozen
      have fb2_0 : w4.cell? ⟨p, 0, none⟩ = some (Value.slice D l.length d) := b2.out.cell 0 rfl
      have fb2_1 : w4.cell? ⟨p, 1, none⟩ = some (Value.int IntKind.i64 0) := b2.out.cell 1 rfl
      have fb2_2 : w4.cell? ⟨p, 2, none⟩ = some (Value.slice D2 l.length l.length) := b2.out.cell 2 rfl
      have fb2_z := b2.out.frozen
      go_wp2_with fail
      refine bodyPost_retW (v := .tuple #[.agg #[Value.slice D l.length d, Value.int IntKind.i64 0, Value.slice D2 l.length l.length], .bool true]) (by simp [results, Try.results70, go_sem, fb1_0, fb1_1, fb1_2, fb1_z, fb2_0, fb2_1, fb2_2, fb2_z]) rfl ?_
      intro W hW
      clear fb1_0 fb1_1 fb1_2 fb1_z fb2_0 fb2_1 fb2_2 fb2_z
      have hz_ : w4.heap.size ≤ W.heap.size := by rw [hW]; simp
      have eF : Fr w4 W (fun k => k = w.heap.size + 1 ∨ w4.heap.size ≤ k) := by rw [hW]; (repeat (first | with_reducible refine Fr.setCell ?_ _ (fun _ => by simp <;> omega) _ | with_reducible refine Fr.alloc ?_ _ | with_reducible refine Fr.drew ?_)); exact Fr.refl _ _
      have z0_ := z0.out; have z3_ := z3.out; have z4_ := z4.out
      have hB := Hd.mk (((Fr.of_below hB.out (fun k => k = w.heap.size + 1 ∨ w4.heap.size ≤ k)).then_ eF (fun k hk _ => hk)).below (fun k hk => by have := hB.out.size; omega))
      have b1 := Hd.mk (show Blk W (w.heap.size + 1) #[Value.slice D l.length d, Value.int IntKind.i64 0, Value.slice D2 l.length l.length] 81 by rw [hW]; exact (Blk.all b1.out [Value.slice D l.length d, Value.int IntKind.i64 0, Value.slice D2 l.length l.length] rfl))
      have b2 := Hd.mk (b2.out.fr eF (fun h => by have hlt_ := b2.out.lt; (try simp only at h); omega))
      have hO := Hd.mk (Ty.O_fr hO.out eF (fun k hk hl h => by have hp_ := hp.out; (try simp only [rng] at hk); (try simp only at h); omega))
      clear hW eF
      have z5 := Hd.mk hz_; clear hz_
      exact ⟨[Value.slice D l.length d, Value.int IntKind.i64 0, Value.slice D2 l.length l.length], by rw [hb], by rw [HE.out]; exact tStore.O_mono (fun k hk => by have := hk.1; omega) hO.out, hB.out⟩
end Go.Proofs.Ytchjcllpnpibeaa.X
