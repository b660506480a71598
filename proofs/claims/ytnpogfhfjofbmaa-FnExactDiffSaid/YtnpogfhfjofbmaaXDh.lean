/- What is proved here: contracts of the reference's Diff. Conditions: none. -/
import Derived.Test.YtnpogfhfjofbmaaXDg
namespace Go.Proofs.Ytnpogfhfjofbmaa.X
open Go.RowKit Go.Sort
set_option linter.unusedVariables false
set_option linter.unusedSimpArgs false
open Ty
theorem bulkL_most {α : Type} (f : α → Nat) (c : Nat) : ∀ l : List α, (∀ x ∈ l, f x ≤ c) → bulkL f l ≤ c * l.length
  | [], _ => by simp [bulkL]
  | x :: l, h => by
    have h1 := h x (by simp)
    have h2 := bulkL_most f c l (fun y hy => h y (by simp [hy]))
    simp only [bulkL, List.length_cons, Nat.mul_add, Nat.mul_one]
    omega
noncomputable def diffT (a b : J) : List JOp := if jsonOk a && jsonOk b then diffL 6 a b else []
theorem cnt_diff (m : Nat) (a b : J) : (bulkL (cnOp m) (diffT a b) : Int) ≤ 1099511627776 := by
  unfold diffT
  split
  · rename_i h
    rw [Bool.and_eq_true] at h
    obtain ⟨h1, h2⟩ := diff_ops 6 a b (of_decide_eq_true h.1) (of_decide_eq_true h.2)
    have h3 := (sizeN_bound 6 b).2
    have h4 : bulkL (cnOp m) (diffL 6 a b) ≤ 1610 * (diffL 6 a b).length := bulkL_most (cnOp m) 1610 _ (fun o ho => (h2 o ho m).2)
    omega
  · simp [bulkL]
def DiffS (M d : Nat) : Prop := ∀ (a b : J) (cs cs2 : List Value) (w : World), (tJ (M + 1)).K w a cs → (tJ (M + 1)).K w b cs2 → sizeN d a ≤ 400 → sizeN d b ≤ 400 →
  Calls Try.prog 97 #[.agg cs.toArray, .agg cs2.toArray] w fun e w' => ∃ v, e = .returned v ∧ (tOp (M + 1)).R 94 w' (fun k => w.heap.size ≤ k) v (diffL d a b) ∧ Below w.heap.size w w'
set_option maxHeartbeats 16000000 in
set_option maxRecDepth 100000 in
theorem spec_l5Diff_of {M d : Nat} (hd : d ≤ 5) (ih : DiffS M d) : DiffS M (d + 1) := by
  intro a b cs cs2 w hk hk2 hza hzb
  have IH := Hd.mk ih; clear ih
  have HD6 := Hd.mk hd
  clear hd
  have HKa := Hd.mk hk; have HKb := Hd.mk hk2
  obtain ⟨A1, c1, A2, c2, rfl, hsa, ⟨hc1, hr1⟩, hc2, hr2⟩ := tJ_K.1 hk
  obtain ⟨A3, c3, A4, c4, rfl, hsb, ⟨hc3, hr3⟩, hc4, hr4⟩ := tJ_K.1 hk2
  have hm1 := hr1.1; have hm2 := hr2.1; have hm3 := hr3.1; have hm4 := hr4.1
  have HA1 := Hd.mk hr1; have HA2 := Hd.mk hr2; have HB3 := Hd.mk hr3; have HB4 := Hd.mk hr4
  clear hr1 hr2 hr3 hr4 hk hk2
  have HZA := Hd.mk hza; have HZB := Hd.mk hzb
  have hbulk := Hd.mk (bulk_size (M + 1) (d + 1) b hzb)
  have hna : a.names.length ≤ 399 := by
    have h1 := list_len hza
    have h2 := (own_facts (size_own hza).1).2.1
    omega
  have hnb : b.names.length ≤ b.list.length := (own_facts (size_own hzb).1).2.1
  have hnb2 : b.list.length ≤ 399 := list_len hzb
  clear hza hzb
  have hB := Hd.mk (Below.refl w.heap.size w)
  go_enter Try.func97, Try.ntmps97
  go_wp2_with fail
  apply calls_gen; intro W1 hW
  have hR := Hd.mk (show (tOp (M + 1)).R 94 W1 (fun k => w.heap.size + 2 ≤ k) (.slice (some ⟨w.heap.size + 2, 0, none⟩) 0 0) [] by rw [hW]; have h := R_empty (tOp (M + 1)) 94 ((w.alloc (.cells #[Value.int IntKind.i64 a.kind, Value.int IntKind.i64 a.n, Value.string a.s, Value.slice A1 a.list.length c1, Value.slice A2 a.names.length c2] 59)).alloc (.cells #[Value.int IntKind.i64 b.kind, Value.int IntKind.i64 b.n, Value.string b.s, Value.slice A3 b.list.length c3, Value.slice A4 b.names.length c4] 59)); simpa using h)
  have hz_ : w.heap.size + 3 ≤ W1.heap.size := by rw [hW]; simp
  have hE : Below w.heap.size w W1 := by rw [hW]; (repeat (first | with_reducible refine below_alloc ?_ _ | with_reducible refine below_drew ?_)); exact Below.refl _ _
  have hB := Hd.mk (below_then hB.out hE)
  have b0 := Hd.mk (show Blk W1 (w.heap.size) #[Value.int IntKind.i64 a.kind, Value.int IntKind.i64 a.n, Value.string a.s, Value.slice A1 a.list.length c1, Value.slice A2 a.names.length c2] 59 by rw [hW]; first | exact (((Blk.new _ _ _).alloc _).alloc _) | (simpa using (((Blk.new _ _ _).alloc _).alloc _)))
  have b1 := Hd.mk (show Blk W1 (w.heap.size + 1) #[Value.int IntKind.i64 b.kind, Value.int IntKind.i64 b.n, Value.string b.s, Value.slice A3 b.list.length c3, Value.slice A4 b.names.length c4] 59 by rw [hW]; first | exact ((Blk.new1 _ _ _ _).alloc _) | (simpa using ((Blk.new1 _ _ _ _).alloc _)))
  clear hW hE
  have z1 := Hd.mk hz_; clear hz_
  refine (same_all (M + 1) a b _ _ _ (Ty.K_below _ hB.out HKa.out) (Ty.K_below _ hB.out HKb.out)).mono ?_
  rintro e w2 ⟨rfl, hX⟩
  have b0 := Hd.mk (b0.out.below hX)
  have b1 := Hd.mk (b1.out.below hX)
  have hR := Hd.mk (R_below hR.out hX)
  have hB := Hd.mk (below_then hB.out hX)
  have hz_ := hX.size
  clear hX
  have z2 := Hd.mk hz_; clear hz_
  cases heq : eqv a b
  · by_cases hka : a.kind = 5
    · have hd1 : decide (a.kind = 5) = true := decide_eq_true hka
      have he1 : (a.kind == 5) = true := by simpa using hka
      have hn1 : (a.kind != 5) = false := by simpa using hka
      have HKA5 := Hd.mk hka; clear hka
      by_cases hkb : b.kind = 5
      · have hd2 : decide (b.kind = 5) = true := decide_eq_true hkb
        have he2 : (b.kind == 5) = true := by simpa using hkb
        have hn2 : (b.kind != 5) = false := by simpa using hkb
        have HKB5 := Hd.mk hkb; clear hkb
        have fb0_0 : w2.cell? ⟨w.heap.size, 0, none⟩ = some (Value.int IntKind.i64 a.kind) := b0.out.cell 0 rfl
        have fb0_1 : w2.cell? ⟨w.heap.size, 1, none⟩ = some (Value.int IntKind.i64 a.n) := b0.out.cell 1 rfl
        have fb0_2 : w2.cell? ⟨w.heap.size, 2, none⟩ = some (Value.string a.s) := b0.out.cell 2 rfl
        have fb0_3 : w2.cell? ⟨w.heap.size, 3, none⟩ = some (Value.slice A1 a.list.length c1) := b0.out.cell 3 rfl
        have fb0_4 : w2.cell? ⟨w.heap.size, 4, none⟩ = some (Value.slice A2 a.names.length c2) := b0.out.cell 4 rfl
        have fb0_z := b0.out.frozen
        have fb1_0 : w2.cell? ⟨w.heap.size + 1, 0, none⟩ = some (Value.int IntKind.i64 b.kind) := b1.out.cell 0 rfl
        have fb1_1 : w2.cell? ⟨w.heap.size + 1, 1, none⟩ = some (Value.int IntKind.i64 b.n) := b1.out.cell 1 rfl
        have fb1_2 : w2.cell? ⟨w.heap.size + 1, 2, none⟩ = some (Value.string b.s) := b1.out.cell 2 rfl
        have fb1_3 : w2.cell? ⟨w.heap.size + 1, 3, none⟩ = some (Value.slice A3 b.list.length c3) := b1.out.cell 3 rfl
        have fb1_4 : w2.cell? ⟨w.heap.size + 1, 4, none⟩ = some (Value.slice A4 b.names.length c4) := b1.out.cell 4 rfl
        have fb1_z := b1.out.frozen
        go_wp2_with fail
        clear fb0_0 fb0_1 fb0_2 fb0_3 fb0_4 fb0_z fb1_0 fb1_1 fb1_2 fb1_3 fb1_4 fb1_z
        go_loopw [5, 6] (fun o i wr => ∃ (k : Nat) (vv : Value), k ≤ a.names.length ∧ i = .int .i64 k ∧ vv = o ∧ Hd ((tOp (M + 1)).R 94 wr (fun k => w.heap.size + 2 ≤ k) vv (goneK a b k)) ∧ Hd (Blk wr w.heap.size #[Value.int IntKind.i64 a.kind, Value.int IntKind.i64 a.n, Value.string a.s, Value.slice A1 a.list.length c1, Value.slice A2 a.names.length c2] 59) ∧ Hd (Blk wr (w.heap.size + 1) #[Value.int IntKind.i64 b.kind, Value.int IntKind.i64 b.n, Value.string b.s, Value.slice A3 b.list.length c3, Value.slice A4 b.names.length c4] 59) ∧ Hd (Below w.heap.size w wr) ∧ Hd (w.heap.size + 2 ≤ wr.heap.size)) (fun _ i _ => a.names.length - (intOf i).toNat)
        case atStart => exact ⟨0, _, Nat.zero_le _, rfl, rfl, ⟨hR.out⟩, b0, b1, hB, ⟨by have z1_ := z1.out; have z2_ := z2.out; omega⟩⟩
        case round =>
          clear hR b0 b1 hB
          obtain ⟨k, vv, hk, rfl, rfl, hR, b0, b1, hB, hzw⟩ := hrel
          have hk0 : (0 : Int) ≤ (k : Int) := by omega
          by_cases hlt : k < a.names.length
          · obtain ⟨ad, had, xn, hsn⟩ := C_str_at HA2.out hB.out k hlt
            obtain rfl := had
            have h3B := Hd.mk (Below.refl wr.heap.size wr)
            have XN := Hd.mk xn
            have fb0_0 : wr.cell? ⟨w.heap.size, 0, none⟩ = some (Value.int IntKind.i64 a.kind) := b0.out.cell 0 rfl
            have fb0_1 : wr.cell? ⟨w.heap.size, 1, none⟩ = some (Value.int IntKind.i64 a.n) := b0.out.cell 1 rfl
            have fb0_2 : wr.cell? ⟨w.heap.size, 2, none⟩ = some (Value.string a.s) := b0.out.cell 2 rfl
            have fb0_3 : wr.cell? ⟨w.heap.size, 3, none⟩ = some (Value.slice A1 a.list.length c1) := b0.out.cell 3 rfl
            have fb0_4 : wr.cell? ⟨w.heap.size, 4, none⟩ = some (Value.slice (some ad) a.names.length c2) := b0.out.cell 4 rfl
            have fb0_z := b0.out.frozen
            have fb1_0 : wr.cell? ⟨w.heap.size + 1, 0, none⟩ = some (Value.int IntKind.i64 b.kind) := b1.out.cell 0 rfl
            have fb1_1 : wr.cell? ⟨w.heap.size + 1, 1, none⟩ = some (Value.int IntKind.i64 b.n) := b1.out.cell 1 rfl
            have fb1_2 : wr.cell? ⟨w.heap.size + 1, 2, none⟩ = some (Value.string b.s) := b1.out.cell 2 rfl
            have fb1_3 : wr.cell? ⟨w.heap.size + 1, 3, none⟩ = some (Value.slice A3 b.list.length c3) := b1.out.cell 3 rfl
            have fb1_4 : wr.cell? ⟨w.heap.size + 1, 4, none⟩ = some (Value.slice A4 b.names.length c4) := b1.out.cell 4 rfl
            have fb1_z := b1.out.frozen
            go_wp2_with fail
            clear fb0_0 fb0_1 fb0_2 fb0_3 fb0_4 fb0_z fb1_0 fb1_1 fb1_2 fb1_3 fb1_4 fb1_z
            have fb0_0 : wr.cell? ⟨w.heap.size, 0, none⟩ = some (Value.int IntKind.i64 a.kind) := b0.out.cell 0 rfl
            have fb0_1 : wr.cell? ⟨w.heap.size, 1, none⟩ = some (Value.int IntKind.i64 a.n) := b0.out.cell 1 rfl
            have fb0_2 : wr.cell? ⟨w.heap.size, 2, none⟩ = some (Value.string a.s) := b0.out.cell 2 rfl
            have fb0_3 : wr.cell? ⟨w.heap.size, 3, none⟩ = some (Value.slice A1 a.list.length c1) := b0.out.cell 3 rfl
            have fb0_4 : wr.cell? ⟨w.heap.size, 4, none⟩ = some (Value.slice (some ad) a.names.length c2) := b0.out.cell 4 rfl
            have fb0_z := b0.out.frozen
            have fb1_0 : wr.cell? ⟨w.heap.size + 1, 0, none⟩ = some (Value.int IntKind.i64 b.kind) := b1.out.cell 0 rfl
            have fb1_1 : wr.cell? ⟨w.heap.size + 1, 1, none⟩ = some (Value.int IntKind.i64 b.n) := b1.out.cell 1 rfl
            have fb1_2 : wr.cell? ⟨w.heap.size + 1, 2, none⟩ = some (Value.string b.s) := b1.out.cell 2 rfl
            have fb1_3 : wr.cell? ⟨w.heap.size + 1, 3, none⟩ = some (Value.slice A3 b.list.length c3) := b1.out.cell 3 rfl
            have fb1_4 : wr.cell? ⟨w.heap.size + 1, 4, none⟩ = some (Value.slice A4 b.names.length c4) := b1.out.cell 4 rfl
            have fb1_z := b1.out.frozen
            have rfb0_0 := cell_regrown fb0_0
            have rfb0_1 := cell_regrown fb0_1
            have rfb0_2 := cell_regrown fb0_2
            have rfb0_3 := cell_regrown fb0_3
            have rfb0_4 := cell_regrown fb0_4
            have rfb1_0 := cell_regrown fb1_0
            have rfb1_1 := cell_regrown fb1_1
            have rfb1_2 := cell_regrown fb1_2
            have rfb1_3 := cell_regrown fb1_3
            have rfb1_4 := cell_regrown fb1_4
            have rxn := cell_regrown xn
            refine region_mix [(true, 0), (true, 1), (true, 2), (true, 3), (true, 4), (true, 5), (false, 6), (true, 7)] (by kernel_rfl) (by kernel_rfl) (fun _ _ _ _ _ h => h) ?_
            (repeat (first | (refine mix_z rfl (by rfl) ?_; go_big_quiet_skip; refine wpQuiet_nil ?_) | (refine mix_q rfl ?_; first | (go_big_quiet_skip; refine wpQuiet_nil ?_) | (go_big_quiet_want; go_big_quiet_op; go_big_quiet_on; refine wpQuiet_nil ?_))))
            have hS := Hd.mk (Below.refl wr.heap.size wr)
            refine mix_b rfl ?_ (by rfl)
            go_wp2_with fail
            clear fb0_0 fb0_1 fb0_2 fb0_3 fb0_4 fb0_z fb1_0 fb1_1 fb1_2 fb1_3 fb1_4 fb1_z
            apply calls_gen; intro W3 hW
            have hz_ : wr.heap.size ≤ W3.heap.size := by rw [hW]; simp
            have hE : Below wr.heap.size wr W3 := by rw [hW]; (repeat (first | with_reducible refine below_alloc ?_ _ | with_reducible refine below_drew ?_)); exact Below.refl _ _
            have hB := Hd.mk (below_then hB.out hE)
            have h3B := Hd.mk (below_then h3B.out hE)
            replace hS := Hd.mk (below_then hS.out hE)
            have b0 := Hd.mk (b0.out.below hE)
            have b1 := Hd.mk (b1.out.below hE)
            have hR := Hd.mk (R_below hR.out hE)
            clear hW hE
            have z3 := Hd.mk hz_; clear hz_
            clear xn
            refine (spec_l1At b _ a.names[k] _ (Ty.K_below _ hB.out HKb.out)).mono ?_
            rintro e w4 ⟨rfl, hX⟩
            have b0 := Hd.mk (b0.out.below hX)
            have b1 := Hd.mk (b1.out.below hX)
            have hR := Hd.mk (R_below hR.out hX)
            have hB := Hd.mk (below_then hB.out hX)
            replace hS := Hd.mk (below_then hS.out hX)
            have hz_ := hX.size
            have h3B := Hd.mk (below_then h3B.out hX)
            clear hX
            have z4 := Hd.mk hz_; clear hz_
            by_cases hn : nameAt b.names a.names[k] < 0
            · have hnd : decide (nameAt b.names a.names[k] < 0) = true := decide_eq_true hn
              go_wp2_with fail
              refine ⟨cls_below hS.out, ?_⟩
              (repeat (first | (refine mix_z rfl (by rfl) ?_; go_big_quiet_skip; refine wpQuiet_nil ?_) | (refine mix_q rfl ?_; first | (go_big_quiet_skip; refine wpQuiet_nil ?_) | (go_big_quiet_want; go_big_quiet_op; go_big_quiet_on; refine wpQuiet_nil ?_))))
              refine mix_nil ?_
              clear hS rfb0_0 rfb0_1 rfb0_2 rfb0_3 rfb0_4 rfb1_0 rfb1_1 rfb1_2 rfb1_3 rfb1_4 rxn
              have xn := cell_below h3B.out XN.out
              replace hR := Hd.mk (show (tOp (M + 1)).R 94 w4 (fun k => w.heap.size + 2 ≤ k ∧ k < w4.heap.size) vv _ from R_bound hR.out)
              have hzw_ := hzw.out; have z3_ := z3.out; have z4_ := z4.out
              have fb0_0 : w4.cell? ⟨w.heap.size, 0, none⟩ = some (Value.int IntKind.i64 a.kind) := b0.out.cell 0 rfl
              have fb0_1 : w4.cell? ⟨w.heap.size, 1, none⟩ = some (Value.int IntKind.i64 a.n) := b0.out.cell 1 rfl
              have fb0_2 : w4.cell? ⟨w.heap.size, 2, none⟩ = some (Value.string a.s) := b0.out.cell 2 rfl
              have fb0_3 : w4.cell? ⟨w.heap.size, 3, none⟩ = some (Value.slice A1 a.list.length c1) := b0.out.cell 3 rfl
              have fb0_4 : w4.cell? ⟨w.heap.size, 4, none⟩ = some (Value.slice (some ad) a.names.length c2) := b0.out.cell 4 rfl
              have fb0_z := b0.out.frozen
              have fb1_0 : w4.cell? ⟨w.heap.size + 1, 0, none⟩ = some (Value.int IntKind.i64 b.kind) := b1.out.cell 0 rfl
              have fb1_1 : w4.cell? ⟨w.heap.size + 1, 1, none⟩ = some (Value.int IntKind.i64 b.n) := b1.out.cell 1 rfl
              have fb1_2 : w4.cell? ⟨w.heap.size + 1, 2, none⟩ = some (Value.string b.s) := b1.out.cell 2 rfl
              have fb1_3 : w4.cell? ⟨w.heap.size + 1, 3, none⟩ = some (Value.slice A3 b.list.length c3) := b1.out.cell 3 rfl
              have fb1_4 : w4.cell? ⟨w.heap.size + 1, 4, none⟩ = some (Value.slice A4 b.names.length c4) := b1.out.cell 4 rfl
              have fb1_z := b1.out.frozen
              go_wp2_with (at_builtin; refine append_oneN (tOp (M + 1)) (n := w4.heap.size + 1) (by simp) rfl _ _ 55 94 (.agg #[.int .i64 0, .slice none 0 0, .int .i64 0, .int .i64 0, .string ByteArray.empty, .slice none 0 0, .slice none 0 0]) 112 rfl Try.underlying55 info_OpS rfl (by rw [tOp_sz]; omega) (by decide) (S := fun k => w.heap.size + 2 ≤ k ∧ k < w4.heap.size) (T := fun k => k = w4.heap.size) (S' := (fun k => w.heap.size + 2 ≤ k)) (v := vv) (xs := goneK a b k) ⟨2, [a.names[k]], J.null⟩ [Value.int IntKind.i64 2, Value.slice (some ⟨w4.heap.size, 0, none⟩) 1 1, Value.int IntKind.i64 0, Value.int IntKind.i64 0, Value.string ⟨#[]⟩, Value.slice none 0 0, Value.slice none 0 0] rfl rfl (R_below hR.out (below_alloc (Below.refl _ _) _)) (tOp_O.2 ⟨_, _, fun k => k = w4.heap.size, fun _ => False, rfl, R_one' a.names[k] hsn rfl, ZJ M _ _, fun k h => h, fun k h => h.elim, fun _ _ h => h⟩) (fun k h1 hl h2 => by have h5 := h1; (try simp only [rng] at h5); have h6 := h2.1; have h7 := h2.2; (try simp only at h5 h6 h7); omega) (fun k h => h.1) (fun k h => by have h5 := h; (try simp only [rng] at h5); (try simp only at h5); omega) (fun k h => by (try simp only at h); omega) (by have := goneK_len a b k; omega) (fun v5 w5 hv5 hX0 => ?_))
              clear fb0_0 fb0_1 fb0_2 fb0_3 fb0_4 fb0_z fb1_0 fb1_1 fb1_2 fb1_3 fb1_4 fb1_z
              have hX := (Fr.of_below (below_alloc (Below.refl w4.heap.size w4) _) _).trans hX0
              clear hX0 hR xn
              clear h3B
              have hzw_ := hzw.out; have z3_ := z3.out; have z4_ := z4.out
              have hSz := hB.out.size
              have b0 := Hd.mk (b0.out.fr hX (fun h => by have hlt_ := b0.out.lt; skip; (try simp only [rng] at h); (try simp only at h); omega))
              have b1 := Hd.mk (b1.out.fr hX (fun h => by have hlt_ := b1.out.lt; skip; (try simp only [rng] at h); (try simp only at h); omega))
              have hB := Hd.mk (below_frS hB.out hX (fun k h => by skip; (try simp only [rng] at h); (try simp only at h); omega))
              have hz_ := hX.size
              clear hX
              have z5 := Hd.mk hz_; clear hz_
              go_wp2_with fail
              go_roundw
              case rel => exact ⟨k + 1, _, by omega, by go_num, rfl, ⟨by rw [goneK_out a b k hlt hn]; exact hv5⟩, b0, b1, hB, ⟨by have hzw_ := hzw.out; have z3_ := z3.out; have z4_ := z4.out; have z5_ := z5.out; show w.heap.size + 2 ≤ w5.heap.size; omega⟩⟩
              case measure => simp [intOf]; omega
            · have hnd : decide (nameAt b.names a.names[k] < 0) = false := decide_eq_false hn
              go_wp2_with fail
              refine ⟨cls_below hS.out, ?_⟩
              (repeat (first | (refine mix_z rfl (by rfl) ?_; go_big_quiet_skip; refine wpQuiet_nil ?_) | (refine mix_q rfl ?_; first | (go_big_quiet_skip; refine wpQuiet_nil ?_) | (go_big_quiet_want; go_big_quiet_op; go_big_quiet_on; refine wpQuiet_nil ?_))))
              refine mix_nil ?_
              clear hS rfb0_0 rfb0_1 rfb0_2 rfb0_3 rfb0_4 rfb1_0 rfb1_1 rfb1_2 rfb1_3 rfb1_4 rxn
              go_wp2_with fail
              go_roundw
              case rel => exact ⟨k + 1, _, by omega, by go_num, rfl, ⟨by rw [goneK_in a b k hlt (by omega)]; exact hR.out⟩, b0, b1, hB, ⟨by have hzw_ := hzw.out; have z3_ := z3.out; have z4_ := z4.out; show w.heap.size + 2 ≤ w4.heap.size; omega⟩⟩
              case measure => simp [intOf]; omega
          · obtain rfl : k = a.names.length := by omega
            have hR := Hd.mk (show (tOp (M + 1)).R 94 wr (fun k => w.heap.size + 2 ≤ k) vv (diffK d a b 0) by rw [diffK_zero, ← goneK_all]; exact hR.out)
            have hdl : decide ((a.names.length : Int) < (a.names.length : Int)) = false := decide_eq_false (by omega)
            have fb0_0 : wr.cell? ⟨w.heap.size, 0, none⟩ = some (Value.int IntKind.i64 a.kind) := b0.out.cell 0 rfl
            have fb0_1 : wr.cell? ⟨w.heap.size, 1, none⟩ = some (Value.int IntKind.i64 a.n) := b0.out.cell 1 rfl
            have fb0_2 : wr.cell? ⟨w.heap.size, 2, none⟩ = some (Value.string a.s) := b0.out.cell 2 rfl
            have fb0_3 : wr.cell? ⟨w.heap.size, 3, none⟩ = some (Value.slice A1 a.list.length c1) := b0.out.cell 3 rfl
            have fb0_4 : wr.cell? ⟨w.heap.size, 4, none⟩ = some (Value.slice A2 a.names.length c2) := b0.out.cell 4 rfl
            have fb0_z := b0.out.frozen
            have fb1_0 : wr.cell? ⟨w.heap.size + 1, 0, none⟩ = some (Value.int IntKind.i64 b.kind) := b1.out.cell 0 rfl
            have fb1_1 : wr.cell? ⟨w.heap.size + 1, 1, none⟩ = some (Value.int IntKind.i64 b.n) := b1.out.cell 1 rfl
            have fb1_2 : wr.cell? ⟨w.heap.size + 1, 2, none⟩ = some (Value.string b.s) := b1.out.cell 2 rfl
            have fb1_3 : wr.cell? ⟨w.heap.size + 1, 3, none⟩ = some (Value.slice A3 b.list.length c3) := b1.out.cell 3 rfl
            have fb1_4 : wr.cell? ⟨w.heap.size + 1, 4, none⟩ = some (Value.slice A4 b.names.length c4) := b1.out.cell 4 rfl
            have fb1_z := b1.out.frozen
            go_wp2_with fail
            clear fb0_0 fb0_1 fb0_2 fb0_3 fb0_4 fb0_z fb1_0 fb1_1 fb1_2 fb1_3 fb1_4 fb1_z
            skip
            go_loopw [5, 7] (fun o i wr => ∃ (k : Nat) (vv : Value), k ≤ b.names.length ∧ i = .int .i64 k ∧ vv = o ∧ Hd ((tOp (M + 1)).R 94 wr (fun k => w.heap.size + 2 ≤ k) vv (diffK d a b k)) ∧ Hd (Blk wr w.heap.size #[Value.int IntKind.i64 a.kind, Value.int IntKind.i64 a.n, Value.string a.s, Value.slice A1 a.list.length c1, Value.slice A2 a.names.length c2] 59) ∧ Hd (Blk wr (w.heap.size + 1) #[Value.int IntKind.i64 b.kind, Value.int IntKind.i64 b.n, Value.string b.s, Value.slice A3 b.list.length c3, Value.slice A4 b.names.length c4] 59) ∧ Hd (Below w.heap.size w wr) ∧ Hd (w.heap.size + 2 ≤ wr.heap.size)) (fun _ i _ => b.names.length - (intOf i).toNat)
            case atStart => exact ⟨0, _, Nat.zero_le _, rfl, rfl, ⟨hR.out⟩, b0, b1, hB, hzw⟩
            case round =>
              clear hR b0 b1 hB hzw
              clear hk hk0 hlt hdl
              obtain ⟨k, vv, hk, rfl, rfl, hR, b0, b1, hB, hzw⟩ := hrel
              have hk0 : (0 : Int) ≤ (k : Int) := by omega
              by_cases hlt : k < b.names.length
              · obtain ⟨hkl, e1_, e2_, h60⟩ := at_list HZB.out k hlt
                clear e1_ e2_
                obtain ⟨M', rfl⟩ := tJ_ne HB3.out (by omega)
                obtain ⟨ad, had, xn, hsn⟩ := C_str_at HB4.out hB.out k hlt
                obtain rfl := had
                have h3B := Hd.mk (Below.refl wr.heap.size wr)
                have XN := Hd.mk xn
                have fb0_0 : wr.cell? ⟨w.heap.size, 0, none⟩ = some (Value.int IntKind.i64 a.kind) := b0.out.cell 0 rfl
                have fb0_1 : wr.cell? ⟨w.heap.size, 1, none⟩ = some (Value.int IntKind.i64 a.n) := b0.out.cell 1 rfl
                have fb0_2 : wr.cell? ⟨w.heap.size, 2, none⟩ = some (Value.string a.s) := b0.out.cell 2 rfl
                have fb0_3 : wr.cell? ⟨w.heap.size, 3, none⟩ = some (Value.slice A1 a.list.length c1) := b0.out.cell 3 rfl
                have fb0_4 : wr.cell? ⟨w.heap.size, 4, none⟩ = some (Value.slice A2 a.names.length c2) := b0.out.cell 4 rfl
                have fb0_z := b0.out.frozen
                have fb1_0 : wr.cell? ⟨w.heap.size + 1, 0, none⟩ = some (Value.int IntKind.i64 b.kind) := b1.out.cell 0 rfl
                have fb1_1 : wr.cell? ⟨w.heap.size + 1, 1, none⟩ = some (Value.int IntKind.i64 b.n) := b1.out.cell 1 rfl
                have fb1_2 : wr.cell? ⟨w.heap.size + 1, 2, none⟩ = some (Value.string b.s) := b1.out.cell 2 rfl
                have fb1_3 : wr.cell? ⟨w.heap.size + 1, 3, none⟩ = some (Value.slice A3 b.list.length c3) := b1.out.cell 3 rfl
                have fb1_4 : wr.cell? ⟨w.heap.size + 1, 4, none⟩ = some (Value.slice (some ad) b.names.length c4) := b1.out.cell 4 rfl
                have fb1_z := b1.out.frozen
                go_wp2_with fail
                clear fb0_0 fb0_1 fb0_2 fb0_3 fb0_4 fb0_z fb1_0 fb1_1 fb1_2 fb1_3 fb1_4 fb1_z
                have fb0_0 : wr.cell? ⟨w.heap.size, 0, none⟩ = some (Value.int IntKind.i64 a.kind) := b0.out.cell 0 rfl
                have fb0_1 : wr.cell? ⟨w.heap.size, 1, none⟩ = some (Value.int IntKind.i64 a.n) := b0.out.cell 1 rfl
                have fb0_2 : wr.cell? ⟨w.heap.size, 2, none⟩ = some (Value.string a.s) := b0.out.cell 2 rfl
                have fb0_3 : wr.cell? ⟨w.heap.size, 3, none⟩ = some (Value.slice A1 a.list.length c1) := b0.out.cell 3 rfl
                have fb0_4 : wr.cell? ⟨w.heap.size, 4, none⟩ = some (Value.slice A2 a.names.length c2) := b0.out.cell 4 rfl
                have fb0_z := b0.out.frozen
                have fb1_0 : wr.cell? ⟨w.heap.size + 1, 0, none⟩ = some (Value.int IntKind.i64 b.kind) := b1.out.cell 0 rfl
                have fb1_1 : wr.cell? ⟨w.heap.size + 1, 1, none⟩ = some (Value.int IntKind.i64 b.n) := b1.out.cell 1 rfl
                have fb1_2 : wr.cell? ⟨w.heap.size + 1, 2, none⟩ = some (Value.string b.s) := b1.out.cell 2 rfl
                have fb1_3 : wr.cell? ⟨w.heap.size + 1, 3, none⟩ = some (Value.slice A3 b.list.length c3) := b1.out.cell 3 rfl
                have fb1_4 : wr.cell? ⟨w.heap.size + 1, 4, none⟩ = some (Value.slice (some ad) b.names.length c4) := b1.out.cell 4 rfl
                have fb1_z := b1.out.frozen
                have rfb0_0 := cell_regrown fb0_0
                have rfb0_1 := cell_regrown fb0_1
                have rfb0_2 := cell_regrown fb0_2
                have rfb0_3 := cell_regrown fb0_3
                have rfb0_4 := cell_regrown fb0_4
                have rfb1_0 := cell_regrown fb1_0
                have rfb1_1 := cell_regrown fb1_1
                have rfb1_2 := cell_regrown fb1_2
                have rfb1_3 := cell_regrown fb1_3
                have rfb1_4 := cell_regrown fb1_4
                have rxn := cell_regrown xn
                refine region_mix [(true, 0), (true, 1), (true, 2), (true, 3), (true, 4), (true, 5), (false, 6), (true, 7)] (by kernel_rfl) (by kernel_rfl) (fun _ _ _ _ _ h => h) ?_
                (repeat (first | (refine mix_z rfl (by rfl) ?_; go_big_quiet_skip; refine wpQuiet_nil ?_) | (refine mix_q rfl ?_; first | (go_big_quiet_skip; refine wpQuiet_nil ?_) | (go_big_quiet_want; go_big_quiet_op; go_big_quiet_on; refine wpQuiet_nil ?_))))
                have hS := Hd.mk (Below.refl wr.heap.size wr)
                refine mix_b rfl ?_ (by rfl)
                go_wp2_with fail
                clear fb0_0 fb0_1 fb0_2 fb0_3 fb0_4 fb0_z fb1_0 fb1_1 fb1_2 fb1_3 fb1_4 fb1_z
                apply calls_gen; intro W3 hW
                have hz_ : wr.heap.size ≤ W3.heap.size := by rw [hW]; simp
                have hE : Below wr.heap.size wr W3 := by rw [hW]; (repeat (first | with_reducible refine below_alloc ?_ _ | with_reducible refine below_drew ?_)); exact Below.refl _ _
                have hB := Hd.mk (below_then hB.out hE)
                have h3B := Hd.mk (below_then h3B.out hE)
                replace hS := Hd.mk (below_then hS.out hE)
                have b0 := Hd.mk (b0.out.below hE)
                have b1 := Hd.mk (b1.out.below hE)
                have hR := Hd.mk (R_below hR.out hE)
                clear hW hE
                have z3 := Hd.mk hz_; clear hz_
                clear xn
                refine (spec_l1At a _ b.names[k] _ (Ty.K_below _ hB.out HKa.out)).mono ?_
                rintro e w4 ⟨rfl, hX⟩
                have b0 := Hd.mk (b0.out.below hX)
                have b1 := Hd.mk (b1.out.below hX)
                have hR := Hd.mk (R_below hR.out hX)
                have hB := Hd.mk (below_then hB.out hX)
                replace hS := Hd.mk (below_then hS.out hX)
                have hz_ := hX.size
                have h3B := Hd.mk (below_then h3B.out hX)
                clear hX
                have z4 := Hd.mk hz_; clear hz_
                obtain ⟨at_, hat⟩ : ∃ z, z = nameAt a.names b.names[k] := ⟨_, rfl⟩
                rw [← hat]
                have HAT := Hd.mk hat; clear hat
                go_wp2_with fail
                refine ⟨cls_below hS.out, ?_⟩
                (repeat (first | (refine mix_z rfl (by rfl) ?_; go_big_quiet_skip; refine wpQuiet_nil ?_) | (refine mix_q rfl ?_; first | (go_big_quiet_skip; refine wpQuiet_nil ?_) | (go_big_quiet_want; go_big_quiet_op; go_big_quiet_on; refine wpQuiet_nil ?_))))
                refine mix_nil ?_
                clear hS rfb0_0 rfb0_1 rfb0_2 rfb0_3 rfb0_4 rfb1_0 rfb1_1 rfb1_2 rfb1_3 rfb1_4 rxn
                have xn := cell_below h3B.out XN.out; clear XN
                by_cases hn : at_ < 0
                · have hnd : decide (at_ < 0) = true := decide_eq_true hn
                  have HN := Hd.mk (show nameAt a.names b.names[k] < 0 by rw [← HAT.out]; exact hn)
                  have HBK := Hd.mk (show bulkJ (M' + 1 + 1) b.list[k] ≤ 4194304 by have h2 := size_part HZB.out (List.getElem_mem hkl); have h1 := bulk_size (M' + 1 + 1) d b.list[k] h2; omega)
                  obtain ⟨ade, cse, hade, hKe, e0, e1⟩ := C_at HB3.out hB.out k hkl
                  obtain rfl := hade
                  have HKe := Hd.mk ((tJ_le (Nat.le_succ (M' + 1))).K _ _ _ hKe)
                  obtain ⟨Ae, ce, Be, fe, rfl, hse, ⟨hc1e, _⟩, hc2e, _⟩ := tJ_K.1 hKe
                  clear hKe
                  have xe0 : w4.cell? (ade.add (k * 5)) = some (Value.int IntKind.i64 b.list[k].kind) := e0 _ rfl
                  have xe1 : w4.cell? ⟨(ade.add (k * 5)).block, (ade.add (k * 5)).off + 1, none⟩ = some (Value.int IntKind.i64 b.list[k].n) := e1 0 _ rfl
                  have xe2 : w4.cell? ⟨(ade.add (k * 5)).block, (ade.add (k * 5)).off + 2, none⟩ = some (Value.string b.list[k].s) := e1 1 _ rfl
                  have xe3 : w4.cell? ⟨(ade.add (k * 5)).block, (ade.add (k * 5)).off + 3, none⟩ = some (Value.slice Ae b.list[k].list.length ce) := e1 2 _ rfl
                  have xe4 : w4.cell? ⟨(ade.add (k * 5)).block, (ade.add (k * 5)).off + 4, none⟩ = some (Value.slice Be b.list[k].names.length fe) := e1 3 _ rfl
                  clear e0 e1
                  replace hR := Hd.mk (show (tOp (M' + 1 + 1)).R 94 w4 (fun k => w.heap.size + 2 ≤ k ∧ k < w4.heap.size) vv _ from R_bound hR.out)
                  have hBr := Hd.mk (Below.refl w4.heap.size w4)
                  clear h3B
                  have fb0_0 : w4.cell? ⟨w.heap.size, 0, none⟩ = some (Value.int IntKind.i64 a.kind) := b0.out.cell 0 rfl
                  have fb0_1 : w4.cell? ⟨w.heap.size, 1, none⟩ = some (Value.int IntKind.i64 a.n) := b0.out.cell 1 rfl
                  have fb0_2 : w4.cell? ⟨w.heap.size, 2, none⟩ = some (Value.string a.s) := b0.out.cell 2 rfl
                  have fb0_3 : w4.cell? ⟨w.heap.size, 3, none⟩ = some (Value.slice A1 a.list.length c1) := b0.out.cell 3 rfl
                  have fb0_4 : w4.cell? ⟨w.heap.size, 4, none⟩ = some (Value.slice A2 a.names.length c2) := b0.out.cell 4 rfl
                  have fb0_z := b0.out.frozen
                  have fb1_0 : w4.cell? ⟨w.heap.size + 1, 0, none⟩ = some (Value.int IntKind.i64 b.kind) := b1.out.cell 0 rfl
                  have fb1_1 : w4.cell? ⟨w.heap.size + 1, 1, none⟩ = some (Value.int IntKind.i64 b.n) := b1.out.cell 1 rfl
                  have fb1_2 : w4.cell? ⟨w.heap.size + 1, 2, none⟩ = some (Value.string b.s) := b1.out.cell 2 rfl
                  have fb1_3 : w4.cell? ⟨w.heap.size + 1, 3, none⟩ = some (Value.slice (some ade) b.list.length c3) := b1.out.cell 3 rfl
                  have fb1_4 : w4.cell? ⟨w.heap.size + 1, 4, none⟩ = some (Value.slice (some ad) b.names.length c4) := b1.out.cell 4 rfl
                  have fb1_z := b1.out.frozen
                  go_wp2_with fail
                  clear fb0_0 fb0_1 fb0_2 fb0_3 fb0_4 fb0_z fb1_0 fb1_1 fb1_2 fb1_3 fb1_4 fb1_z
                  have yxn := cell_regrown xn
                  have yxe0 := cell_regrown xe0
                  have yxe1 := cell_regrown xe1
                  have yxe2 := cell_regrown xe2
                  have yxe3 := cell_regrown xe3
                  have yxe4 := cell_regrown xe4
                  have fb0_0 : w4.cell? ⟨w.heap.size, 0, none⟩ = some (Value.int IntKind.i64 a.kind) := b0.out.cell 0 rfl
                  have fb0_1 : w4.cell? ⟨w.heap.size, 1, none⟩ = some (Value.int IntKind.i64 a.n) := b0.out.cell 1 rfl
                  have fb0_2 : w4.cell? ⟨w.heap.size, 2, none⟩ = some (Value.string a.s) := b0.out.cell 2 rfl
                  have fb0_3 : w4.cell? ⟨w.heap.size, 3, none⟩ = some (Value.slice A1 a.list.length c1) := b0.out.cell 3 rfl
                  have fb0_4 : w4.cell? ⟨w.heap.size, 4, none⟩ = some (Value.slice A2 a.names.length c2) := b0.out.cell 4 rfl
                  have fb0_z := b0.out.frozen
                  have fb1_0 : w4.cell? ⟨w.heap.size + 1, 0, none⟩ = some (Value.int IntKind.i64 b.kind) := b1.out.cell 0 rfl
                  have fb1_1 : w4.cell? ⟨w.heap.size + 1, 1, none⟩ = some (Value.int IntKind.i64 b.n) := b1.out.cell 1 rfl
                  have fb1_2 : w4.cell? ⟨w.heap.size + 1, 2, none⟩ = some (Value.string b.s) := b1.out.cell 2 rfl
                  have fb1_3 : w4.cell? ⟨w.heap.size + 1, 3, none⟩ = some (Value.slice (some ade) b.list.length c3) := b1.out.cell 3 rfl
                  have fb1_4 : w4.cell? ⟨w.heap.size + 1, 4, none⟩ = some (Value.slice (some ad) b.names.length c4) := b1.out.cell 4 rfl
                  have fb1_z := b1.out.frozen
                  have rfb0_0 := cell_regrown fb0_0
                  have rfb0_1 := cell_regrown fb0_1
                  have rfb0_2 := cell_regrown fb0_2
                  have rfb0_3 := cell_regrown fb0_3
                  have rfb0_4 := cell_regrown fb0_4
                  have rfb1_0 := cell_regrown fb1_0
                  have rfb1_1 := cell_regrown fb1_1
                  have rfb1_2 := cell_regrown fb1_2
                  have rfb1_3 := cell_regrown fb1_3
                  have rfb1_4 := cell_regrown fb1_4
                  refine region_mixT (.p 0 (.p 1 (.q 2 (.p 3 (.q 4 (.q 5 (.p 7 (.q 8 (.p 9 (.q 10 (.q 11 (.br 6 12 (.b 12 (.q 13 (.b 14 .fin))) (.b 6 (.q 13 (.b 14 .fin))))))))))))))) [15, 16] (by kernel_rfl) (by kernel_rfl) (fun _ _ _ _ _ h => h) ?_
                  refine genT ?_
                  intro W5 hW
                  have hS := Hd.mk (show Below w4.heap.size w4 W5 by rw [hW]; exact below_drew (Below.refl _ _))
                  have hz_ : w4.heap.size ≤ W5.heap.size := by rw [hW]; simp
                  have hE : Below w4.heap.size w4 W5 := by rw [hW]; (repeat (first | with_reducible refine below_alloc ?_ _ | with_reducible refine below_drew ?_)); exact Below.refl _ _
                  have hB := Hd.mk (below_then hB.out hE)
                  have hBr := Hd.mk (below_then hBr.out hE)
                  have b0 := Hd.mk (b0.out.below hE)
                  have b1 := Hd.mk (b1.out.below hE)
                  clear hW hE
                  have z5 := Hd.mk hz_; clear hz_
                  refine mixT_p rfl ?_
                  go_big_quiet_want; go_big_quiet_op; go_big_quiet_on; refine wpQuiet_nil ?_
                  refine mixT_p rfl ?_
                  go_big_quiet_want; go_big_quiet_op; go_big_quiet_on; refine wpQuiet_nil ?_
                  refine mixT_q rfl ?_
                  go_big_quiet_want; go_big_quiet_op; go_big_quiet_on; refine wpQuiet_nil ?_
                  refine mixT_p rfl ?_
                  go_big_quiet_want; go_big_quiet_op; go_big_quiet_on; refine wpQuiet_nil ?_
                  refine mixT_q rfl ?_
                  go_big_quiet_want; go_big_quiet_op; go_big_quiet_on; refine wpQuiet_nil ?_
                  refine mixT_q rfl ?_
                  go_big_quiet_want; go_big_quiet_op; go_big_quiet_on; refine wpQuiet_nil ?_
                  refine mixT_p rfl ?_
                  go_big_quiet_want; go_big_quiet_op; go_big_quiet_on; refine wpQuiet_nil ?_
                  refine mixT_q rfl ?_
                  go_big_quiet_want; go_big_quiet_op; go_big_quiet_on; refine wpQuiet_nil ?_
                  refine mixT_p rfl ?_
                  go_big_quiet_want; go_big_quiet_op; go_big_quiet_on; refine wpQuiet_nil ?_
                  refine mixT_q rfl ?_
                  go_big_quiet_want; go_big_quiet_op; go_big_quiet_on; refine wpQuiet_nil ?_
                  refine mixT_q rfl ?_
                  go_big_quiet_want; go_big_quiet_op; go_big_quiet_on; refine wpQuiet_nil ?_
                  refine ⟨?_, ?_⟩
                  · refine stepM_of rfl ?_ (by rfl)
                    go_wp2_with fail
                    refine ⟨cls_below (below_alloc hS.out _), ?_⟩
                    refine genT ?_; intro W6 hW
                    have hE0 := Hd.mk (show str.R 9 W6 (fun k => k = W5.heap.size) (.slice (some ⟨W5.heap.size, 0, none⟩) 1 1) [b.names[k]] by rw [hW]; exact R_one' b.names[k] hsn rfl)
                    have hz_ : W5.heap.size + 1 ≤ W6.heap.size := by rw [hW]; simp
                    have hE : Below W5.heap.size W5 W6 := by rw [hW]; (repeat (first | with_reducible refine below_alloc ?_ _ | with_reducible refine below_drew ?_)); exact Below.refl _ _
                    have hB := Hd.mk (below_then hB.out hE)
                    have hBr := Hd.mk (below_then hBr.out hE)
                    replace hS := Hd.mk (below_then hS.out hE)
                    have b0 := Hd.mk (b0.out.below hE)
                    have b1 := Hd.mk (b1.out.below hE)
                    clear hW hE
                    have z6 := Hd.mk hz_; clear hz_
                    refine mixT_b rfl ?_ (by rfl)
                    go_wp2_with fail
                    apply calls_gen; intro W7 hW
                    have hz_ : W6.heap.size ≤ W7.heap.size := by rw [hW]; simp
                    have hE : Below W6.heap.size W6 W7 := by rw [hW]; (repeat (first | with_reducible refine below_alloc ?_ _ | with_reducible refine below_drew ?_)); exact Below.refl _ _
                    have hB := Hd.mk (below_then hB.out hE)
                    have hBr := Hd.mk (below_then hBr.out hE)
                    replace hS := Hd.mk (below_then hS.out hE)
                    have b0 := Hd.mk (b0.out.below hE)
                    have b1 := Hd.mk (b1.out.below hE)
                    have hE0 := Hd.mk (R_below hE0.out hE)
                    clear hW hE
                    have z7 := Hd.mk hz_; clear hz_
                    refine (spec_l1Copy b.list[k] _ _ (Ty.K_below _ hBr.out HKe.out) HBK.out).mono ?_
                    rintro e w8 ⟨cs', rfl, hO2, hX⟩
                    have b0 := Hd.mk (b0.out.below hX)
                    have b1 := Hd.mk (b1.out.below hX)
                    have hE0 := Hd.mk (R_below hE0.out hX)
                    have hB := Hd.mk (below_then hB.out hX)
                    replace hS := Hd.mk (below_then hS.out hX)
                    have hz_ := hX.size
                    have hBr := Hd.mk (below_then hBr.out hX)
                    clear hX
                    have z8 := Hd.mk hz_; clear hz_
                    obtain ⟨v3, v4, _, _, rfl, hsz3, hr3, hr4, _⟩ := tJ_O.1 hO2
                    obtain ⟨D2, d2, rfl, _, _⟩ := R_C hr3
                    obtain ⟨D3, d3, rfl, _, _⟩ := R_C hr4
                    clear hr3 hr4
                    replace hO2 := Hd.mk (show (tJ (M' + 1 + 1)).O w8 (rng W7.heap.size w8.heap.size) b.list[k] _ from Ty.O_bound _ hO2)
                    go_wp2_with fail
                    refine ⟨cls_below hS.out, ?_⟩
                    refine mixT_q rfl ?_
                    go_big_quiet_want; go_big_quiet_op; go_big_quiet_on; refine wpQuiet_nil ?_
                    refine mixT_b rfl ?_ (by rfl)
                    go_wp2_with fail
                    refine ⟨cls_below (below_alloc hS.out _), ?_⟩
                    refine mixT_fin ?_
                    clear hS
                    clear rfb0_0 rfb0_1 rfb0_2 rfb0_3 rfb0_4 rfb1_0 rfb1_1 rfb1_2 rfb1_3 rfb1_4
                    clear fb0_0 fb0_1 fb0_2 fb0_3 fb0_4 fb0_z fb1_0 fb1_1 fb1_2 fb1_3 fb1_4 fb1_z
                    have fb0_0 : w8.cell? ⟨w.heap.size, 0, none⟩ = some (Value.int IntKind.i64 a.kind) := b0.out.cell 0 rfl
                    have fb0_1 : w8.cell? ⟨w.heap.size, 1, none⟩ = some (Value.int IntKind.i64 a.n) := b0.out.cell 1 rfl
                    have fb0_2 : w8.cell? ⟨w.heap.size, 2, none⟩ = some (Value.string a.s) := b0.out.cell 2 rfl
                    have fb0_3 : w8.cell? ⟨w.heap.size, 3, none⟩ = some (Value.slice A1 a.list.length c1) := b0.out.cell 3 rfl
                    have fb0_4 : w8.cell? ⟨w.heap.size, 4, none⟩ = some (Value.slice A2 a.names.length c2) := b0.out.cell 4 rfl
                    have fb0_z := b0.out.frozen
                    have fb1_0 : w8.cell? ⟨w.heap.size + 1, 0, none⟩ = some (Value.int IntKind.i64 b.kind) := b1.out.cell 0 rfl
                    have fb1_1 : w8.cell? ⟨w.heap.size + 1, 1, none⟩ = some (Value.int IntKind.i64 b.n) := b1.out.cell 1 rfl
                    have fb1_2 : w8.cell? ⟨w.heap.size + 1, 2, none⟩ = some (Value.string b.s) := b1.out.cell 2 rfl
                    have fb1_3 : w8.cell? ⟨w.heap.size + 1, 3, none⟩ = some (Value.slice (some ade) b.list.length c3) := b1.out.cell 3 rfl
                    have fb1_4 : w8.cell? ⟨w.heap.size + 1, 4, none⟩ = some (Value.slice (some ad) b.names.length c4) := b1.out.cell 4 rfl
                    have fb1_z := b1.out.frozen
                    refine tail_b rfl ?_ (by rfl)
                    have hzw_ := hzw.out; have z3_ := z3.out; have z4_ := z4.out; have z5_ := z5.out; have z6_ := z6.out; have z7_ := z7.out; have z8_ := z8.out
                    have hSz := hB.out.size
                    have hBz := hBr.out.size
                    go_wp2_with (at_builtin; refine append_oneN (tOp (M' + 1 + 1)) (n := w8.heap.size) (by simp) rfl _ _ 55 94 (.agg #[.int .i64 0, .slice none 0 0, .int .i64 0, .int .i64 0, .string ByteArray.empty, .slice none 0 0, .slice none 0 0]) 112 rfl Try.underlying55 info_OpS rfl (by rw [tOp_sz]; omega) (by decide) (S := fun k => w.heap.size + 2 ≤ k ∧ k < w4.heap.size) (T := fun k => w4.heap.size ≤ k ∧ k < w8.heap.size) (S' := (fun k => w.heap.size + 2 ≤ k)) (v := vv) (xs := diffK d a b k) ⟨1, [b.names[k]], b.list[k]⟩ [Value.int IntKind.i64 1, Value.slice (some ⟨W5.heap.size, 0, none⟩) 1 1, Value.int IntKind.i64 b.list[k].kind, Value.int IntKind.i64 b.list[k].n, Value.string b.list[k].s, Value.slice D2 b.list[k].list.length d2, Value.slice D3 b.list[k].names.length d3] rfl rfl (R_below hR.out hBr.out) (tOp_O.2 ⟨_, _, _, _, rfl, hE0.out, hO2.out, fun k h => by have h5 : k = _ := h; (try simp only); omega, fun k h => by have h5 := h.1; have h6 := h.2; (try simp only); omega, fun k h h2 => by have h5 : k = _ := h; have h6 := h2.1; have h7 := h2.2; omega⟩) (fun k h1 hl h2 => by have h5 := h1; (try simp only [rng] at h5); have h6 := h2.1; have h7 := h2.2; (try simp only at h5 h6 h7); omega) (fun k h => h.1) (fun k h => by have h5 := h; (try simp only [rng] at h5); (try simp only at h5); omega) (fun k h => by (try simp only at h); omega) (by have := diffK_len HZA.out HZB.out k hk; omega) (fun v5 w9 hv5 hX0 => ?_))
                    clear fb0_0 fb0_1 fb0_2 fb0_3 fb0_4 fb0_z fb1_0 fb1_1 fb1_2 fb1_3 fb1_4 fb1_z
                    have hX := hX0; clear hX0 hR hE0 hO2 hBr
                    have hzw_ := hzw.out; have z3_ := z3.out; have z4_ := z4.out; have z5_ := z5.out; have z6_ := z6.out; have z7_ := z7.out; have z8_ := z8.out
                    have hSz := hB.out.size
                    have b0 := Hd.mk (b0.out.fr hX (fun h => by have hlt_ := b0.out.lt; skip; (try simp only [rng] at h); (try simp only at h); omega))
                    have b1 := Hd.mk (b1.out.fr hX (fun h => by have hlt_ := b1.out.lt; skip; (try simp only [rng] at h); (try simp only at h); omega))
                    have hB := Hd.mk (below_frS hB.out hX (fun k h => by skip; (try simp only [rng] at h); (try simp only at h); omega))
                    have hz_ := hX.size
                    clear hX
                    have z9 := Hd.mk hz_; clear hz_
                    refine mixQ_n ?_
                    refine tail_b rfl ?_ (by rfl)
                    go_wp2_with fail
                    refine mixQ_n ?_
                    refine tail_nil ?_
                    go_wp2_with fail
                    go_roundw
                    case rel => exact ⟨k + 1, _, by omega, by go_num, rfl, ⟨by rw [diffK_step, diffAt_new HZB.out k hlt hkl HN.out]; exact hv5⟩, b0, b1, hB, ⟨by have hzw_ := hzw.out; have z3_ := z3.out; have z4_ := z4.out; have z5_ := z5.out; have z6_ := z6.out; have z7_ := z7.out; have z8_ := z8.out; have z9_ := z9.out; show w.heap.size + 2 ≤ w9.heap.size; omega⟩⟩
                    case measure => simp [intOf]; omega
                  · refine stepM_of rfl ?_ (by rfl)
                    go_wp2_with fail
                    apply calls_gen; intro W6 hW
                    have hz_ : W5.heap.size ≤ W6.heap.size := by rw [hW]; simp
                    have hE : Below W5.heap.size W5 W6 := by rw [hW]; (repeat (first | with_reducible refine below_alloc ?_ _ | with_reducible refine below_drew ?_)); exact Below.refl _ _
                    have hB := Hd.mk (below_then hB.out hE)
                    have hBr := Hd.mk (below_then hBr.out hE)
                    replace hS := Hd.mk (below_then hS.out hE)
                    have b0 := Hd.mk (b0.out.below hE)
                    have b1 := Hd.mk (b1.out.below hE)
                    clear hW hE
                    have z6 := Hd.mk hz_; clear hz_
                    refine (spec_l1Copy b.list[k] _ _ (Ty.K_below _ hBr.out HKe.out) HBK.out).mono ?_
                    rintro e w7 ⟨cs', rfl, hO2, hX⟩
                    have b0 := Hd.mk (b0.out.below hX)
                    have b1 := Hd.mk (b1.out.below hX)
                    have hB := Hd.mk (below_then hB.out hX)
                    replace hS := Hd.mk (below_then hS.out hX)
                    have hz_ := hX.size
                    have hBr := Hd.mk (below_then hBr.out hX)
                    clear hX
                    have z7 := Hd.mk hz_; clear hz_
                    obtain ⟨v3, v4, _, _, rfl, hsz3, hr3, hr4, _⟩ := tJ_O.1 hO2
                    obtain ⟨D2, d2, rfl, _, _⟩ := R_C hr3
                    obtain ⟨D3, d3, rfl, _, _⟩ := R_C hr4
                    clear hr3 hr4
                    replace hO2 := Hd.mk (show (tJ (M' + 1 + 1)).O w7 (rng W6.heap.size w7.heap.size) b.list[k] _ from Ty.O_bound _ hO2)
                    go_wp2_with fail
                    refine ⟨cls_below hS.out, ?_⟩
                    refine mixT_b rfl ?_ (by rfl)
                    go_wp2_with fail
                    refine ⟨cls_below (below_alloc hS.out _), ?_⟩
                    refine genT ?_; intro W8 hW
                    have hE0 := Hd.mk (show str.R 9 W8 (fun k => k = w7.heap.size) (.slice (some ⟨w7.heap.size, 0, none⟩) 1 1) [b.names[k]] by rw [hW]; exact R_one' b.names[k] hsn rfl)
                    have hz_ : w7.heap.size + 1 ≤ W8.heap.size := by rw [hW]; simp
                    have hE : Below w7.heap.size w7 W8 := by rw [hW]; (repeat (first | with_reducible refine below_alloc ?_ _ | with_reducible refine below_drew ?_)); exact Below.refl _ _
                    have hB := Hd.mk (below_then hB.out hE)
                    have hBr := Hd.mk (below_then hBr.out hE)
                    replace hS := Hd.mk (below_then hS.out hE)
                    have b0 := Hd.mk (b0.out.below hE)
                    have b1 := Hd.mk (b1.out.below hE)
                    have hO2 := Hd.mk (Ty.O_below hO2.out hE)
                    clear hW hE
                    have z8 := Hd.mk hz_; clear hz_
                    refine mixT_q rfl ?_
                    go_big_quiet_want; go_big_quiet_op; go_big_quiet_on; refine wpQuiet_nil ?_
                    refine mixT_b rfl ?_ (by rfl)
                    go_wp2_with fail
                    refine ⟨cls_below (below_alloc hS.out _), ?_⟩
                    refine mixT_fin ?_
                    clear hS
                    clear rfb0_0 rfb0_1 rfb0_2 rfb0_3 rfb0_4 rfb1_0 rfb1_1 rfb1_2 rfb1_3 rfb1_4
                    clear fb0_0 fb0_1 fb0_2 fb0_3 fb0_4 fb0_z fb1_0 fb1_1 fb1_2 fb1_3 fb1_4 fb1_z
                    have fb0_0 : W8.cell? ⟨w.heap.size, 0, none⟩ = some (Value.int IntKind.i64 a.kind) := b0.out.cell 0 rfl
                    have fb0_1 : W8.cell? ⟨w.heap.size, 1, none⟩ = some (Value.int IntKind.i64 a.n) := b0.out.cell 1 rfl
                    have fb0_2 : W8.cell? ⟨w.heap.size, 2, none⟩ = some (Value.string a.s) := b0.out.cell 2 rfl
                    have fb0_3 : W8.cell? ⟨w.heap.size, 3, none⟩ = some (Value.slice A1 a.list.length c1) := b0.out.cell 3 rfl
                    have fb0_4 : W8.cell? ⟨w.heap.size, 4, none⟩ = some (Value.slice A2 a.names.length c2) := b0.out.cell 4 rfl
                    have fb0_z := b0.out.frozen
                    have fb1_0 : W8.cell? ⟨w.heap.size + 1, 0, none⟩ = some (Value.int IntKind.i64 b.kind) := b1.out.cell 0 rfl
                    have fb1_1 : W8.cell? ⟨w.heap.size + 1, 1, none⟩ = some (Value.int IntKind.i64 b.n) := b1.out.cell 1 rfl
                    have fb1_2 : W8.cell? ⟨w.heap.size + 1, 2, none⟩ = some (Value.string b.s) := b1.out.cell 2 rfl
                    have fb1_3 : W8.cell? ⟨w.heap.size + 1, 3, none⟩ = some (Value.slice (some ade) b.list.length c3) := b1.out.cell 3 rfl
                    have fb1_4 : W8.cell? ⟨w.heap.size + 1, 4, none⟩ = some (Value.slice (some ad) b.names.length c4) := b1.out.cell 4 rfl
                    have fb1_z := b1.out.frozen
                    refine tail_b rfl ?_ (by rfl)
                    have hzw_ := hzw.out; have z3_ := z3.out; have z4_ := z4.out; have z5_ := z5.out; have z6_ := z6.out; have z7_ := z7.out; have z8_ := z8.out
                    have hSz := hB.out.size
                    have hBz := hBr.out.size
                    go_wp2_with (at_builtin; refine append_oneN (tOp (M' + 1 + 1)) (n := W8.heap.size) (by simp) rfl _ _ 55 94 (.agg #[.int .i64 0, .slice none 0 0, .int .i64 0, .int .i64 0, .string ByteArray.empty, .slice none 0 0, .slice none 0 0]) 112 rfl Try.underlying55 info_OpS rfl (by rw [tOp_sz]; omega) (by decide) (S := fun k => w.heap.size + 2 ≤ k ∧ k < w4.heap.size) (T := fun k => w4.heap.size ≤ k ∧ k < W8.heap.size) (S' := (fun k => w.heap.size + 2 ≤ k)) (v := vv) (xs := diffK d a b k) ⟨1, [b.names[k]], b.list[k]⟩ [Value.int IntKind.i64 1, Value.slice (some ⟨w7.heap.size, 0, none⟩) 1 1, Value.int IntKind.i64 b.list[k].kind, Value.int IntKind.i64 b.list[k].n, Value.string b.list[k].s, Value.slice D2 b.list[k].list.length d2, Value.slice D3 b.list[k].names.length d3] rfl rfl (R_below hR.out hBr.out) (tOp_O.2 ⟨_, _, _, _, rfl, hE0.out, hO2.out, fun k h => by have h5 : k = _ := h; (try simp only); omega, fun k h => by have h5 := h.1; have h6 := h.2; (try simp only); omega, fun k h h2 => by have h5 : k = _ := h; have h6 := h2.1; have h7 := h2.2; omega⟩) (fun k h1 hl h2 => by have h5 := h1; (try simp only [rng] at h5); have h6 := h2.1; have h7 := h2.2; (try simp only at h5 h6 h7); omega) (fun k h => h.1) (fun k h => by have h5 := h; (try simp only [rng] at h5); (try simp only at h5); omega) (fun k h => by (try simp only at h); omega) (by have := diffK_len HZA.out HZB.out k hk; omega) (fun v5 w9 hv5 hX0 => ?_))
                    clear fb0_0 fb0_1 fb0_2 fb0_3 fb0_4 fb0_z fb1_0 fb1_1 fb1_2 fb1_3 fb1_4 fb1_z
                    have hX := hX0; clear hX0 hR hE0 hO2 hBr
                    have hzw_ := hzw.out; have z3_ := z3.out; have z4_ := z4.out; have z5_ := z5.out; have z6_ := z6.out; have z7_ := z7.out; have z8_ := z8.out
                    have hSz := hB.out.size
                    have b0 := Hd.mk (b0.out.fr hX (fun h => by have hlt_ := b0.out.lt; skip; (try simp only [rng] at h); (try simp only at h); omega))
                    have b1 := Hd.mk (b1.out.fr hX (fun h => by have hlt_ := b1.out.lt; skip; (try simp only [rng] at h); (try simp only at h); omega))
                    have hB := Hd.mk (below_frS hB.out hX (fun k h => by skip; (try simp only [rng] at h); (try simp only at h); omega))
                    have hz_ := hX.size
                    clear hX
                    have z9 := Hd.mk hz_; clear hz_
                    refine mixQ_n ?_
                    refine tail_b rfl ?_ (by rfl)
                    go_wp2_with fail
                    refine mixQ_n ?_
                    refine tail_nil ?_
                    go_wp2_with fail
                    go_roundw
                    case rel => exact ⟨k + 1, _, by omega, by go_num, rfl, ⟨by rw [diffK_step, diffAt_new HZB.out k hlt hkl HN.out]; exact hv5⟩, b0, b1, hB, ⟨by have hzw_ := hzw.out; have z3_ := z3.out; have z4_ := z4.out; have z5_ := z5.out; have z6_ := z6.out; have z7_ := z7.out; have z8_ := z8.out; have z9_ := z9.out; show w.heap.size + 2 ≤ w9.heap.size; omega⟩⟩
                    case measure => simp [intOf]; omega
                · obtain ⟨q, rfl⟩ := Int.eq_ofNat_of_zero_le (Int.not_lt.1 hn)
                  have hnd : decide ((q : Int) < 0) = false := decide_eq_false hn
                  have hq : q < a.list.length := by
                    have h1 := nameAt_pos a.names b.names[k]
                    have h2 := (own_facts (size_own HZA.out).1).2.1
                    have h3 := HAT.out
                    omega
                  have HSA := Hd.mk (size_part HZA.out (List.getElem_mem hq))
                  have HSB := Hd.mk (size_part HZB.out (List.getElem_mem hkl))
                  have HDO := Hd.mk (diff_ops d a.list[q] b.list[k] HSA.out HSB.out)
                  have HLN := Hd.mk (show (diffL d a.list[q] b.list[k]).length ≤ 200000 by have h1 := HDO.out.1; have h2 := HSB.out; omega)
                  have HBU := Hd.mk (show ∀ x ∈ diffL d a.list[q] b.list[k], bulkOp (M' + 1 + 1) x ≤ 4194304 from fun x hx => by have h1 := (HDO.out.2 x hx (M' + 1 + 1)).1; have h2 := HD6.out; omega)
                  clear HDO
                  obtain ⟨add, csd, hadd, hKd, e0, e1⟩ := C_at HA1.out hB.out q hq
                  obtain rfl := hadd
                  have HKd := Hd.mk ((tJ_le (Nat.le_succ (M' + 1))).K _ _ _ hKd)
                  obtain ⟨Ad, cd, Bd, fd, rfl, hsd, ⟨hc1d, _⟩, hc2d, _⟩ := tJ_K.1 hKd
                  clear hKd
                  have xd0 : w4.cell? (add.add (q * 5)) = some (Value.int IntKind.i64 a.list[q].kind) := e0 _ rfl
                  have xd1 : w4.cell? ⟨(add.add (q * 5)).block, (add.add (q * 5)).off + 1, none⟩ = some (Value.int IntKind.i64 a.list[q].n) := e1 0 _ rfl
                  have xd2 : w4.cell? ⟨(add.add (q * 5)).block, (add.add (q * 5)).off + 2, none⟩ = some (Value.string a.list[q].s) := e1 1 _ rfl
                  have xd3 : w4.cell? ⟨(add.add (q * 5)).block, (add.add (q * 5)).off + 3, none⟩ = some (Value.slice Ad a.list[q].list.length cd) := e1 2 _ rfl
                  have xd4 : w4.cell? ⟨(add.add (q * 5)).block, (add.add (q * 5)).off + 4, none⟩ = some (Value.slice Bd a.list[q].names.length fd) := e1 3 _ rfl
                  clear e0 e1
                  obtain ⟨ade, cse, hade, hKe, e0, e1⟩ := C_at HB3.out hB.out k hkl
                  obtain rfl := hade
                  have HKe := Hd.mk ((tJ_le (Nat.le_succ (M' + 1))).K _ _ _ hKe)
                  obtain ⟨Ae, ce, Be, fe, rfl, hse, ⟨hc1e, _⟩, hc2e, _⟩ := tJ_K.1 hKe
                  clear hKe
                  have xe0 : w4.cell? (ade.add (k * 5)) = some (Value.int IntKind.i64 b.list[k].kind) := e0 _ rfl
                  have xe1 : w4.cell? ⟨(ade.add (k * 5)).block, (ade.add (k * 5)).off + 1, none⟩ = some (Value.int IntKind.i64 b.list[k].n) := e1 0 _ rfl
                  have xe2 : w4.cell? ⟨(ade.add (k * 5)).block, (ade.add (k * 5)).off + 2, none⟩ = some (Value.string b.list[k].s) := e1 1 _ rfl
                  have xe3 : w4.cell? ⟨(ade.add (k * 5)).block, (ade.add (k * 5)).off + 3, none⟩ = some (Value.slice Ae b.list[k].list.length ce) := e1 2 _ rfl
                  have xe4 : w4.cell? ⟨(ade.add (k * 5)).block, (ade.add (k * 5)).off + 4, none⟩ = some (Value.slice Be b.list[k].names.length fe) := e1 3 _ rfl
                  clear e0 e1
                  replace hR := Hd.mk (show (tOp (M' + 1 + 1)).R 94 w4 (fun k => w.heap.size + 2 ≤ k ∧ k < w4.heap.size) vv _ from R_bound hR.out)
                  have hBr := Hd.mk (Below.refl w4.heap.size w4)
                  clear h3B
                  have fb0_0 : w4.cell? ⟨w.heap.size, 0, none⟩ = some (Value.int IntKind.i64 a.kind) := b0.out.cell 0 rfl
                  have fb0_1 : w4.cell? ⟨w.heap.size, 1, none⟩ = some (Value.int IntKind.i64 a.n) := b0.out.cell 1 rfl
                  have fb0_2 : w4.cell? ⟨w.heap.size, 2, none⟩ = some (Value.string a.s) := b0.out.cell 2 rfl
                  have fb0_3 : w4.cell? ⟨w.heap.size, 3, none⟩ = some (Value.slice (some add) a.list.length c1) := b0.out.cell 3 rfl
                  have fb0_4 : w4.cell? ⟨w.heap.size, 4, none⟩ = some (Value.slice A2 a.names.length c2) := b0.out.cell 4 rfl
                  have fb0_z := b0.out.frozen
                  have fb1_0 : w4.cell? ⟨w.heap.size + 1, 0, none⟩ = some (Value.int IntKind.i64 b.kind) := b1.out.cell 0 rfl
                  have fb1_1 : w4.cell? ⟨w.heap.size + 1, 1, none⟩ = some (Value.int IntKind.i64 b.n) := b1.out.cell 1 rfl
                  have fb1_2 : w4.cell? ⟨w.heap.size + 1, 2, none⟩ = some (Value.string b.s) := b1.out.cell 2 rfl
                  have fb1_3 : w4.cell? ⟨w.heap.size + 1, 3, none⟩ = some (Value.slice (some ade) b.list.length c3) := b1.out.cell 3 rfl
                  have fb1_4 : w4.cell? ⟨w.heap.size + 1, 4, none⟩ = some (Value.slice (some ad) b.names.length c4) := b1.out.cell 4 rfl
                  have fb1_z := b1.out.frozen
                  go_wp2_with fail
                  clear fb0_0 fb0_1 fb0_2 fb0_3 fb0_4 fb0_z fb1_0 fb1_1 fb1_2 fb1_3 fb1_4 fb1_z
                  have yxn := cell_regrown xn
                  have yxd0 := cell_regrown xd0
                  have yxd1 := cell_regrown xd1
                  have yxd2 := cell_regrown xd2
                  have yxd3 := cell_regrown xd3
                  have yxd4 := cell_regrown xd4
                  have yxe0 := cell_regrown xe0
                  have yxe1 := cell_regrown xe1
                  have yxe2 := cell_regrown xe2
                  have yxe3 := cell_regrown xe3
                  have yxe4 := cell_regrown xe4
                  have fb0_0 : w4.cell? ⟨w.heap.size, 0, none⟩ = some (Value.int IntKind.i64 a.kind) := b0.out.cell 0 rfl
                  have fb0_1 : w4.cell? ⟨w.heap.size, 1, none⟩ = some (Value.int IntKind.i64 a.n) := b0.out.cell 1 rfl
                  have fb0_2 : w4.cell? ⟨w.heap.size, 2, none⟩ = some (Value.string a.s) := b0.out.cell 2 rfl
                  have fb0_3 : w4.cell? ⟨w.heap.size, 3, none⟩ = some (Value.slice (some add) a.list.length c1) := b0.out.cell 3 rfl
                  have fb0_4 : w4.cell? ⟨w.heap.size, 4, none⟩ = some (Value.slice A2 a.names.length c2) := b0.out.cell 4 rfl
                  have fb0_z := b0.out.frozen
                  have fb1_0 : w4.cell? ⟨w.heap.size + 1, 0, none⟩ = some (Value.int IntKind.i64 b.kind) := b1.out.cell 0 rfl
                  have fb1_1 : w4.cell? ⟨w.heap.size + 1, 1, none⟩ = some (Value.int IntKind.i64 b.n) := b1.out.cell 1 rfl
                  have fb1_2 : w4.cell? ⟨w.heap.size + 1, 2, none⟩ = some (Value.string b.s) := b1.out.cell 2 rfl
                  have fb1_3 : w4.cell? ⟨w.heap.size + 1, 3, none⟩ = some (Value.slice (some ade) b.list.length c3) := b1.out.cell 3 rfl
                  have fb1_4 : w4.cell? ⟨w.heap.size + 1, 4, none⟩ = some (Value.slice (some ad) b.names.length c4) := b1.out.cell 4 rfl
                  have fb1_z := b1.out.frozen
                  have rfb0_0 := cell_regrown fb0_0
                  have rfb0_1 := cell_regrown fb0_1
                  have rfb0_2 := cell_regrown fb0_2
                  have rfb0_3 := cell_regrown fb0_3
                  have rfb0_4 := cell_regrown fb0_4
                  have rfb1_0 := cell_regrown fb1_0
                  have rfb1_1 := cell_regrown fb1_1
                  have rfb1_2 := cell_regrown fb1_2
                  have rfb1_3 := cell_regrown fb1_3
                  have rfb1_4 := cell_regrown fb1_4
                  refine region_mixT (.p 0 (.p 1 (.q 2 (.p 3 (.q 4 (.q 5 (.p 6 (.q 7 (.p 8 (.q 9 (.q 10 (.p 11 (.q 12 (.p 13 (.q 14 (.q 15 (.b 16 (.b 17 .fin)))))))))))))))))) [18, 19] (by kernel_rfl) (by kernel_rfl) (fun _ _ _ _ _ h => h) ?_
                  refine genT ?_
                  intro W5 hW
                  have hS := Hd.mk (show Below w4.heap.size w4 W5 by rw [hW]; exact below_drew (Below.refl _ _))
                  have hz_ : w4.heap.size ≤ W5.heap.size := by rw [hW]; simp
                  have hE : Below w4.heap.size w4 W5 := by rw [hW]; (repeat (first | with_reducible refine below_alloc ?_ _ | with_reducible refine below_drew ?_)); exact Below.refl _ _
                  have hB := Hd.mk (below_then hB.out hE)
                  have hBr := Hd.mk (below_then hBr.out hE)
                  have b0 := Hd.mk (b0.out.below hE)
                  have b1 := Hd.mk (b1.out.below hE)
                  clear hW hE
                  have z5 := Hd.mk hz_; clear hz_
                  refine mixT_p rfl ?_
                  go_big_quiet_want; go_big_quiet_op; go_big_quiet_on; refine wpQuiet_nil ?_
                  refine mixT_p rfl ?_
                  go_big_quiet_want; go_big_quiet_op; go_big_quiet_on; refine wpQuiet_nil ?_
                  refine mixT_q rfl ?_
                  go_big_quiet_want; go_big_quiet_op; go_big_quiet_on; refine wpQuiet_nil ?_
                  refine mixT_p rfl ?_
                  go_big_quiet_want; go_big_quiet_op; go_big_quiet_on; refine wpQuiet_nil ?_
                  refine mixT_q rfl ?_
                  go_big_quiet_want; go_big_quiet_op; go_big_quiet_on; refine wpQuiet_nil ?_
                  refine mixT_q rfl ?_
                  go_big_quiet_want; go_big_quiet_op; go_big_quiet_on; refine wpQuiet_nil ?_
                  refine mixT_p rfl ?_
                  go_big_quiet_want; go_big_quiet_op; go_big_quiet_on; refine wpQuiet_nil ?_
                  refine mixT_q rfl ?_
                  go_big_quiet_want; go_big_quiet_op; go_big_quiet_on; refine wpQuiet_nil ?_
                  refine mixT_p rfl ?_
                  go_big_quiet_want; go_big_quiet_op; go_big_quiet_on; refine wpQuiet_nil ?_
                  refine mixT_q rfl ?_
                  go_big_quiet_want; go_big_quiet_op; go_big_quiet_on; refine wpQuiet_nil ?_
                  refine mixT_q rfl ?_
                  go_big_quiet_want; go_big_quiet_op; go_big_quiet_on; refine wpQuiet_nil ?_
                  refine mixT_p rfl ?_
                  go_big_quiet_want; go_big_quiet_op; go_big_quiet_on; refine wpQuiet_nil ?_
                  refine mixT_q rfl ?_
                  go_big_quiet_want; go_big_quiet_op; go_big_quiet_on; refine wpQuiet_nil ?_
                  refine mixT_p rfl ?_
                  go_big_quiet_want; go_big_quiet_op; go_big_quiet_on; refine wpQuiet_nil ?_
                  refine mixT_q rfl ?_
                  go_big_quiet_want; go_big_quiet_op; go_big_quiet_on; refine wpQuiet_nil ?_
                  refine mixT_q rfl ?_
                  go_big_quiet_want; go_big_quiet_op; go_big_quiet_on; refine wpQuiet_nil ?_
                  refine mixT_b rfl ?_ (by rfl)
                  go_wp2_with fail
                  apply calls_gen; intro W6 hW
                  have hz_ : W5.heap.size ≤ W6.heap.size := by rw [hW]; simp
                  have hE : Below W5.heap.size W5 W6 := by rw [hW]; (repeat (first | with_reducible refine below_alloc ?_ _ | with_reducible refine below_drew ?_)); exact Below.refl _ _
                  have hB := Hd.mk (below_then hB.out hE)
                  have hBr := Hd.mk (below_then hBr.out hE)
                  replace hS := Hd.mk (below_then hS.out hE)
                  have b0 := Hd.mk (b0.out.below hE)
                  have b1 := Hd.mk (b1.out.below hE)
                  clear hW hE
                  have z6 := Hd.mk hz_; clear hz_
                  refine (IH.out a.list[q] b.list[k] _ _ _ (Ty.K_below _ hBr.out HKd.out) (Ty.K_below _ hBr.out HKe.out) HSA.out HSB.out).mono ?_
                  rintro e w7 ⟨v3, rfl, hD, hX⟩
                  have b0 := Hd.mk (b0.out.below hX)
                  have b1 := Hd.mk (b1.out.below hX)
                  have hB := Hd.mk (below_then hB.out hX)
                  replace hS := Hd.mk (below_then hS.out hX)
                  have hz_ := hX.size
                  have hBr := Hd.mk (below_then hBr.out hX)
                  clear hX
                  have z7 := Hd.mk hz_; clear hz_
                  obtain ⟨A5, c5, hv3, hc5, _⟩ := R_C hD
                  subst hv3
                  replace hD := Hd.mk hD
                  go_wp2_with fail
                  refine ⟨cls_below hS.out, ?_⟩
                  refine mixT_b rfl ?_ (by rfl)
                  go_wp2_with fail
                  apply calls_gen; intro W8 hW
                  have hz_ : w7.heap.size ≤ W8.heap.size := by rw [hW]; simp
                  have hE : Below w7.heap.size w7 W8 := by rw [hW]; (repeat (first | with_reducible refine below_alloc ?_ _ | with_reducible refine below_drew ?_)); exact Below.refl _ _
                  have hB := Hd.mk (below_then hB.out hE)
                  have hBr := Hd.mk (below_then hBr.out hE)
                  replace hS := Hd.mk (below_then hS.out hE)
                  have b0 := Hd.mk (b0.out.below hE)
                  have b1 := Hd.mk (b1.out.below hE)
                  have hD := Hd.mk (R_below hD.out hE)
                  clear hW hE
                  have z8 := Hd.mk hz_; clear hz_
                  refine (spec_UnderE b.names[k] hsn _ _ (diffL d a.list[q] b.list[k]) _ (R_Cv hD.out) (Nat.le_trans HLN.out (by decide)) HBU.out).mono ?_
                  rintro e w9 ⟨v4, rfl, hU, hX⟩
                  have b0 := Hd.mk (b0.out.below hX)
                  have b1 := Hd.mk (b1.out.below hX)
                  have hD := Hd.mk (R_below hD.out hX)
                  have hB := Hd.mk (below_then hB.out hX)
                  replace hS := Hd.mk (below_then hS.out hX)
                  have hz_ := hX.size
                  have hBr := Hd.mk (below_then hBr.out hX)
                  clear hX
                  have z9 := Hd.mk hz_; clear hz_
                  obtain ⟨A6, c6, hv4, hc6, _⟩ := R_C hU
                  subst hv4
                  replace hU := Hd.mk hU
                  clear hD
                  go_wp2_with fail
                  refine ⟨cls_below hS.out, ?_⟩
                  refine mixT_fin ?_
                  clear hS
                  clear rfb0_0 rfb0_1 rfb0_2 rfb0_3 rfb0_4 rfb1_0 rfb1_1 rfb1_2 rfb1_3 rfb1_4
                  clear fb0_0 fb0_1 fb0_2 fb0_3 fb0_4 fb0_z fb1_0 fb1_1 fb1_2 fb1_3 fb1_4 fb1_z
                  have fb0_0 : w9.cell? ⟨w.heap.size, 0, none⟩ = some (Value.int IntKind.i64 a.kind) := b0.out.cell 0 rfl
                  have fb0_1 : w9.cell? ⟨w.heap.size, 1, none⟩ = some (Value.int IntKind.i64 a.n) := b0.out.cell 1 rfl
                  have fb0_2 : w9.cell? ⟨w.heap.size, 2, none⟩ = some (Value.string a.s) := b0.out.cell 2 rfl
                  have fb0_3 : w9.cell? ⟨w.heap.size, 3, none⟩ = some (Value.slice (some add) a.list.length c1) := b0.out.cell 3 rfl
                  have fb0_4 : w9.cell? ⟨w.heap.size, 4, none⟩ = some (Value.slice A2 a.names.length c2) := b0.out.cell 4 rfl
                  have fb0_z := b0.out.frozen
                  have fb1_0 : w9.cell? ⟨w.heap.size + 1, 0, none⟩ = some (Value.int IntKind.i64 b.kind) := b1.out.cell 0 rfl
                  have fb1_1 : w9.cell? ⟨w.heap.size + 1, 1, none⟩ = some (Value.int IntKind.i64 b.n) := b1.out.cell 1 rfl
                  have fb1_2 : w9.cell? ⟨w.heap.size + 1, 2, none⟩ = some (Value.string b.s) := b1.out.cell 2 rfl
                  have fb1_3 : w9.cell? ⟨w.heap.size + 1, 3, none⟩ = some (Value.slice (some ade) b.list.length c3) := b1.out.cell 3 rfl
                  have fb1_4 : w9.cell? ⟨w.heap.size + 1, 4, none⟩ = some (Value.slice (some ad) b.names.length c4) := b1.out.cell 4 rfl
                  have fb1_z := b1.out.frozen
                  refine tail_b rfl ?_ (by rfl)
                  have hzw_ := hzw.out; have z3_ := z3.out; have z4_ := z4.out; have z5_ := z5.out; have z6_ := z6.out; have z7_ := z7.out; have z8_ := z8.out; have z9_ := z9.out
                  have hSz := hB.out.size
                  have hBz := hBr.out.size
                  go_wp2_with (at_builtin; refine append_move (tOp (M' + 1 + 1)) rfl _ _ 55 94 (.agg #[.int .i64 0, .slice none 0 0, .int .i64 0, .int .i64 0, .string ByteArray.empty, .slice none 0 0, .slice none 0 0]) 112 rfl Try.underlying55 info_OpS rfl (by rw [tOp_sz]; omega) (by decide) (S := fun k => w.heap.size + 2 ≤ k ∧ k < w4.heap.size) (S2 := fun k => W8.heap.size ≤ k) (S' := (fun k => w.heap.size + 2 ≤ k)) (v := vv) (xs := diffK d a b k) (ys := underL b.names[k] (diffL d a.list[q] b.list[k])) A6 _ c6 rfl rfl (R_below hR.out hBr.out) hU.out (fun k h1 hl h2 => by have h5 := h2.2; (try simp only at h1); omega) (fun k h => h.1) (fun k h => by (try simp only at h); (try simp only); omega) (fun k h => by (try simp only); omega) (by have h1 := diffK_len HZA.out HZB.out k hk; have h2 := HLN.out; rw [under_len]; omega) (fun v5 w10 hv5 hX0 => ?_))
                  clear fb0_0 fb0_1 fb0_2 fb0_3 fb0_4 fb0_z fb1_0 fb1_1 fb1_2 fb1_3 fb1_4 fb1_z
                  have hX := hX0; clear hX0 hR hU hBr
                  have hzw_ := hzw.out; have z3_ := z3.out; have z4_ := z4.out; have z5_ := z5.out; have z6_ := z6.out; have z7_ := z7.out; have z8_ := z8.out; have z9_ := z9.out
                  have hSz := hB.out.size
                  have b0 := Hd.mk (b0.out.fr hX (fun h => by have hlt_ := b0.out.lt; skip; (try simp only [rng] at h); (try simp only at h); omega))
                  have b1 := Hd.mk (b1.out.fr hX (fun h => by have hlt_ := b1.out.lt; skip; (try simp only [rng] at h); (try simp only at h); omega))
                  have hB := Hd.mk (below_frS hB.out hX (fun k h => by skip; (try simp only [rng] at h); (try simp only at h); omega))
                  have hz_ := hX.size
                  clear hX
                  have z10 := Hd.mk hz_; clear hz_
                  refine mixQ_n ?_
                  refine tail_b rfl ?_ (by rfl)
                  go_wp2_with fail
                  refine mixQ_n ?_
                  refine tail_nil ?_
                  go_wp2_with fail
                  go_roundw
                  case rel => exact ⟨k + 1, _, by omega, by go_num, rfl, ⟨by rw [diffK_step, diffAt_old HZB.out k hlt hkl q hq HAT.out.symm]; exact hv5⟩, b0, b1, hB, ⟨by have hzw_ := hzw.out; have z3_ := z3.out; have z4_ := z4.out; have z5_ := z5.out; have z6_ := z6.out; have z7_ := z7.out; have z8_ := z8.out; have z9_ := z9.out; have z10_ := z10.out; show w.heap.size + 2 ≤ w10.heap.size; omega⟩⟩
                  case measure => simp [intOf]; omega
              · obtain rfl : k = b.names.length := by omega
                have hdl : decide ((b.names.length : Int) < (b.names.length : Int)) = false := decide_eq_false (by omega)
                have fb0_0 : wr.cell? ⟨w.heap.size, 0, none⟩ = some (Value.int IntKind.i64 a.kind) := b0.out.cell 0 rfl
                have fb0_1 : wr.cell? ⟨w.heap.size, 1, none⟩ = some (Value.int IntKind.i64 a.n) := b0.out.cell 1 rfl
                have fb0_2 : wr.cell? ⟨w.heap.size, 2, none⟩ = some (Value.string a.s) := b0.out.cell 2 rfl
                have fb0_3 : wr.cell? ⟨w.heap.size, 3, none⟩ = some (Value.slice A1 a.list.length c1) := b0.out.cell 3 rfl
                have fb0_4 : wr.cell? ⟨w.heap.size, 4, none⟩ = some (Value.slice A2 a.names.length c2) := b0.out.cell 4 rfl
                have fb0_z := b0.out.frozen
                have fb1_0 : wr.cell? ⟨w.heap.size + 1, 0, none⟩ = some (Value.int IntKind.i64 b.kind) := b1.out.cell 0 rfl
                have fb1_1 : wr.cell? ⟨w.heap.size + 1, 1, none⟩ = some (Value.int IntKind.i64 b.n) := b1.out.cell 1 rfl
                have fb1_2 : wr.cell? ⟨w.heap.size + 1, 2, none⟩ = some (Value.string b.s) := b1.out.cell 2 rfl
                have fb1_3 : wr.cell? ⟨w.heap.size + 1, 3, none⟩ = some (Value.slice A3 b.list.length c3) := b1.out.cell 3 rfl
                have fb1_4 : wr.cell? ⟨w.heap.size + 1, 4, none⟩ = some (Value.slice A4 b.names.length c4) := b1.out.cell 4 rfl
                have fb1_z := b1.out.frozen
                go_wp2_with fail
                clear fb0_0 fb0_1 fb0_2 fb0_3 fb0_4 fb0_z fb1_0 fb1_1 fb1_2 fb1_3 fb1_4 fb1_z
                go_ret
                exact ⟨_, rfl, by rw [diffL_obj heq HKA5.out HKB5.out]; exact R_mono (fun k h => Nat.le_trans (Nat.le_add_right _ 2) h)  hR.out, hB.out⟩
      · have hd2 : decide (b.kind = 5) = false := decide_eq_false hkb
        have he2 : (b.kind == 5) = false := by simpa using hkb
        have hn2 : (b.kind != 5) = true := by simpa using hkb
        have fb0_0 : w2.cell? ⟨w.heap.size, 0, none⟩ = some (Value.int IntKind.i64 a.kind) := b0.out.cell 0 rfl
        have fb0_1 : w2.cell? ⟨w.heap.size, 1, none⟩ = some (Value.int IntKind.i64 a.n) := b0.out.cell 1 rfl
        have fb0_2 : w2.cell? ⟨w.heap.size, 2, none⟩ = some (Value.string a.s) := b0.out.cell 2 rfl
        have fb0_3 : w2.cell? ⟨w.heap.size, 3, none⟩ = some (Value.slice A1 a.list.length c1) := b0.out.cell 3 rfl
        have fb0_4 : w2.cell? ⟨w.heap.size, 4, none⟩ = some (Value.slice A2 a.names.length c2) := b0.out.cell 4 rfl
        have fb0_z := b0.out.frozen
        have fb1_0 : w2.cell? ⟨w.heap.size + 1, 0, none⟩ = some (Value.int IntKind.i64 b.kind) := b1.out.cell 0 rfl
        have fb1_1 : w2.cell? ⟨w.heap.size + 1, 1, none⟩ = some (Value.int IntKind.i64 b.n) := b1.out.cell 1 rfl
        have fb1_2 : w2.cell? ⟨w.heap.size + 1, 2, none⟩ = some (Value.string b.s) := b1.out.cell 2 rfl
        have fb1_3 : w2.cell? ⟨w.heap.size + 1, 3, none⟩ = some (Value.slice A3 b.list.length c3) := b1.out.cell 3 rfl
        have fb1_4 : w2.cell? ⟨w.heap.size + 1, 4, none⟩ = some (Value.slice A4 b.names.length c4) := b1.out.cell 4 rfl
        have fb1_z := b1.out.frozen
        go_wp2_with fail
        clear fb0_0 fb0_1 fb0_2 fb0_3 fb0_4 fb0_z fb1_0 fb1_1 fb1_2 fb1_3 fb1_4 fb1_z
        apply calls_gen; intro W3 hW
        have hz_ : w2.heap.size ≤ W3.heap.size := by rw [hW]; simp
        have hE : Below w2.heap.size w2 W3 := by rw [hW]; (repeat (first | with_reducible refine below_alloc ?_ _ | with_reducible refine below_drew ?_)); exact Below.refl _ _
        have hB := Hd.mk (below_then hB.out hE)
        have b0 := Hd.mk (b0.out.below hE)
        have b1 := Hd.mk (b1.out.below hE)
        have hR := Hd.mk (R_below hR.out hE)
        clear hW hE
        have z3 := Hd.mk hz_; clear hz_
        have z1_ := z1.out; have z2_ := z2.out; have z3_ := z3.out
        replace hR := Hd.mk (show (tOp (M + 1)).R 94 W3 (fun k => w.heap.size + 2 ≤ k ∧ k < W3.heap.size) _ [] from R_bound hR.out)
        refine (spec_l1Copy b _ _ (Ty.K_below _ hB.out HKb.out) (by have := hbulk.out; have := HZB.out; push_cast at *; omega)).mono ?_
        rintro e w4 ⟨cs', rfl, hO2, hX⟩
        have b0 := Hd.mk (b0.out.below hX)
        have b1 := Hd.mk (b1.out.below hX)
        have hR := Hd.mk (R_below hR.out hX)
        have hB := Hd.mk (below_then hB.out hX)
        have hz_ := hX.size
        clear hX
        have z4 := Hd.mk hz_; clear hz_
        obtain ⟨v3, v4, _, _, rfl, hsz3, hr3, hr4, _⟩ := tJ_O.1 hO2
        obtain ⟨D2, d2, rfl, _, _⟩ := R_C hr3
        obtain ⟨D3, d3, rfl, _, _⟩ := R_C hr4
        clear hr3 hr4
        replace hO2 := Hd.mk (show (tJ (M + 1)).O w4 (rng W3.heap.size w4.heap.size) b _ from Ty.O_bound _ hO2)
        have z1_ := z1.out; have z2_ := z2.out; have z3_ := z3.out; have z4_ := z4.out
        go_wp2_with (at_builtin; refine append_oneN (tOp (M + 1)) (n := w4.heap.size) (by simp) rfl _ _ 55 94 (.agg #[.int .i64 0, .slice none 0 0, .int .i64 0, .int .i64 0, .string ByteArray.empty, .slice none 0 0, .slice none 0 0]) 112 rfl Try.underlying55 info_OpS rfl (by rw [tOp_sz]; omega) (by decide) (S := fun k => w.heap.size + 2 ≤ k ∧ k < W3.heap.size) (T := rng W3.heap.size w4.heap.size) (S' := (fun k => w.heap.size + 2 ≤ k)) (v := Value.slice (some ⟨w.heap.size + 2, 0, none⟩) 0 0) (xs := []) ⟨3, [], b⟩ [Value.int IntKind.i64 3, Value.slice none 0 0, Value.int IntKind.i64 b.kind, Value.int IntKind.i64 b.n, Value.string b.s, Value.slice D2 b.list.length d2, Value.slice D3 b.names.length d3] rfl rfl hR.out (tOp_O.2 ⟨_, _, fun _ => False, _, rfl, R_nil, hO2.out, fun k h => h.elim, fun k h => h, fun k h => h.elim⟩) (fun k h1 hl h2 => by have h5 := h1; (try simp only [rng] at h5); have h6 := h2.1; have h7 := h2.2; (try simp only at h5 h6 h7); omega) (fun k h => h.1) (fun k h => by have h5 := h; (try simp only [rng] at h5); (try simp only at h5); omega) (fun k h => by (try simp only at h); omega) (by simp) (fun v5 w5 hv5 hX0 => ?_))
        have hX := hX0; clear hX0
        clear hO2 hR
        have z1_ := z1.out; have z2_ := z2.out; have z3_ := z3.out; have z4_ := z4.out
        have hSz := hB.out.size
        have b0 := Hd.mk (b0.out.fr hX (fun h => by have hlt_ := b0.out.lt; skip; (try simp only [rng] at h); (try simp only at h); omega))
        have b1 := Hd.mk (b1.out.fr hX (fun h => by have hlt_ := b1.out.lt; skip; (try simp only [rng] at h); (try simp only at h); omega))
        have hB := Hd.mk (below_frS hB.out hX (fun k h => by skip; (try simp only [rng] at h); (try simp only at h); omega))
        have hz_ := hX.size
        clear hX
        have z5 := Hd.mk hz_; clear hz_
        go_wp2_with fail
        go_ret
        exact ⟨_, rfl, by rw [diffL_kind heq (Or.inr hkb)]; exact R_mono (fun k h => Nat.le_trans (Nat.le_add_right _ 2) h)  hv5, hB.out⟩
    · have hd1 : decide (a.kind = 5) = false := decide_eq_false hka
      have he1 : (a.kind == 5) = false := by simpa using hka
      have hn1 : (a.kind != 5) = true := by simpa using hka
      have fb0_0 : w2.cell? ⟨w.heap.size, 0, none⟩ = some (Value.int IntKind.i64 a.kind) := b0.out.cell 0 rfl
      have fb0_1 : w2.cell? ⟨w.heap.size, 1, none⟩ = some (Value.int IntKind.i64 a.n) := b0.out.cell 1 rfl
      have fb0_2 : w2.cell? ⟨w.heap.size, 2, none⟩ = some (Value.string a.s) := b0.out.cell 2 rfl
      have fb0_3 : w2.cell? ⟨w.heap.size, 3, none⟩ = some (Value.slice A1 a.list.length c1) := b0.out.cell 3 rfl
      have fb0_4 : w2.cell? ⟨w.heap.size, 4, none⟩ = some (Value.slice A2 a.names.length c2) := b0.out.cell 4 rfl
      have fb0_z := b0.out.frozen
      have fb1_0 : w2.cell? ⟨w.heap.size + 1, 0, none⟩ = some (Value.int IntKind.i64 b.kind) := b1.out.cell 0 rfl
      have fb1_1 : w2.cell? ⟨w.heap.size + 1, 1, none⟩ = some (Value.int IntKind.i64 b.n) := b1.out.cell 1 rfl
      have fb1_2 : w2.cell? ⟨w.heap.size + 1, 2, none⟩ = some (Value.string b.s) := b1.out.cell 2 rfl
      have fb1_3 : w2.cell? ⟨w.heap.size + 1, 3, none⟩ = some (Value.slice A3 b.list.length c3) := b1.out.cell 3 rfl
      have fb1_4 : w2.cell? ⟨w.heap.size + 1, 4, none⟩ = some (Value.slice A4 b.names.length c4) := b1.out.cell 4 rfl
      have fb1_z := b1.out.frozen
      go_wp2_with fail
      clear fb0_0 fb0_1 fb0_2 fb0_3 fb0_4 fb0_z fb1_0 fb1_1 fb1_2 fb1_3 fb1_4 fb1_z
      apply calls_gen; intro W3 hW
      have hz_ : w2.heap.size ≤ W3.heap.size := by rw [hW]; simp
      have hE : Below w2.heap.size w2 W3 := by rw [hW]; (repeat (first | with_reducible refine below_alloc ?_ _ | with_reducible refine below_drew ?_)); exact Below.refl _ _
      have hB := Hd.mk (below_then hB.out hE)
      have b0 := Hd.mk (b0.out.below hE)
      have b1 := Hd.mk (b1.out.below hE)
      have hR := Hd.mk (R_below hR.out hE)
      clear hW hE
      have z3 := Hd.mk hz_; clear hz_
      have z1_ := z1.out; have z2_ := z2.out; have z3_ := z3.out
      replace hR := Hd.mk (show (tOp (M + 1)).R 94 W3 (fun k => w.heap.size + 2 ≤ k ∧ k < W3.heap.size) _ [] from R_bound hR.out)
      refine (spec_l1Copy b _ _ (Ty.K_below _ hB.out HKb.out) (by have := hbulk.out; have := HZB.out; push_cast at *; omega)).mono ?_
      rintro e w4 ⟨cs', rfl, hO2, hX⟩
      have b0 := Hd.mk (b0.out.below hX)
      have b1 := Hd.mk (b1.out.below hX)
      have hR := Hd.mk (R_below hR.out hX)
      have hB := Hd.mk (below_then hB.out hX)
      have hz_ := hX.size
      clear hX
      have z4 := Hd.mk hz_; clear hz_
      obtain ⟨v3, v4, _, _, rfl, hsz3, hr3, hr4, _⟩ := tJ_O.1 hO2
      obtain ⟨D2, d2, rfl, _, _⟩ := R_C hr3
      obtain ⟨D3, d3, rfl, _, _⟩ := R_C hr4
      clear hr3 hr4
      replace hO2 := Hd.mk (show (tJ (M + 1)).O w4 (rng W3.heap.size w4.heap.size) b _ from Ty.O_bound _ hO2)
      have z1_ := z1.out; have z2_ := z2.out; have z3_ := z3.out; have z4_ := z4.out
      go_wp2_with (at_builtin; refine append_oneN (tOp (M + 1)) (n := w4.heap.size) (by simp) rfl _ _ 55 94 (.agg #[.int .i64 0, .slice none 0 0, .int .i64 0, .int .i64 0, .string ByteArray.empty, .slice none 0 0, .slice none 0 0]) 112 rfl Try.underlying55 info_OpS rfl (by rw [tOp_sz]; omega) (by decide) (S := fun k => w.heap.size + 2 ≤ k ∧ k < W3.heap.size) (T := rng W3.heap.size w4.heap.size) (S' := (fun k => w.heap.size + 2 ≤ k)) (v := Value.slice (some ⟨w.heap.size + 2, 0, none⟩) 0 0) (xs := []) ⟨3, [], b⟩ [Value.int IntKind.i64 3, Value.slice none 0 0, Value.int IntKind.i64 b.kind, Value.int IntKind.i64 b.n, Value.string b.s, Value.slice D2 b.list.length d2, Value.slice D3 b.names.length d3] rfl rfl hR.out (tOp_O.2 ⟨_, _, fun _ => False, _, rfl, R_nil, hO2.out, fun k h => h.elim, fun k h => h, fun k h => h.elim⟩) (fun k h1 hl h2 => by have h5 := h1; (try simp only [rng] at h5); have h6 := h2.1; have h7 := h2.2; (try simp only at h5 h6 h7); omega) (fun k h => h.1) (fun k h => by have h5 := h; (try simp only [rng] at h5); (try simp only at h5); omega) (fun k h => by (try simp only at h); omega) (by simp) (fun v5 w5 hv5 hX0 => ?_))
      have hX := hX0; clear hX0
      clear hO2 hR
      have z1_ := z1.out; have z2_ := z2.out; have z3_ := z3.out; have z4_ := z4.out
      have hSz := hB.out.size
      have b0 := Hd.mk (b0.out.fr hX (fun h => by have hlt_ := b0.out.lt; skip; (try simp only [rng] at h); (try simp only at h); omega))
      have b1 := Hd.mk (b1.out.fr hX (fun h => by have hlt_ := b1.out.lt; skip; (try simp only [rng] at h); (try simp only at h); omega))
      have hB := Hd.mk (below_frS hB.out hX (fun k h => by skip; (try simp only [rng] at h); (try simp only at h); omega))
      have hz_ := hX.size
      clear hX
      have z5 := Hd.mk hz_; clear hz_
      go_wp2_with fail
      go_ret
      exact ⟨_, rfl, by rw [diffL_kind heq (Or.inl hka)]; exact R_mono (fun k h => Nat.le_trans (Nat.le_add_right _ 2) h)  hv5, hB.out⟩
  · have fb0_0 : w2.cell? ⟨w.heap.size, 0, none⟩ = some (Value.int IntKind.i64 a.kind) := b0.out.cell 0 rfl
    have fb0_1 : w2.cell? ⟨w.heap.size, 1, none⟩ = some (Value.int IntKind.i64 a.n) := b0.out.cell 1 rfl
    have fb0_2 : w2.cell? ⟨w.heap.size, 2, none⟩ = some (Value.string a.s) := b0.out.cell 2 rfl
    have fb0_3 : w2.cell? ⟨w.heap.size, 3, none⟩ = some (Value.slice A1 a.list.length c1) := b0.out.cell 3 rfl
    have fb0_4 : w2.cell? ⟨w.heap.size, 4, none⟩ = some (Value.slice A2 a.names.length c2) := b0.out.cell 4 rfl
    have fb0_z := b0.out.frozen
    have fb1_0 : w2.cell? ⟨w.heap.size + 1, 0, none⟩ = some (Value.int IntKind.i64 b.kind) := b1.out.cell 0 rfl
    have fb1_1 : w2.cell? ⟨w.heap.size + 1, 1, none⟩ = some (Value.int IntKind.i64 b.n) := b1.out.cell 1 rfl
    have fb1_2 : w2.cell? ⟨w.heap.size + 1, 2, none⟩ = some (Value.string b.s) := b1.out.cell 2 rfl
    have fb1_3 : w2.cell? ⟨w.heap.size + 1, 3, none⟩ = some (Value.slice A3 b.list.length c3) := b1.out.cell 3 rfl
    have fb1_4 : w2.cell? ⟨w.heap.size + 1, 4, none⟩ = some (Value.slice A4 b.names.length c4) := b1.out.cell 4 rfl
    have fb1_z := b1.out.frozen
    go_wp2_with fail
    clear fb0_0 fb0_1 fb0_2 fb0_3 fb0_4 fb0_z fb1_0 fb1_1 fb1_2 fb1_3 fb1_4 fb1_z
    go_ret
    exact ⟨_, rfl, by rw [diffL_same heq]; exact R_mono (fun k h => Nat.le_trans (Nat.le_add_right _ 2) h)  hR.out, hB.out⟩
theorem spec_l5Diff_all (M : Nat) : ∀ d, d ≤ 6 → DiffS M d
  | 0, _ => fun a b cs cs2 w _ _ h _ => by simp [sizeN] at h
  | d + 1, h => spec_l5Diff_of (by omega) (spec_l5Diff_all M d (by omega))
set_option maxHeartbeats 8000000 in
set_option maxRecDepth 100000 in
theorem spec_Diff {M : Nat} (a b : J) (cs cs2 : List Value) (w : World) (hk : (tJ (M + 1)).K w a cs) (hk2 : (tJ (M + 1)).K w b cs2) :
    Calls Try.prog 23 #[.agg cs.toArray, .agg cs2.toArray] w fun e w' => ∃ v, e = .returned v ∧ (tOp (M + 1)).R 94 w' (fun k => w.heap.size ≤ k) v (diffT a b) ∧ Below w.heap.size w w' := by
  cases hja : jsonOk a
  · have HOK := Hd.mk (show diffT a b = [] by unfold diffT; rw [hja]; rfl)
    have HKa := Hd.mk hk; have HKb := Hd.mk hk2
    obtain ⟨A1, c1, A2, c2, rfl, hsa, ⟨hc1, hr1⟩, hc2, hr2⟩ := tJ_K.1 hk
    obtain ⟨A3, c3, A4, c4, rfl, hsb, ⟨hc3, hr3⟩, hc4, hr4⟩ := tJ_K.1 hk2
    clear hr1 hr2 hr3 hr4 hk hk2
    have hB := Hd.mk (Below.refl w.heap.size w)
    go_enter Try.func23, Try.ntmps23
    go_wp2_with fail
    apply calls_gen; intro W1 hW
    have hz_ : w.heap.size + 2 ≤ W1.heap.size := by rw [hW]; simp
    have hE : Below w.heap.size w W1 := by rw [hW]; (repeat (first | with_reducible refine below_alloc ?_ _ | with_reducible refine below_drew ?_)); exact Below.refl _ _
    have hB := Hd.mk (below_then hB.out hE)
    have b0 := Hd.mk (show Blk W1 (w.heap.size) #[Value.int IntKind.i64 a.kind, Value.int IntKind.i64 a.n, Value.string a.s, Value.slice A1 a.list.length c1, Value.slice A2 a.names.length c2] 59 by rw [hW]; first | exact ((Blk.new _ _ _).alloc _) | (simpa using ((Blk.new _ _ _).alloc _)))
    have b1 := Hd.mk (show Blk W1 (w.heap.size + 1) #[Value.int IntKind.i64 b.kind, Value.int IntKind.i64 b.n, Value.string b.s, Value.slice A3 b.list.length c3, Value.slice A4 b.names.length c4] 59 by rw [hW]; first | exact (Blk.new1 _ _ _ _) | (simpa using (Blk.new1 _ _ _ _)))
    clear hW hE
    have z1 := Hd.mk hz_; clear hz_
    refine (spec_JsonOk a _ _ (Ty.K_below _ hB.out HKa.out)).mono ?_
    rintro e w2 ⟨rfl, hX⟩
    have b0 := Hd.mk (b0.out.below hX)
    have b1 := Hd.mk (b1.out.below hX)
    have hB := Hd.mk (below_then hB.out hX)
    have hz_ := hX.size
    clear hX
    have z2 := Hd.mk hz_; clear hz_
    rw [hja]
    have fb0_0 : w2.cell? ⟨w.heap.size, 0, none⟩ = some (Value.int IntKind.i64 a.kind) := b0.out.cell 0 rfl
    have fb0_1 : w2.cell? ⟨w.heap.size, 1, none⟩ = some (Value.int IntKind.i64 a.n) := b0.out.cell 1 rfl
    have fb0_2 : w2.cell? ⟨w.heap.size, 2, none⟩ = some (Value.string a.s) := b0.out.cell 2 rfl
    have fb0_3 : w2.cell? ⟨w.heap.size, 3, none⟩ = some (Value.slice A1 a.list.length c1) := b0.out.cell 3 rfl
    have fb0_4 : w2.cell? ⟨w.heap.size, 4, none⟩ = some (Value.slice A2 a.names.length c2) := b0.out.cell 4 rfl
    have fb0_z := b0.out.frozen
    have fb1_0 : w2.cell? ⟨w.heap.size + 1, 0, none⟩ = some (Value.int IntKind.i64 b.kind) := b1.out.cell 0 rfl
    have fb1_1 : w2.cell? ⟨w.heap.size + 1, 1, none⟩ = some (Value.int IntKind.i64 b.n) := b1.out.cell 1 rfl
    have fb1_2 : w2.cell? ⟨w.heap.size + 1, 2, none⟩ = some (Value.string b.s) := b1.out.cell 2 rfl
    have fb1_3 : w2.cell? ⟨w.heap.size + 1, 3, none⟩ = some (Value.slice A3 b.list.length c3) := b1.out.cell 3 rfl
    have fb1_4 : w2.cell? ⟨w.heap.size + 1, 4, none⟩ = some (Value.slice A4 b.names.length c4) := b1.out.cell 4 rfl
    have fb1_z := b1.out.frozen
    go_wp2_with fail
    go_ret
    exact ⟨_, rfl, by rw [HOK.out]; exact R_mono (fun k h => by have := hB.out.size; (try simp only at h); omega) (R_empty (tOp (M + 1)) 94 _), below_alloc hB.out _⟩
  cases hjb : jsonOk b
  · have HOK := Hd.mk (show diffT a b = [] by unfold diffT; rw [hja, hjb]; rfl)
    have HKa := Hd.mk hk; have HKb := Hd.mk hk2
    obtain ⟨A1, c1, A2, c2, rfl, hsa, ⟨hc1, hr1⟩, hc2, hr2⟩ := tJ_K.1 hk
    obtain ⟨A3, c3, A4, c4, rfl, hsb, ⟨hc3, hr3⟩, hc4, hr4⟩ := tJ_K.1 hk2
    clear hr1 hr2 hr3 hr4 hk hk2
    have hB := Hd.mk (Below.refl w.heap.size w)
    go_enter Try.func23, Try.ntmps23
    go_wp2_with fail
    apply calls_gen; intro W1 hW
    have hz_ : w.heap.size + 2 ≤ W1.heap.size := by rw [hW]; simp
    have hE : Below w.heap.size w W1 := by rw [hW]; (repeat (first | with_reducible refine below_alloc ?_ _ | with_reducible refine below_drew ?_)); exact Below.refl _ _
    have hB := Hd.mk (below_then hB.out hE)
    have b0 := Hd.mk (show Blk W1 (w.heap.size) #[Value.int IntKind.i64 a.kind, Value.int IntKind.i64 a.n, Value.string a.s, Value.slice A1 a.list.length c1, Value.slice A2 a.names.length c2] 59 by rw [hW]; first | exact ((Blk.new _ _ _).alloc _) | (simpa using ((Blk.new _ _ _).alloc _)))
    have b1 := Hd.mk (show Blk W1 (w.heap.size + 1) #[Value.int IntKind.i64 b.kind, Value.int IntKind.i64 b.n, Value.string b.s, Value.slice A3 b.list.length c3, Value.slice A4 b.names.length c4] 59 by rw [hW]; first | exact (Blk.new1 _ _ _ _) | (simpa using (Blk.new1 _ _ _ _)))
    clear hW hE
    have z1 := Hd.mk hz_; clear hz_
    refine (spec_JsonOk a _ _ (Ty.K_below _ hB.out HKa.out)).mono ?_
    rintro e w2 ⟨rfl, hX⟩
    have b0 := Hd.mk (b0.out.below hX)
    have b1 := Hd.mk (b1.out.below hX)
    have hB := Hd.mk (below_then hB.out hX)
    have hz_ := hX.size
    clear hX
    have z2 := Hd.mk hz_; clear hz_
    rw [hja]
    have fb0_0 : w2.cell? ⟨w.heap.size, 0, none⟩ = some (Value.int IntKind.i64 a.kind) := b0.out.cell 0 rfl
    have fb0_1 : w2.cell? ⟨w.heap.size, 1, none⟩ = some (Value.int IntKind.i64 a.n) := b0.out.cell 1 rfl
    have fb0_2 : w2.cell? ⟨w.heap.size, 2, none⟩ = some (Value.string a.s) := b0.out.cell 2 rfl
    have fb0_3 : w2.cell? ⟨w.heap.size, 3, none⟩ = some (Value.slice A1 a.list.length c1) := b0.out.cell 3 rfl
    have fb0_4 : w2.cell? ⟨w.heap.size, 4, none⟩ = some (Value.slice A2 a.names.length c2) := b0.out.cell 4 rfl
    have fb0_z := b0.out.frozen
    have fb1_0 : w2.cell? ⟨w.heap.size + 1, 0, none⟩ = some (Value.int IntKind.i64 b.kind) := b1.out.cell 0 rfl
    have fb1_1 : w2.cell? ⟨w.heap.size + 1, 1, none⟩ = some (Value.int IntKind.i64 b.n) := b1.out.cell 1 rfl
    have fb1_2 : w2.cell? ⟨w.heap.size + 1, 2, none⟩ = some (Value.string b.s) := b1.out.cell 2 rfl
    have fb1_3 : w2.cell? ⟨w.heap.size + 1, 3, none⟩ = some (Value.slice A3 b.list.length c3) := b1.out.cell 3 rfl
    have fb1_4 : w2.cell? ⟨w.heap.size + 1, 4, none⟩ = some (Value.slice A4 b.names.length c4) := b1.out.cell 4 rfl
    have fb1_z := b1.out.frozen
    go_wp2_with fail
    clear fb0_0 fb0_1 fb0_2 fb0_3 fb0_4 fb0_z fb1_0 fb1_1 fb1_2 fb1_3 fb1_4 fb1_z
    apply calls_gen; intro W3 hW
    have hz_ : w2.heap.size ≤ W3.heap.size := by rw [hW]; simp
    have hE : Below w2.heap.size w2 W3 := by rw [hW]; (repeat (first | with_reducible refine below_alloc ?_ _ | with_reducible refine below_drew ?_)); exact Below.refl _ _
    have hB := Hd.mk (below_then hB.out hE)
    have b0 := Hd.mk (b0.out.below hE)
    have b1 := Hd.mk (b1.out.below hE)
    clear hW hE
    have z3 := Hd.mk hz_; clear hz_
    refine (spec_JsonOk b _ _ (Ty.K_below _ hB.out HKb.out)).mono ?_
    rintro e w4 ⟨rfl, hX⟩
    have b0 := Hd.mk (b0.out.below hX)
    have b1 := Hd.mk (b1.out.below hX)
    have hB := Hd.mk (below_then hB.out hX)
    have hz_ := hX.size
    clear hX
    have z4 := Hd.mk hz_; clear hz_
    rw [hjb]
    have fb0_0 : w4.cell? ⟨w.heap.size, 0, none⟩ = some (Value.int IntKind.i64 a.kind) := b0.out.cell 0 rfl
    have fb0_1 : w4.cell? ⟨w.heap.size, 1, none⟩ = some (Value.int IntKind.i64 a.n) := b0.out.cell 1 rfl
    have fb0_2 : w4.cell? ⟨w.heap.size, 2, none⟩ = some (Value.string a.s) := b0.out.cell 2 rfl
    have fb0_3 : w4.cell? ⟨w.heap.size, 3, none⟩ = some (Value.slice A1 a.list.length c1) := b0.out.cell 3 rfl
    have fb0_4 : w4.cell? ⟨w.heap.size, 4, none⟩ = some (Value.slice A2 a.names.length c2) := b0.out.cell 4 rfl
    have fb0_z := b0.out.frozen
    have fb1_0 : w4.cell? ⟨w.heap.size + 1, 0, none⟩ = some (Value.int IntKind.i64 b.kind) := b1.out.cell 0 rfl
    have fb1_1 : w4.cell? ⟨w.heap.size + 1, 1, none⟩ = some (Value.int IntKind.i64 b.n) := b1.out.cell 1 rfl
    have fb1_2 : w4.cell? ⟨w.heap.size + 1, 2, none⟩ = some (Value.string b.s) := b1.out.cell 2 rfl
    have fb1_3 : w4.cell? ⟨w.heap.size + 1, 3, none⟩ = some (Value.slice A3 b.list.length c3) := b1.out.cell 3 rfl
    have fb1_4 : w4.cell? ⟨w.heap.size + 1, 4, none⟩ = some (Value.slice A4 b.names.length c4) := b1.out.cell 4 rfl
    have fb1_z := b1.out.frozen
    go_wp2_with fail
    go_ret
    exact ⟨_, rfl, by rw [HOK.out]; exact R_mono (fun k h => by have := hB.out.size; (try simp only at h); omega) (R_empty (tOp (M + 1)) 94 _), below_alloc hB.out _⟩
  · have HOK := Hd.mk (show diffT a b = diffL 6 a b by unfold diffT; rw [hja, hjb]; rfl)
    have HKa := Hd.mk hk; have HKb := Hd.mk hk2
    obtain ⟨A1, c1, A2, c2, rfl, hsa, ⟨hc1, hr1⟩, hc2, hr2⟩ := tJ_K.1 hk
    obtain ⟨A3, c3, A4, c4, rfl, hsb, ⟨hc3, hr3⟩, hc4, hr4⟩ := tJ_K.1 hk2
    clear hr1 hr2 hr3 hr4 hk hk2
    have hB := Hd.mk (Below.refl w.heap.size w)
    go_enter Try.func23, Try.ntmps23
    go_wp2_with fail
    apply calls_gen; intro W1 hW
    have hz_ : w.heap.size + 2 ≤ W1.heap.size := by rw [hW]; simp
    have hE : Below w.heap.size w W1 := by rw [hW]; (repeat (first | with_reducible refine below_alloc ?_ _ | with_reducible refine below_drew ?_)); exact Below.refl _ _
    have hB := Hd.mk (below_then hB.out hE)
    have b0 := Hd.mk (show Blk W1 (w.heap.size) #[Value.int IntKind.i64 a.kind, Value.int IntKind.i64 a.n, Value.string a.s, Value.slice A1 a.list.length c1, Value.slice A2 a.names.length c2] 59 by rw [hW]; first | exact ((Blk.new _ _ _).alloc _) | (simpa using ((Blk.new _ _ _).alloc _)))
    have b1 := Hd.mk (show Blk W1 (w.heap.size + 1) #[Value.int IntKind.i64 b.kind, Value.int IntKind.i64 b.n, Value.string b.s, Value.slice A3 b.list.length c3, Value.slice A4 b.names.length c4] 59 by rw [hW]; first | exact (Blk.new1 _ _ _ _) | (simpa using (Blk.new1 _ _ _ _)))
    clear hW hE
    have z1 := Hd.mk hz_; clear hz_
    refine (spec_JsonOk a _ _ (Ty.K_below _ hB.out HKa.out)).mono ?_
    rintro e w2 ⟨rfl, hX⟩
    have b0 := Hd.mk (b0.out.below hX)
    have b1 := Hd.mk (b1.out.below hX)
    have hB := Hd.mk (below_then hB.out hX)
    have hz_ := hX.size
    clear hX
    have z2 := Hd.mk hz_; clear hz_
    rw [hja]
    have fb0_0 : w2.cell? ⟨w.heap.size, 0, none⟩ = some (Value.int IntKind.i64 a.kind) := b0.out.cell 0 rfl
    have fb0_1 : w2.cell? ⟨w.heap.size, 1, none⟩ = some (Value.int IntKind.i64 a.n) := b0.out.cell 1 rfl
    have fb0_2 : w2.cell? ⟨w.heap.size, 2, none⟩ = some (Value.string a.s) := b0.out.cell 2 rfl
    have fb0_3 : w2.cell? ⟨w.heap.size, 3, none⟩ = some (Value.slice A1 a.list.length c1) := b0.out.cell 3 rfl
    have fb0_4 : w2.cell? ⟨w.heap.size, 4, none⟩ = some (Value.slice A2 a.names.length c2) := b0.out.cell 4 rfl
    have fb0_z := b0.out.frozen
    have fb1_0 : w2.cell? ⟨w.heap.size + 1, 0, none⟩ = some (Value.int IntKind.i64 b.kind) := b1.out.cell 0 rfl
    have fb1_1 : w2.cell? ⟨w.heap.size + 1, 1, none⟩ = some (Value.int IntKind.i64 b.n) := b1.out.cell 1 rfl
    have fb1_2 : w2.cell? ⟨w.heap.size + 1, 2, none⟩ = some (Value.string b.s) := b1.out.cell 2 rfl
    have fb1_3 : w2.cell? ⟨w.heap.size + 1, 3, none⟩ = some (Value.slice A3 b.list.length c3) := b1.out.cell 3 rfl
    have fb1_4 : w2.cell? ⟨w.heap.size + 1, 4, none⟩ = some (Value.slice A4 b.names.length c4) := b1.out.cell 4 rfl
    have fb1_z := b1.out.frozen
    go_wp2_with fail
    clear fb0_0 fb0_1 fb0_2 fb0_3 fb0_4 fb0_z fb1_0 fb1_1 fb1_2 fb1_3 fb1_4 fb1_z
    apply calls_gen; intro W3 hW
    have hz_ : w2.heap.size ≤ W3.heap.size := by rw [hW]; simp
    have hE : Below w2.heap.size w2 W3 := by rw [hW]; (repeat (first | with_reducible refine below_alloc ?_ _ | with_reducible refine below_drew ?_)); exact Below.refl _ _
    have hB := Hd.mk (below_then hB.out hE)
    have b0 := Hd.mk (b0.out.below hE)
    have b1 := Hd.mk (b1.out.below hE)
    clear hW hE
    have z3 := Hd.mk hz_; clear hz_
    refine (spec_JsonOk b _ _ (Ty.K_below _ hB.out HKb.out)).mono ?_
    rintro e w4 ⟨rfl, hX⟩
    have b0 := Hd.mk (b0.out.below hX)
    have b1 := Hd.mk (b1.out.below hX)
    have hB := Hd.mk (below_then hB.out hX)
    have hz_ := hX.size
    clear hX
    have z4 := Hd.mk hz_; clear hz_
    rw [hjb]
    have fb0_0 : w4.cell? ⟨w.heap.size, 0, none⟩ = some (Value.int IntKind.i64 a.kind) := b0.out.cell 0 rfl
    have fb0_1 : w4.cell? ⟨w.heap.size, 1, none⟩ = some (Value.int IntKind.i64 a.n) := b0.out.cell 1 rfl
    have fb0_2 : w4.cell? ⟨w.heap.size, 2, none⟩ = some (Value.string a.s) := b0.out.cell 2 rfl
    have fb0_3 : w4.cell? ⟨w.heap.size, 3, none⟩ = some (Value.slice A1 a.list.length c1) := b0.out.cell 3 rfl
    have fb0_4 : w4.cell? ⟨w.heap.size, 4, none⟩ = some (Value.slice A2 a.names.length c2) := b0.out.cell 4 rfl
    have fb0_z := b0.out.frozen
    have fb1_0 : w4.cell? ⟨w.heap.size + 1, 0, none⟩ = some (Value.int IntKind.i64 b.kind) := b1.out.cell 0 rfl
    have fb1_1 : w4.cell? ⟨w.heap.size + 1, 1, none⟩ = some (Value.int IntKind.i64 b.n) := b1.out.cell 1 rfl
    have fb1_2 : w4.cell? ⟨w.heap.size + 1, 2, none⟩ = some (Value.string b.s) := b1.out.cell 2 rfl
    have fb1_3 : w4.cell? ⟨w.heap.size + 1, 3, none⟩ = some (Value.slice A3 b.list.length c3) := b1.out.cell 3 rfl
    have fb1_4 : w4.cell? ⟨w.heap.size + 1, 4, none⟩ = some (Value.slice A4 b.names.length c4) := b1.out.cell 4 rfl
    have fb1_z := b1.out.frozen
    go_wp2_with fail
    clear fb0_0 fb0_1 fb0_2 fb0_3 fb0_4 fb0_z fb1_0 fb1_1 fb1_2 fb1_3 fb1_4 fb1_z
    apply calls_gen; intro W5 hW
    have hz_ : w4.heap.size ≤ W5.heap.size := by rw [hW]; simp
    have hE : Below w4.heap.size w4 W5 := by rw [hW]; (repeat (first | with_reducible refine below_alloc ?_ _ | with_reducible refine below_drew ?_)); exact Below.refl _ _
    have hB := Hd.mk (below_then hB.out hE)
    have b0 := Hd.mk (b0.out.below hE)
    have b1 := Hd.mk (b1.out.below hE)
    clear hW hE
    have z5 := Hd.mk hz_; clear hz_
    have hBs := hB.out.size
    refine (spec_l5Diff_all M 6 (Nat.le_refl _) a b _ _ _ (Ty.K_below _ hB.out HKa.out) (Ty.K_below _ hB.out HKb.out) (of_decide_eq_true hja) (of_decide_eq_true hjb)).mono ?_
    rintro e w6 ⟨v, rfl, hv, hX⟩
    have b0 := Hd.mk (b0.out.below hX)
    have b1 := Hd.mk (b1.out.below hX)
    have hB := Hd.mk (below_then hB.out hX)
    have hz_ := hX.size
    clear hX
    have z6 := Hd.mk hz_; clear hz_
    go_wp2_with fail
    go_ret
    exact ⟨_, rfl, by rw [HOK.out]; exact R_mono (fun k h => Nat.le_trans hBs h) hv, hB.out⟩
end Go.Proofs.Ytnpogfhfjofbmaa.X
