/- What is proved here: contracts of copies of texts and values. Conditions: none. -/
import Derived.Test.YtlkjpnlpankhpaaXR
import Derived.Test.YtlkjpnlpankhpaaXS
import Derived.Test.YtlkjpnlpankhpaaXU
namespace Go.Proofs.Ytlkjpnlpankhpaa.X
open Go.RowKit Go.Sort
set_option linter.unusedVariables false
set_option linter.unusedSimpArgs false
open Ty
section
variable {P : Program} {ops : Array Oper} {rest : List Oper} {o : Oper} {a : Act} {Q : Exit → Act → World → Prop}
/-- append(v, ys...), ys strings that are read. -/
theorem append_str {W : World} (hgd : o.guard = none) (s x : Operand) (t e : TypeId) (z : Value) (bytes : Nat)
    (ho : o.op = .call { callee := .builtin .append, args := #[s, x], argTypes := #[t, t] })
    (ht : P.underlying t = some (.slice e)) (hinfo : (P.info? e).map (fun i => (i.zero, i.size, i.bytes)) = some (some z, 1, bytes)) (hz : z.cells.size = 1) (hb0 : 0 < bytes)
    {S S' : Nat → Prop} {v : Value} {xs ys : List ByteArray} {A : Option Addr} {c : Nat}
    (hs : a.eval s = v) (hx : a.eval x = .slice A ys.length c) (HR : str.R e W S v xs) (HC : str.C W A ys)
    (hS : ∀ k, S k → S' k) (hnew : ∀ k, W.heap.size ≤ k → S' k) (hbytes : (xs.length + ys.length) * bytes ≤ 140737488355328)
    (h : ∀ v1 w1, str.R e w1 S' v1 (xs ++ ys) → Fr W w1 S → wpList P ops Q rest (a.put o.dst v1) w1) :
    wpList P ops Q (o :: rest) a W := by
  refine append_gen str (S := S) (S' := S') (v := v) (xs := xs) (ys := ys) hgd s x t e z bytes ho ht hinfo hz (Nat.le_refl 1) hb0 (fun i k => False) A ys.length c (ys.map Value.string) hs hx HR rfl (by simp [str]) (fun j u hu => ?_) (fun u hu => ?_) (fun i y hi => ?_)
    (fun i j k h1 h2 => h1.elim) (fun i k hk => hk.elim) hS (fun i k hk => hk.elim) hnew hbytes h
  · rw [List.getElem?_map] at hu
    obtain ⟨y, hy, rfl⟩ := Option.map_eq_some_iff.1 hu
    obtain ⟨ad, cs, e1, hk, hc⟩ := HC.2 j y hy
    refine ⟨ad, e1, ?_⟩
    have := hc 0 (.string y) (by rw [hk.1]; rfl)
    simpa [str] using this
  · obtain ⟨y, _, rfl⟩ := List.mem_map.1 hu
    rfl
  · have hil := (List.getElem?_eq_some_iff.1 hi).1
    obtain ⟨ad, cs, e1, hk, hc⟩ := HC.2 i y hi
    refine ⟨?_, hk.2⟩
    show ((ys.map Value.string).drop (i * 1)).take 1 = [.string y]
    rw [Nat.mul_one, ← List.map_drop, ← List.map_take, List.drop_eq_getElem_cons hil]
    simp [(List.getElem?_eq_some_iff.1 hi).2]
end
theorem below_frS {w w1 w2 : World} {S : Nat → Prop} (h : Below w.heap.size w w1) (hf : Fr w1 w2 S) (hs : ∀ k, S k → w.heap.size ≤ k) : Below w.heap.size w w2 :=
  ((Fr.of_below h S).trans hf).below hs
def CopyL (m : Nat) : Prop := ∀ (x : J) (cs : List Value) (w : World), (tJ m).K w x cs → bulkJ m x ≤ 4194304 →
  Calls Try.prog 47 #[.agg cs.toArray] w fun e w' => ∃ cs', e = .returned (.agg cs'.toArray) ∧ (tJ m).O w' (fun k => w.heap.size ≤ k) x cs' ∧ Below w.heap.size w w'
set_option maxHeartbeats 4000000 in
set_option maxRecDepth 100000 in
theorem spec_l1Copy_of {m : Nat} (ih : CopyL m) : CopyL (m + 1) := by
  intro x cs w hk hl
  obtain ⟨A1, c1, A2, c2, rfl, hs, ⟨hc1, hr1⟩, hc2, hr2⟩ := tJ_K.1 hk
  have hm1 := hr1.1
  have HR1 := Hd.mk hr1; clear hr1
  have HR2 := Hd.mk hr2; clear hr2 hk
  replace hl : x.s.size + bulkJS m x.list + bulkStringS x.names ≤ 4194304 := hl
  have hlN : x.names.length ≤ 4194304 := by simp only [bulkStringS] at hl; omega
  have hlL : x.list.length ≤ 4194304 := by simp only [bulkJS] at hl; omega
  have HLL := Hd.mk (show bulkJS m x.list ≤ 4194304 by omega); clear hl
  have hB := Hd.mk (Below.refl w.heap.size w)
  go_enter Try.func47, Try.ntmps47
  go_wp2_with fail
  apply wp_gen; intro W1 hW
  have hz_ : w.heap.size + 2 ≤ W1.heap.size := by rw [hW]; simp
  have hE : Below w.heap.size w W1 := by rw [hW]; (repeat (first | with_reducible refine below_alloc ?_ _ | with_reducible refine below_drew ?_)); exact Below.refl _ _
  have hB := Hd.mk (below_then hB.out hE)
  have b0 := Hd.mk (show Blk W1 (w.heap.size) #[Value.int IntKind.i64 x.kind, Value.int IntKind.i64 x.n, Value.string x.s, Value.slice A1 x.list.length c1, Value.slice A2 x.names.length c2] 27 by rw [hW]; first | exact ((Blk.new _ _ _).alloc _) | (simpa using ((Blk.new _ _ _).alloc _)))
  have b1 := Hd.mk (show Blk W1 (w.heap.size + 1) #[Value.int IntKind.i64 0, Value.int IntKind.i64 0, Value.string ⟨#[]⟩, Value.slice none 0 0, Value.slice none 0 0] 27 by rw [hW]; first | exact (Blk.new1 _ _ _ _) | (simpa using (Blk.new1 _ _ _ _)))
  clear hW hE
  have z1 := Hd.mk hz_; clear hz_
  obtain ⟨RR, hRR⟩ : ∃ RR : Act → World → Prop, RR = (fun a w' => ∃ (p : Nat) (SN : Nat → Prop) (D : Option Addr) (d : Nat) (u5 u6 u7 u8 u9 u10 u11 u12 u13 u14 u15 : Value), a = ⟨#[.agg #[Value.int IntKind.i64 x.kind, Value.int IntKind.i64 x.n, Value.string x.s, Value.slice A1 x.list.length c1, Value.slice A2 x.names.length c2], .pointer (some ⟨w.heap.size, 0, none⟩), .pointer (some ⟨w.heap.size + 1, 0, none⟩), .pointer (some ⟨p, 0, none⟩), undef, u5, u6, u7, u8, u9, u10, u11, u12, u13, u14, u15, undef, undef, undef, undef, undef, undef, undef, undef, undef, undef, undef, undef, undef, undef, undef, undef, undef, undef, undef], []⟩ ∧ Hd (Blk w' p #[.int .i64 x.kind, .int .i64 x.n, .string x.s, .slice none 0 0, .slice D x.names.length d] 27) ∧ Hd (Blk w' w.heap.size #[Value.int IntKind.i64 x.kind, Value.int IntKind.i64 x.n, Value.string x.s, Value.slice A1 x.list.length c1, Value.slice A2 x.names.length c2] 27) ∧ Hd (Blk w' (w.heap.size + 1) #[Value.int IntKind.i64 0, Value.int IntKind.i64 0, Value.string ⟨#[]⟩, Value.slice none 0 0, Value.slice none 0 0] 27) ∧ Hd (w.heap.size + 2 ≤ p) ∧ Hd (∀ k, SN k → w.heap.size + 2 ≤ k ∧ k < w'.heap.size ∧ k ≠ p) ∧ Hd (str.R 9 w' SN (.slice D x.names.length d) x.names) ∧ Hd (Below w.heap.size w w')) := ⟨_, rfl⟩
  have HRR := Hd.mk hRR; clear hRR
  refine region_to RR ?_ ?_
  case refine_1 =>
    have fb0_0 : W1.cell? ⟨w.heap.size, 0, none⟩ = some (Value.int IntKind.i64 x.kind) := b0.out.cell 0 rfl
    have fb0_1 : W1.cell? ⟨w.heap.size, 1, none⟩ = some (Value.int IntKind.i64 x.n) := b0.out.cell 1 rfl
    have fb0_2 : W1.cell? ⟨w.heap.size, 2, none⟩ = some (Value.string x.s) := b0.out.cell 2 rfl
    have fb0_3 : W1.cell? ⟨w.heap.size, 3, none⟩ = some (Value.slice A1 x.list.length c1) := b0.out.cell 3 rfl
    have fb0_4 : W1.cell? ⟨w.heap.size, 4, none⟩ = some (Value.slice A2 x.names.length c2) := b0.out.cell 4 rfl
    have fb0_z := b0.out.frozen
    have fb1_0 : W1.cell? ⟨w.heap.size + 1, 0, none⟩ = some (Value.int IntKind.i64 0) := b1.out.cell 0 rfl
    have fb1_1 : W1.cell? ⟨w.heap.size + 1, 1, none⟩ = some (Value.int IntKind.i64 0) := b1.out.cell 1 rfl
    have fb1_2 : W1.cell? ⟨w.heap.size + 1, 2, none⟩ = some (Value.string ⟨#[]⟩) := b1.out.cell 2 rfl
    have fb1_3 : W1.cell? ⟨w.heap.size + 1, 3, none⟩ = some (Value.slice none 0 0) := b1.out.cell 3 rfl
    have fb1_4 : W1.cell? ⟨w.heap.size + 1, 4, none⟩ = some (Value.slice none 0 0) := b1.out.cell 4 rfl
    have fb1_z := b1.out.frozen
    have rfb0_0 := cell_regrown fb0_0
    have rfb0_1 := cell_regrown fb0_1
    have rfb0_2 := cell_regrown fb0_2
    have rfb0_3 := cell_regrown fb0_3
    have rfb0_4 := cell_regrown fb0_4
    have rfb1_0 := cell_regrown fb1_0
    have rfb1_1 := cell_regrown fb1_1
    have rfb1_2 := cell_regrown fb1_2
    have rfb1_3 := cell_regrown fb1_3
    have rfb1_4 := cell_regrown fb1_4
    refine region_mixT (.q 0 (.q 1 (.q 2 (.q 3 (.q 4 (.q 5 (.q 7 (.q 8 (.br 6 11 (.br 9 11 (.q 10 (.b 11 .fin)) (.b 9 (.q 10 .fin))) (.b 6 (.b 9 (.q 10 .fin)))))))))))) [12] (by kernel_rfl) (by kernel_rfl) (fun _ _ _ _ _ h => h) ?_
    refine genT ?_
    intro W2 hW
    have hS := Hd.mk (show Below W1.heap.size W1 W2 by rw [hW]; exact below_drew (Below.refl _ _))
    have hz_ : W1.heap.size ≤ W2.heap.size := by rw [hW]; simp
    have hE : Below W1.heap.size W1 W2 := by rw [hW]; (repeat (first | with_reducible refine below_alloc ?_ _ | with_reducible refine below_drew ?_)); exact Below.refl _ _
    have hB := Hd.mk (below_then hB.out hE)
    have b0 := Hd.mk (b0.out.below hE)
    have b1 := Hd.mk (b1.out.below hE)
    clear hW hE
    have z2 := Hd.mk hz_; clear hz_
    refine mixT_q rfl ?_
    go_big_quiet_want; go_big_quiet_op; go_big_quiet_on; refine wpQuiet_nil ?_
    refine mixT_q rfl ?_
    go_big_quiet_want; go_big_quiet_op; go_big_quiet_on; refine wpQuiet_nil ?_
    refine mixT_q rfl ?_
    go_big_quiet_want; go_big_quiet_op; go_big_quiet_on; refine wpQuiet_nil ?_
    refine mixT_q rfl ?_
    go_big_quiet_want; go_big_quiet_op; go_big_quiet_on; refine wpQuiet_nil ?_
    refine mixT_q rfl ?_
    go_big_quiet_want; go_big_quiet_op; go_big_quiet_on; refine wpQuiet_nil ?_
    refine mixT_q rfl ?_
    go_big_quiet_want; go_big_quiet_op; go_big_quiet_on; refine wpQuiet_nil ?_
    refine mixT_q rfl ?_
    go_big_quiet_want; go_big_quiet_op; go_big_quiet_on; refine wpQuiet_nil ?_
    refine mixT_q rfl ?_
    go_big_quiet_want; go_big_quiet_op; go_big_quiet_on; refine wpQuiet_nil ?_
    refine ⟨?_, ?_⟩
    · refine stepM_of rfl ?_ (by rfl)
      go_wp2_with fail
      refine ⟨cls_below (below_alloc hS.out _), ?_⟩
      refine genT ?_; intro W3 hW
      have hE0 := Hd.mk (show str.R 9 W3 (rng W2.heap.size (W2.heap.size + 1)) (.slice (some ⟨W2.heap.size, 0, none⟩) 0 0) [] by rw [hW]; exact R_mono (fun k h => by simpa [rng] using h) (R_bound (R_empty str 9 W2)))
      have hz_ : W2.heap.size + 1 ≤ W3.heap.size := by rw [hW]; simp
      have hE : Below W2.heap.size W2 W3 := by rw [hW]; (repeat (first | with_reducible refine below_alloc ?_ _ | with_reducible refine below_drew ?_)); exact Below.refl _ _
      have hB := Hd.mk (below_then hB.out hE)
      replace hS := Hd.mk (below_then hS.out hE)
      have b0 := Hd.mk (b0.out.below hE)
      have b1 := Hd.mk (b1.out.below hE)
      clear hW hE
      have z3 := Hd.mk hz_; clear hz_
      refine ⟨?_, ?_⟩
      · refine stepM_of rfl ?_ (by rfl)
        have hSz := hB.out.size
        have z1_ := z1.out; have z2_ := z2.out; have z3_ := z3.out
        go_wp2_with (at_builtin; refine append_str rfl _ _ 25 9 (.string ByteArray.empty) 16 rfl Try.underlying25 info_str rfl (by decide) (S := rng W2.heap.size (W2.heap.size + 1)) (S' := (fun k => k = W2.heap.size ∨ W3.heap.size ≤ k)) rfl rfl hE0.out (C_below HR2.out hB.out) (fun k h => Or.inl (by have h1 := h.1; have h2 := h.2; omega)) (fun k h => Or.inr h) (by simp; omega) (fun v1 w4 hv hX => ?_); obtain ⟨D1, d1, rfl, _, _⟩ := R_C hv)
        clear hE0
        have z1_ := z1.out; have z2_ := z2.out; have z3_ := z3.out
        have hSz := hB.out.size
        have b0 := Hd.mk (b0.out.fr hX (fun h => by have hlt_ := b0.out.lt; skip; (try simp only [rng] at h); (try simp only at h); omega))
        have b1 := Hd.mk (b1.out.fr hX (fun h => by have hlt_ := b1.out.lt; skip; (try simp only [rng] at h); (try simp only at h); omega))
        replace hS := Hd.mk (below_frS hS.out hX (fun k h => by (try simp only [rng] at h); (try simp only at h); omega))
        have hB := Hd.mk (below_frS hB.out hX (fun k h => by skip; (try simp only [rng] at h); (try simp only at h); omega))
        have hz_ := hX.size
        clear hX
        have z4 := Hd.mk hz_; clear hz_
        have hO := Hd.mk (R_bound hv); clear hv
        refine ⟨cls_below hS.out, ?_⟩
        refine mixT_q rfl ?_
        go_big_quiet_want; go_big_quiet_op; go_big_quiet_on; refine wpQuiet_nil ?_
        refine mixT_b rfl ?_ (by rfl)
        go_wp2_with fail
        refine ⟨cls_below (below_alloc hS.out _), ?_⟩
        refine genT ?_; intro W5 hW
        have hz_ : w4.heap.size + 1 ≤ W5.heap.size := by rw [hW]; simp
        have hE : Below w4.heap.size w4 W5 := by rw [hW]; (repeat (first | with_reducible refine below_alloc ?_ _ | with_reducible refine below_drew ?_)); exact Below.refl _ _
        have hB := Hd.mk (below_then hB.out hE)
        replace hS := Hd.mk (below_then hS.out hE)
        have b0 := Hd.mk (b0.out.below hE)
        have b1 := Hd.mk (b1.out.below hE)
        have b2 := Hd.mk (show Blk W5 (w4.heap.size) #[Value.int IntKind.i64 0, Value.int IntKind.i64 0, Value.string ⟨#[]⟩, Value.slice none 0 0, Value.slice none 0 0] 27 by rw [hW]; first | exact (Blk.new _ _ _) | (simpa using (Blk.new _ _ _)))
        have hO := Hd.mk (R_below hO.out hE)
        clear hW hE
        have z5 := Hd.mk hz_; clear hz_
        refine mixT_fin ?_
        clear hS
        clear rfb0_0 rfb0_1 rfb0_2 rfb0_3 rfb0_4 rfb1_0 rfb1_1 rfb1_2 rfb1_3 rfb1_4
        clear fb0_0 fb0_1 fb0_2 fb0_3 fb0_4 fb0_z fb1_0 fb1_1 fb1_2 fb1_3 fb1_4 fb1_z
        have fb0_0 : W5.cell? ⟨w.heap.size, 0, none⟩ = some (Value.int IntKind.i64 x.kind) := b0.out.cell 0 rfl
        have fb0_1 : W5.cell? ⟨w.heap.size, 1, none⟩ = some (Value.int IntKind.i64 x.n) := b0.out.cell 1 rfl
        have fb0_2 : W5.cell? ⟨w.heap.size, 2, none⟩ = some (Value.string x.s) := b0.out.cell 2 rfl
        have fb0_3 : W5.cell? ⟨w.heap.size, 3, none⟩ = some (Value.slice A1 x.list.length c1) := b0.out.cell 3 rfl
        have fb0_4 : W5.cell? ⟨w.heap.size, 4, none⟩ = some (Value.slice A2 x.names.length c2) := b0.out.cell 4 rfl
        have fb0_z := b0.out.frozen
        have fb1_0 : W5.cell? ⟨w.heap.size + 1, 0, none⟩ = some (Value.int IntKind.i64 0) := b1.out.cell 0 rfl
        have fb1_1 : W5.cell? ⟨w.heap.size + 1, 1, none⟩ = some (Value.int IntKind.i64 0) := b1.out.cell 1 rfl
        have fb1_2 : W5.cell? ⟨w.heap.size + 1, 2, none⟩ = some (Value.string ⟨#[]⟩) := b1.out.cell 2 rfl
        have fb1_3 : W5.cell? ⟨w.heap.size + 1, 3, none⟩ = some (Value.slice none 0 0) := b1.out.cell 3 rfl
        have fb1_4 : W5.cell? ⟨w.heap.size + 1, 4, none⟩ = some (Value.slice none 0 0) := b1.out.cell 4 rfl
        have fb1_z := b1.out.frozen
        have fb2_0 : W5.cell? ⟨w4.heap.size, 0, none⟩ = some (Value.int IntKind.i64 0) := b2.out.cell 0 rfl
        have fb2_1 : W5.cell? ⟨w4.heap.size, 1, none⟩ = some (Value.int IntKind.i64 0) := b2.out.cell 1 rfl
        have fb2_2 : W5.cell? ⟨w4.heap.size, 2, none⟩ = some (Value.string ⟨#[]⟩) := b2.out.cell 2 rfl
        have fb2_3 : W5.cell? ⟨w4.heap.size, 3, none⟩ = some (Value.slice none 0 0) := b2.out.cell 3 rfl
        have fb2_4 : W5.cell? ⟨w4.heap.size, 4, none⟩ = some (Value.slice none 0 0) := b2.out.cell 4 rfl
        have fb2_z := b2.out.frozen
        refine tail_b rfl ?_ (by rfl)
        go_wp2_with fail
        refine mixQ_n ?_
        refine tail_nil ?_
        refine region_gen ?_; intro W hW
        clear fb0_0 fb0_1 fb0_2 fb0_3 fb0_4 fb0_z fb1_0 fb1_1 fb1_2 fb1_3 fb1_4 fb1_z fb2_0 fb2_1 fb2_2 fb2_3 fb2_4 fb2_z
        have hz_ : W5.heap.size ≤ W.heap.size := by rw [hW]; simp
        have eF : Fr W5 W (fun k => k = w4.heap.size ∨ W5.heap.size ≤ k) := by rw [hW]; (repeat (first | with_reducible refine Fr.setCell ?_ _ (fun _ => by simp <;> omega) _ | with_reducible refine Fr.alloc ?_ _ | with_reducible refine Fr.drew ?_)); exact Fr.refl _ _
        have z1_ := z1.out; have z2_ := z2.out; have z3_ := z3.out; have z4_ := z4.out; have z5_ := z5.out
        have hB := Hd.mk (((Fr.of_below hB.out (fun k => k = w4.heap.size ∨ W5.heap.size ≤ k)).then_ eF (fun k hk _ => hk)).below (fun k hk => by have := hB.out.size; omega))
        have b0 := Hd.mk (b0.out.fr eF (fun h => by have hlt_ := b0.out.lt; (try simp only at h); omega))
        have b1 := Hd.mk (b1.out.fr eF (fun h => by have hlt_ := b1.out.lt; (try simp only at h); omega))
        have b2 := Hd.mk (show Blk W (w4.heap.size) #[Value.int IntKind.i64 x.kind, Value.int IntKind.i64 x.n, Value.string x.s, Value.slice none 0 0, Value.slice D1 x.names.length d1] 27 by rw [hW]; exact (Blk.all b2.out [Value.int IntKind.i64 x.kind, Value.int IntKind.i64 x.n, Value.string x.s, Value.slice none 0 0, Value.slice D1 x.names.length d1] rfl))
        have hO := Hd.mk (R_fr hO.out eF (fun k hk hl h => by skip; (try simp only [rng] at hk); (try simp only at hk); (try simp only at h); omega))
        clear hW eF
        have z6 := Hd.mk hz_; clear hz_
        have hBs := hB.out.size
        have z1_ := z1.out; have z2_ := z2.out; have z3_ := z3.out; have z4_ := z4.out; have z5_ := z5.out; have z6_ := z6.out
        rw [HRR.out]
        exact ⟨w4.heap.size, _, D1, d1, _, _, _, _, _, _, _, _, _, _, _, rfl, b2, b0, b1, ⟨by omega⟩, ⟨fun k hk => by have h2 := hk.2; rcases hk.1 with h1 | h1 <;> refine ⟨by omega, by omega, by omega⟩⟩, hO, hB⟩
      · refine stepM_of rfl ?_ (by rfl)
        go_wp2_with fail
        refine ⟨cls_below (below_alloc hS.out _), ?_⟩
        refine genT ?_; intro W4 hW
        have hz_ : W3.heap.size + 1 ≤ W4.heap.size := by rw [hW]; simp
        have hE : Below W3.heap.size W3 W4 := by rw [hW]; (repeat (first | with_reducible refine below_alloc ?_ _ | with_reducible refine below_drew ?_)); exact Below.refl _ _
        have hB := Hd.mk (below_then hB.out hE)
        replace hS := Hd.mk (below_then hS.out hE)
        have b0 := Hd.mk (b0.out.below hE)
        have b1 := Hd.mk (b1.out.below hE)
        have b2 := Hd.mk (show Blk W4 (W3.heap.size) #[Value.int IntKind.i64 0, Value.int IntKind.i64 0, Value.string ⟨#[]⟩, Value.slice none 0 0, Value.slice none 0 0] 27 by rw [hW]; first | exact (Blk.new _ _ _) | (simpa using (Blk.new _ _ _)))
        have hE0 := Hd.mk (R_below hE0.out hE)
        clear hW hE
        have z4 := Hd.mk hz_; clear hz_
        refine mixT_b rfl ?_ (by rfl)
        have hSz := hB.out.size
        have z1_ := z1.out; have z2_ := z2.out; have z3_ := z3.out; have z4_ := z4.out
        go_wp2_with (at_builtin; refine append_str rfl _ _ 25 9 (.string ByteArray.empty) 16 rfl Try.underlying25 info_str rfl (by decide) (S := rng W2.heap.size (W2.heap.size + 1)) (S' := (fun k => k = W2.heap.size ∨ W4.heap.size ≤ k)) rfl rfl hE0.out (C_below HR2.out hB.out) (fun k h => Or.inl (by have h1 := h.1; have h2 := h.2; omega)) (fun k h => Or.inr h) (by simp; omega) (fun v1 w5 hv hX => ?_); obtain ⟨D1, d1, rfl, _, _⟩ := R_C hv)
        clear hE0
        have z1_ := z1.out; have z2_ := z2.out; have z3_ := z3.out; have z4_ := z4.out
        have hSz := hB.out.size
        have b0 := Hd.mk (b0.out.fr hX (fun h => by have hlt_ := b0.out.lt; skip; (try simp only [rng] at h); (try simp only at h); omega))
        have b1 := Hd.mk (b1.out.fr hX (fun h => by have hlt_ := b1.out.lt; skip; (try simp only [rng] at h); (try simp only at h); omega))
        have b2 := Hd.mk (b2.out.fr hX (fun h => by have hlt_ := b2.out.lt; skip; (try simp only [rng] at h); (try simp only at h); omega))
        replace hS := Hd.mk (below_frS hS.out hX (fun k h => by (try simp only [rng] at h); (try simp only at h); omega))
        have hB := Hd.mk (below_frS hB.out hX (fun k h => by skip; (try simp only [rng] at h); (try simp only at h); omega))
        have hz_ := hX.size
        clear hX
        have z5 := Hd.mk hz_; clear hz_
        have hO := Hd.mk (R_bound hv); clear hv
        refine ⟨cls_below hS.out, ?_⟩
        refine mixT_q rfl ?_
        go_big_quiet_want; go_big_quiet_op; go_big_quiet_on; refine wpQuiet_nil ?_
        refine mixT_fin ?_
        clear hS
        clear rfb0_0 rfb0_1 rfb0_2 rfb0_3 rfb0_4 rfb1_0 rfb1_1 rfb1_2 rfb1_3 rfb1_4
        clear fb0_0 fb0_1 fb0_2 fb0_3 fb0_4 fb0_z fb1_0 fb1_1 fb1_2 fb1_3 fb1_4 fb1_z
        have fb0_0 : w5.cell? ⟨w.heap.size, 0, none⟩ = some (Value.int IntKind.i64 x.kind) := b0.out.cell 0 rfl
        have fb0_1 : w5.cell? ⟨w.heap.size, 1, none⟩ = some (Value.int IntKind.i64 x.n) := b0.out.cell 1 rfl
        have fb0_2 : w5.cell? ⟨w.heap.size, 2, none⟩ = some (Value.string x.s) := b0.out.cell 2 rfl
        have fb0_3 : w5.cell? ⟨w.heap.size, 3, none⟩ = some (Value.slice A1 x.list.length c1) := b0.out.cell 3 rfl
        have fb0_4 : w5.cell? ⟨w.heap.size, 4, none⟩ = some (Value.slice A2 x.names.length c2) := b0.out.cell 4 rfl
        have fb0_z := b0.out.frozen
        have fb1_0 : w5.cell? ⟨w.heap.size + 1, 0, none⟩ = some (Value.int IntKind.i64 0) := b1.out.cell 0 rfl
        have fb1_1 : w5.cell? ⟨w.heap.size + 1, 1, none⟩ = some (Value.int IntKind.i64 0) := b1.out.cell 1 rfl
        have fb1_2 : w5.cell? ⟨w.heap.size + 1, 2, none⟩ = some (Value.string ⟨#[]⟩) := b1.out.cell 2 rfl
        have fb1_3 : w5.cell? ⟨w.heap.size + 1, 3, none⟩ = some (Value.slice none 0 0) := b1.out.cell 3 rfl
        have fb1_4 : w5.cell? ⟨w.heap.size + 1, 4, none⟩ = some (Value.slice none 0 0) := b1.out.cell 4 rfl
        have fb1_z := b1.out.frozen
        have fb2_0 : w5.cell? ⟨W3.heap.size, 0, none⟩ = some (Value.int IntKind.i64 0) := b2.out.cell 0 rfl
        have fb2_1 : w5.cell? ⟨W3.heap.size, 1, none⟩ = some (Value.int IntKind.i64 0) := b2.out.cell 1 rfl
        have fb2_2 : w5.cell? ⟨W3.heap.size, 2, none⟩ = some (Value.string ⟨#[]⟩) := b2.out.cell 2 rfl
        have fb2_3 : w5.cell? ⟨W3.heap.size, 3, none⟩ = some (Value.slice none 0 0) := b2.out.cell 3 rfl
        have fb2_4 : w5.cell? ⟨W3.heap.size, 4, none⟩ = some (Value.slice none 0 0) := b2.out.cell 4 rfl
        have fb2_z := b2.out.frozen
        refine tail_b rfl ?_ (by rfl)
        go_wp2_with fail
        refine mixQ_n ?_
        refine tail_nil ?_
        refine region_gen ?_; intro W hW
        clear fb0_0 fb0_1 fb0_2 fb0_3 fb0_4 fb0_z fb1_0 fb1_1 fb1_2 fb1_3 fb1_4 fb1_z fb2_0 fb2_1 fb2_2 fb2_3 fb2_4 fb2_z
        have hz_ : w5.heap.size ≤ W.heap.size := by rw [hW]; simp
        have eF : Fr w5 W (fun k => k = W3.heap.size ∨ w5.heap.size ≤ k) := by rw [hW]; (repeat (first | with_reducible refine Fr.setCell ?_ _ (fun _ => by simp <;> omega) _ | with_reducible refine Fr.alloc ?_ _ | with_reducible refine Fr.drew ?_)); exact Fr.refl _ _
        have z1_ := z1.out; have z2_ := z2.out; have z3_ := z3.out; have z4_ := z4.out; have z5_ := z5.out
        have hB := Hd.mk (((Fr.of_below hB.out (fun k => k = W3.heap.size ∨ w5.heap.size ≤ k)).then_ eF (fun k hk _ => hk)).below (fun k hk => by have := hB.out.size; omega))
        have b0 := Hd.mk (b0.out.fr eF (fun h => by have hlt_ := b0.out.lt; (try simp only at h); omega))
        have b1 := Hd.mk (b1.out.fr eF (fun h => by have hlt_ := b1.out.lt; (try simp only at h); omega))
        have b2 := Hd.mk (show Blk W (W3.heap.size) #[Value.int IntKind.i64 x.kind, Value.int IntKind.i64 x.n, Value.string x.s, Value.slice none 0 0, Value.slice D1 x.names.length d1] 27 by rw [hW]; exact (Blk.all b2.out [Value.int IntKind.i64 x.kind, Value.int IntKind.i64 x.n, Value.string x.s, Value.slice none 0 0, Value.slice D1 x.names.length d1] rfl))
        have hO := Hd.mk (R_fr hO.out eF (fun k hk hl h => by skip; (try simp only [rng] at hk); (try simp only at hk); (try simp only at h); omega))
        clear hW eF
        have z6 := Hd.mk hz_; clear hz_
        have hBs := hB.out.size
        have z1_ := z1.out; have z2_ := z2.out; have z3_ := z3.out; have z4_ := z4.out; have z5_ := z5.out; have z6_ := z6.out
        rw [HRR.out]
        exact ⟨W3.heap.size, _, D1, d1, _, _, _, _, _, _, _, _, _, _, _, rfl, b2, b0, b1, ⟨by omega⟩, ⟨fun k hk => by have h2 := hk.2; rcases hk.1 with h1 | h1 <;> refine ⟨by omega, by omega, by omega⟩⟩, hO, hB⟩
    · refine stepM_of rfl ?_ (by rfl)
      go_wp2_with fail
      refine ⟨cls_below (below_alloc hS.out _), ?_⟩
      refine genT ?_; intro W3 hW
      have hz_ : W2.heap.size + 1 ≤ W3.heap.size := by rw [hW]; simp
      have hE : Below W2.heap.size W2 W3 := by rw [hW]; (repeat (first | with_reducible refine below_alloc ?_ _ | with_reducible refine below_drew ?_)); exact Below.refl _ _
      have hB := Hd.mk (below_then hB.out hE)
      replace hS := Hd.mk (below_then hS.out hE)
      have b0 := Hd.mk (b0.out.below hE)
      have b1 := Hd.mk (b1.out.below hE)
      have b2 := Hd.mk (show Blk W3 (W2.heap.size) #[Value.int IntKind.i64 0, Value.int IntKind.i64 0, Value.string ⟨#[]⟩, Value.slice none 0 0, Value.slice none 0 0] 27 by rw [hW]; first | exact (Blk.new _ _ _) | (simpa using (Blk.new _ _ _)))
      clear hW hE
      have z3 := Hd.mk hz_; clear hz_
      refine mixT_b rfl ?_ (by rfl)
      go_wp2_with fail
      refine ⟨cls_below (below_alloc hS.out _), ?_⟩
      refine genT ?_; intro W4 hW
      have hE0 := Hd.mk (show str.R 9 W4 (rng W3.heap.size (W3.heap.size + 1)) (.slice (some ⟨W3.heap.size, 0, none⟩) 0 0) [] by rw [hW]; exact R_mono (fun k h => by simpa [rng] using h) (R_bound (R_empty str 9 W3)))
      have hz_ : W3.heap.size + 1 ≤ W4.heap.size := by rw [hW]; simp
      have hE : Below W3.heap.size W3 W4 := by rw [hW]; (repeat (first | with_reducible refine below_alloc ?_ _ | with_reducible refine below_drew ?_)); exact Below.refl _ _
      have hB := Hd.mk (below_then hB.out hE)
      replace hS := Hd.mk (below_then hS.out hE)
      have b0 := Hd.mk (b0.out.below hE)
      have b1 := Hd.mk (b1.out.below hE)
      have b2 := Hd.mk (b2.out.below hE)
      clear hW hE
      have z4 := Hd.mk hz_; clear hz_
      refine mixT_b rfl ?_ (by rfl)
      have hSz := hB.out.size
      have z1_ := z1.out; have z2_ := z2.out; have z3_ := z3.out; have z4_ := z4.out
      go_wp2_with (at_builtin; refine append_str rfl _ _ 25 9 (.string ByteArray.empty) 16 rfl Try.underlying25 info_str rfl (by decide) (S := rng W3.heap.size (W3.heap.size + 1)) (S' := (fun k => k = W3.heap.size ∨ W4.heap.size ≤ k)) rfl rfl hE0.out (C_below HR2.out hB.out) (fun k h => Or.inl (by have h1 := h.1; have h2 := h.2; omega)) (fun k h => Or.inr h) (by simp; omega) (fun v1 w5 hv hX => ?_); obtain ⟨D1, d1, rfl, _, _⟩ := R_C hv)
      clear hE0
      have z1_ := z1.out; have z2_ := z2.out; have z3_ := z3.out; have z4_ := z4.out
      have hSz := hB.out.size
      have b0 := Hd.mk (b0.out.fr hX (fun h => by have hlt_ := b0.out.lt; skip; (try simp only [rng] at h); (try simp only at h); omega))
      have b1 := Hd.mk (b1.out.fr hX (fun h => by have hlt_ := b1.out.lt; skip; (try simp only [rng] at h); (try simp only at h); omega))
      have b2 := Hd.mk (b2.out.fr hX (fun h => by have hlt_ := b2.out.lt; skip; (try simp only [rng] at h); (try simp only at h); omega))
      replace hS := Hd.mk (below_frS hS.out hX (fun k h => by (try simp only [rng] at h); (try simp only at h); omega))
      have hB := Hd.mk (below_frS hB.out hX (fun k h => by skip; (try simp only [rng] at h); (try simp only at h); omega))
      have hz_ := hX.size
      clear hX
      have z5 := Hd.mk hz_; clear hz_
      have hO := Hd.mk (R_bound hv); clear hv
      refine ⟨cls_below hS.out, ?_⟩
      refine mixT_q rfl ?_
      go_big_quiet_want; go_big_quiet_op; go_big_quiet_on; refine wpQuiet_nil ?_
      refine mixT_fin ?_
      clear hS
      clear rfb0_0 rfb0_1 rfb0_2 rfb0_3 rfb0_4 rfb1_0 rfb1_1 rfb1_2 rfb1_3 rfb1_4
      clear fb0_0 fb0_1 fb0_2 fb0_3 fb0_4 fb0_z fb1_0 fb1_1 fb1_2 fb1_3 fb1_4 fb1_z
      have fb0_0 : w5.cell? ⟨w.heap.size, 0, none⟩ = some (Value.int IntKind.i64 x.kind) := b0.out.cell 0 rfl
      have fb0_1 : w5.cell? ⟨w.heap.size, 1, none⟩ = some (Value.int IntKind.i64 x.n) := b0.out.cell 1 rfl
      have fb0_2 : w5.cell? ⟨w.heap.size, 2, none⟩ = some (Value.string x.s) := b0.out.cell 2 rfl
      have fb0_3 : w5.cell? ⟨w.heap.size, 3, none⟩ = some (Value.slice A1 x.list.length c1) := b0.out.cell 3 rfl
      have fb0_4 : w5.cell? ⟨w.heap.size, 4, none⟩ = some (Value.slice A2 x.names.length c2) := b0.out.cell 4 rfl
      have fb0_z := b0.out.frozen
      have fb1_0 : w5.cell? ⟨w.heap.size + 1, 0, none⟩ = some (Value.int IntKind.i64 0) := b1.out.cell 0 rfl
      have fb1_1 : w5.cell? ⟨w.heap.size + 1, 1, none⟩ = some (Value.int IntKind.i64 0) := b1.out.cell 1 rfl
      have fb1_2 : w5.cell? ⟨w.heap.size + 1, 2, none⟩ = some (Value.string ⟨#[]⟩) := b1.out.cell 2 rfl
      have fb1_3 : w5.cell? ⟨w.heap.size + 1, 3, none⟩ = some (Value.slice none 0 0) := b1.out.cell 3 rfl
      have fb1_4 : w5.cell? ⟨w.heap.size + 1, 4, none⟩ = some (Value.slice none 0 0) := b1.out.cell 4 rfl
      have fb1_z := b1.out.frozen
      have fb2_0 : w5.cell? ⟨W2.heap.size, 0, none⟩ = some (Value.int IntKind.i64 0) := b2.out.cell 0 rfl
      have fb2_1 : w5.cell? ⟨W2.heap.size, 1, none⟩ = some (Value.int IntKind.i64 0) := b2.out.cell 1 rfl
      have fb2_2 : w5.cell? ⟨W2.heap.size, 2, none⟩ = some (Value.string ⟨#[]⟩) := b2.out.cell 2 rfl
      have fb2_3 : w5.cell? ⟨W2.heap.size, 3, none⟩ = some (Value.slice none 0 0) := b2.out.cell 3 rfl
      have fb2_4 : w5.cell? ⟨W2.heap.size, 4, none⟩ = some (Value.slice none 0 0) := b2.out.cell 4 rfl
      have fb2_z := b2.out.frozen
      refine tail_b rfl ?_ (by rfl)
      go_wp2_with fail
      refine mixQ_n ?_
      refine tail_nil ?_
      refine region_gen ?_; intro W hW
      clear fb0_0 fb0_1 fb0_2 fb0_3 fb0_4 fb0_z fb1_0 fb1_1 fb1_2 fb1_3 fb1_4 fb1_z fb2_0 fb2_1 fb2_2 fb2_3 fb2_4 fb2_z
      have hz_ : w5.heap.size ≤ W.heap.size := by rw [hW]; simp
      have eF : Fr w5 W (fun k => k = W2.heap.size ∨ w5.heap.size ≤ k) := by rw [hW]; (repeat (first | with_reducible refine Fr.setCell ?_ _ (fun _ => by simp <;> omega) _ | with_reducible refine Fr.alloc ?_ _ | with_reducible refine Fr.drew ?_)); exact Fr.refl _ _
      have z1_ := z1.out; have z2_ := z2.out; have z3_ := z3.out; have z4_ := z4.out; have z5_ := z5.out
      have hB := Hd.mk (((Fr.of_below hB.out (fun k => k = W2.heap.size ∨ w5.heap.size ≤ k)).then_ eF (fun k hk _ => hk)).below (fun k hk => by have := hB.out.size; omega))
      have b0 := Hd.mk (b0.out.fr eF (fun h => by have hlt_ := b0.out.lt; (try simp only at h); omega))
      have b1 := Hd.mk (b1.out.fr eF (fun h => by have hlt_ := b1.out.lt; (try simp only at h); omega))
      have b2 := Hd.mk (show Blk W (W2.heap.size) #[Value.int IntKind.i64 x.kind, Value.int IntKind.i64 x.n, Value.string x.s, Value.slice none 0 0, Value.slice D1 x.names.length d1] 27 by rw [hW]; exact (Blk.all b2.out [Value.int IntKind.i64 x.kind, Value.int IntKind.i64 x.n, Value.string x.s, Value.slice none 0 0, Value.slice D1 x.names.length d1] rfl))
      have hO := Hd.mk (R_fr hO.out eF (fun k hk hl h => by skip; (try simp only [rng] at hk); (try simp only at hk); (try simp only at h); omega))
      clear hW eF
      have z6 := Hd.mk hz_; clear hz_
      have hBs := hB.out.size
      have z1_ := z1.out; have z2_ := z2.out; have z3_ := z3.out; have z4_ := z4.out; have z5_ := z5.out; have z6_ := z6.out
      rw [HRR.out]
      exact ⟨W2.heap.size, _, D1, d1, _, _, _, _, _, _, _, _, _, _, _, rfl, b2, b0, b1, ⟨by omega⟩, ⟨fun k hk => by have h2 := hk.2; rcases hk.1 with h1 | h1 <;> refine ⟨by omega, by omega, by omega⟩⟩, hO, hB⟩
  case refine_2 =>
    rw [HRR.out]
    clear HRR
    rintro a w1 ⟨p, SN, D, d, u5, u6, u7, u8, u9, u10, u11, u12, u13, u14, u15, rfl, bo, b0, b1, hp, hN, hO, hB1⟩
    replace hB := hB1; clear hB1
    have hlt := Hd.mk bo.out.lt
    have fbo_0 : w1.cell? ⟨p, 0, none⟩ = some (Value.int IntKind.i64 x.kind) := bo.out.cell 0 rfl
    have fbo_1 : w1.cell? ⟨p, 1, none⟩ = some (Value.int IntKind.i64 x.n) := bo.out.cell 1 rfl
    have fbo_2 : w1.cell? ⟨p, 2, none⟩ = some (Value.string x.s) := bo.out.cell 2 rfl
    have fbo_3 : w1.cell? ⟨p, 3, none⟩ = some (Value.slice none 0 0) := bo.out.cell 3 rfl
    have fbo_4 : w1.cell? ⟨p, 4, none⟩ = some (Value.slice D x.names.length d) := bo.out.cell 4 rfl
    have fbo_z := bo.out.frozen
    have fb0_0 : w1.cell? ⟨w.heap.size, 0, none⟩ = some (Value.int IntKind.i64 x.kind) := b0.out.cell 0 rfl
    have fb0_1 : w1.cell? ⟨w.heap.size, 1, none⟩ = some (Value.int IntKind.i64 x.n) := b0.out.cell 1 rfl
    have fb0_2 : w1.cell? ⟨w.heap.size, 2, none⟩ = some (Value.string x.s) := b0.out.cell 2 rfl
    have fb0_3 : w1.cell? ⟨w.heap.size, 3, none⟩ = some (Value.slice A1 x.list.length c1) := b0.out.cell 3 rfl
    have fb0_4 : w1.cell? ⟨w.heap.size, 4, none⟩ = some (Value.slice A2 x.names.length c2) := b0.out.cell 4 rfl
    have fb0_z := b0.out.frozen
    have fb1_0 : w1.cell? ⟨w.heap.size + 1, 0, none⟩ = some (Value.int IntKind.i64 0) := b1.out.cell 0 rfl
    have fb1_1 : w1.cell? ⟨w.heap.size + 1, 1, none⟩ = some (Value.int IntKind.i64 0) := b1.out.cell 1 rfl
    have fb1_2 : w1.cell? ⟨w.heap.size + 1, 2, none⟩ = some (Value.string ⟨#[]⟩) := b1.out.cell 2 rfl
    have fb1_3 : w1.cell? ⟨w.heap.size + 1, 3, none⟩ = some (Value.slice none 0 0) := b1.out.cell 3 rfl
    have fb1_4 : w1.cell? ⟨w.heap.size + 1, 4, none⟩ = some (Value.slice none 0 0) := b1.out.cell 4 rfl
    have fb1_z := b1.out.frozen
    go_wp2_with fail
    clear fbo_0 fbo_1 fbo_2 fbo_3 fbo_4 fbo_z fb0_0 fb0_1 fb0_2 fb0_3 fb0_4 fb0_z fb1_0 fb1_1 fb1_2 fb1_3 fb1_4 fb1_z
    go_loopw [4] (fun i wr => ∃ k : Nat, ∃ vL : Value, k ≤ x.list.length ∧ i = .int .i64 k ∧ Hd (Blk wr p #[.int .i64 x.kind, .int .i64 x.n, .string x.s, vL, .slice D x.names.length d] 27) ∧ Hd (Blk wr w.heap.size #[Value.int IntKind.i64 x.kind, Value.int IntKind.i64 x.n, Value.string x.s, Value.slice A1 x.list.length c1, Value.slice A2 x.names.length c2] 27) ∧ Hd (Blk wr (w.heap.size + 1) #[Value.int IntKind.i64 0, Value.int IntKind.i64 0, Value.string ⟨#[]⟩, Value.slice none 0 0, Value.slice none 0 0] 27) ∧ Hd ((tJ m).R 27 wr (fun k => w.heap.size + 2 ≤ k ∧ k ≠ p ∧ ¬ SN k) vL (x.list.take k)) ∧ Hd (str.R 9 wr SN (.slice D x.names.length d) x.names) ∧ Hd (Below w.heap.size w wr) ∧ Hd (w1.heap.size ≤ wr.heap.size)) (fun i _ => x.list.length - (intOf i).toNat)
    case atStart => exact ⟨0, .slice none 0 0, Nat.zero_le _, rfl, bo, b0, b1, ⟨R_nil⟩, hO, hB, ⟨Nat.le_refl _⟩⟩
    case round =>
      clear bo b0 b1 hO hB
      obtain ⟨k, vL, hk, rfl, bo, b0, b1, hL, hO, hB, hsz1⟩ := hrel
      by_cases hlt2 : k < x.list.length
      · obtain ⟨ad, cs0, rfl, hK0, e0, e1⟩ := C_at HR1.out hB.out k hlt2
        obtain ⟨m, rfl⟩ : ∃ m1 : Nat, m = m1 + 1 := by cases m with | zero => exact hK0.elim | succ m => exact ⟨m, rfl⟩
        obtain ⟨A3, c3, A4, c4, rfl, hs3, ⟨hc3, hr3⟩, hc4, hr4⟩ := tJ_K.1 hK0
        have hbk := Nat.le_trans (bulkL_mem (bulkJ (m + 1)) (List.getElem_mem hlt2)) (Nat.le_trans (Nat.le_add_left _ _) HLL.out)
        obtain ⟨AL, cL, hvL, hcL, _⟩ := R_C hL.out
        have htk : (x.list.take k).length = k := by rw [List.length_take]; omega
        rw [htk] at hvL
        subst hvL
        clear htk
        have x0 : wr.cell? (ad.add (k * 5)) = some (Value.int IntKind.i64 x.list[k].kind) := e0 _ rfl
        have x1 : wr.cell? ⟨(ad.add (k * 5)).block, (ad.add (k * 5)).off + 1, none⟩ = some (Value.int IntKind.i64 x.list[k].n) := e1 0 _ rfl
        have x2 : wr.cell? ⟨(ad.add (k * 5)).block, (ad.add (k * 5)).off + 2, none⟩ = some (Value.string x.list[k].s) := e1 1 _ rfl
        have x3 : wr.cell? ⟨(ad.add (k * 5)).block, (ad.add (k * 5)).off + 3, none⟩ = some (Value.slice A3 x.list[k].list.length c3) := e1 2 _ rfl
        have x4 : wr.cell? ⟨(ad.add (k * 5)).block, (ad.add (k * 5)).off + 4, none⟩ = some (Value.slice A4 x.list[k].names.length c4) := e1 3 _ rfl
        have HK := Hd.mk hK0; clear hK0 e0 e1 hr3 hr4
        have hlt := Hd.mk (show p < wr.heap.size from bo.out.lt)
        have hzp := hp.out
        have hzl := hlt.out
        have hsb := hB.out.size
        have fbo_0 : wr.cell? ⟨p, 0, none⟩ = some (Value.int IntKind.i64 x.kind) := bo.out.cell 0 rfl
        have fbo_1 : wr.cell? ⟨p, 1, none⟩ = some (Value.int IntKind.i64 x.n) := bo.out.cell 1 rfl
        have fbo_2 : wr.cell? ⟨p, 2, none⟩ = some (Value.string x.s) := bo.out.cell 2 rfl
        have fbo_3 : wr.cell? ⟨p, 3, none⟩ = some (Value.slice AL k cL) := bo.out.cell 3 rfl
        have fbo_4 : wr.cell? ⟨p, 4, none⟩ = some (Value.slice D x.names.length d) := bo.out.cell 4 rfl
        have fbo_z := bo.out.frozen
        have fb0_0 : wr.cell? ⟨w.heap.size, 0, none⟩ = some (Value.int IntKind.i64 x.kind) := b0.out.cell 0 rfl
        have fb0_1 : wr.cell? ⟨w.heap.size, 1, none⟩ = some (Value.int IntKind.i64 x.n) := b0.out.cell 1 rfl
        have fb0_2 : wr.cell? ⟨w.heap.size, 2, none⟩ = some (Value.string x.s) := b0.out.cell 2 rfl
        have fb0_3 : wr.cell? ⟨w.heap.size, 3, none⟩ = some (Value.slice (some ad) x.list.length c1) := b0.out.cell 3 rfl
        have fb0_4 : wr.cell? ⟨w.heap.size, 4, none⟩ = some (Value.slice A2 x.names.length c2) := b0.out.cell 4 rfl
        have fb0_z := b0.out.frozen
        have fb1_0 : wr.cell? ⟨w.heap.size + 1, 0, none⟩ = some (Value.int IntKind.i64 0) := b1.out.cell 0 rfl
        have fb1_1 : wr.cell? ⟨w.heap.size + 1, 1, none⟩ = some (Value.int IntKind.i64 0) := b1.out.cell 1 rfl
        have fb1_2 : wr.cell? ⟨w.heap.size + 1, 2, none⟩ = some (Value.string ⟨#[]⟩) := b1.out.cell 2 rfl
        have fb1_3 : wr.cell? ⟨w.heap.size + 1, 3, none⟩ = some (Value.slice none 0 0) := b1.out.cell 3 rfl
        have fb1_4 : wr.cell? ⟨w.heap.size + 1, 4, none⟩ = some (Value.slice none 0 0) := b1.out.cell 4 rfl
        have fb1_z := b1.out.frozen
        go_wp2_with fail
        clear fbo_0 fbo_1 fbo_2 fbo_3 fbo_4 fbo_z fb0_0 fb0_1 fb0_2 fb0_3 fb0_4 fb0_z fb1_0 fb1_1 fb1_2 fb1_3 fb1_4 fb1_z
        have y_0 := cell_regrown x0
        have y_1 := cell_regrown x1
        have y_2 := cell_regrown x2
        have y_3 := cell_regrown x3
        have y_4 := cell_regrown x4
        have hBW := Hd.mk (Below.refl wr.heap.size wr)
        have fbo_0 : wr.cell? ⟨p, 0, none⟩ = some (Value.int IntKind.i64 x.kind) := bo.out.cell 0 rfl
        have fbo_1 : wr.cell? ⟨p, 1, none⟩ = some (Value.int IntKind.i64 x.n) := bo.out.cell 1 rfl
        have fbo_2 : wr.cell? ⟨p, 2, none⟩ = some (Value.string x.s) := bo.out.cell 2 rfl
        have fbo_3 : wr.cell? ⟨p, 3, none⟩ = some (Value.slice AL k cL) := bo.out.cell 3 rfl
        have fbo_4 : wr.cell? ⟨p, 4, none⟩ = some (Value.slice D x.names.length d) := bo.out.cell 4 rfl
        have fbo_z := bo.out.frozen
        have fb0_0 : wr.cell? ⟨w.heap.size, 0, none⟩ = some (Value.int IntKind.i64 x.kind) := b0.out.cell 0 rfl
        have fb0_1 : wr.cell? ⟨w.heap.size, 1, none⟩ = some (Value.int IntKind.i64 x.n) := b0.out.cell 1 rfl
        have fb0_2 : wr.cell? ⟨w.heap.size, 2, none⟩ = some (Value.string x.s) := b0.out.cell 2 rfl
        have fb0_3 : wr.cell? ⟨w.heap.size, 3, none⟩ = some (Value.slice (some ad) x.list.length c1) := b0.out.cell 3 rfl
        have fb0_4 : wr.cell? ⟨w.heap.size, 4, none⟩ = some (Value.slice A2 x.names.length c2) := b0.out.cell 4 rfl
        have fb0_z := b0.out.frozen
        have fb1_0 : wr.cell? ⟨w.heap.size + 1, 0, none⟩ = some (Value.int IntKind.i64 0) := b1.out.cell 0 rfl
        have fb1_1 : wr.cell? ⟨w.heap.size + 1, 1, none⟩ = some (Value.int IntKind.i64 0) := b1.out.cell 1 rfl
        have fb1_2 : wr.cell? ⟨w.heap.size + 1, 2, none⟩ = some (Value.string ⟨#[]⟩) := b1.out.cell 2 rfl
        have fb1_3 : wr.cell? ⟨w.heap.size + 1, 3, none⟩ = some (Value.slice none 0 0) := b1.out.cell 3 rfl
        have fb1_4 : wr.cell? ⟨w.heap.size + 1, 4, none⟩ = some (Value.slice none 0 0) := b1.out.cell 4 rfl
        have fb1_z := b1.out.frozen
        have rfbo_0 := cell_regrown fbo_0
        have rfbo_1 := cell_regrown fbo_1
        have rfbo_2 := cell_regrown fbo_2
        have rfbo_3 := cell_regrown fbo_3
        have rfbo_4 := cell_regrown fbo_4
        have rfb0_0 := cell_regrown fb0_0
        have rfb0_1 := cell_regrown fb0_1
        have rfb0_2 := cell_regrown fb0_2
        have rfb0_3 := cell_regrown fb0_3
        have rfb0_4 := cell_regrown fb0_4
        have rfb1_0 := cell_regrown fb1_0
        have rfb1_1 := cell_regrown fb1_1
        have rfb1_2 := cell_regrown fb1_2
        have rfb1_3 := cell_regrown fb1_3
        have rfb1_4 := cell_regrown fb1_4
        refine region_mixT (.q 0 (.q 1 (.q 2 (.q 3 (.q 4 (.q 5 (.q 6 (.b 7 (.b 8 .fin))))))))) [9, 10, 11] (by kernel_rfl) (by kernel_rfl) (fun _ _ _ _ _ h => h) ?_
        refine genT ?_
        intro W3 hW
        have hS := Hd.mk (show Below wr.heap.size wr W3 by rw [hW]; exact below_drew (Below.refl _ _))
        have hz_ : wr.heap.size ≤ W3.heap.size := by rw [hW]; simp
        have hE : Below wr.heap.size wr W3 := by rw [hW]; (repeat (first | with_reducible refine below_alloc ?_ _ | with_reducible refine below_drew ?_)); exact Below.refl _ _
        have hB := Hd.mk (below_then hB.out hE)
        have hBW := Hd.mk (below_then hBW.out hE)
        have bo := Hd.mk (bo.out.below hE)
        have b0 := Hd.mk (b0.out.below hE)
        have b1 := Hd.mk (b1.out.below hE)
        clear hW hE
        have z1 := Hd.mk hz_; clear hz_
        refine mixT_q rfl ?_
        go_big_quiet_want; go_big_quiet_op; go_big_quiet_on; refine wpQuiet_nil ?_
        refine mixT_q rfl ?_
        go_big_quiet_want; go_big_quiet_op; go_big_quiet_on; refine wpQuiet_nil ?_
        refine mixT_q rfl ?_
        go_big_quiet_want; go_big_quiet_op; go_big_quiet_on; refine wpQuiet_nil ?_
        refine mixT_q rfl ?_
        go_big_quiet_want; go_big_quiet_op; go_big_quiet_on; refine wpQuiet_nil ?_
        refine mixT_q rfl ?_
        go_big_quiet_want; go_big_quiet_op; go_big_quiet_on; refine wpQuiet_nil ?_
        refine mixT_q rfl ?_
        go_big_quiet_want; go_big_quiet_op; go_big_quiet_on; refine wpQuiet_nil ?_
        refine mixT_q rfl ?_
        go_big_quiet_want; go_big_quiet_op; go_big_quiet_on; refine wpQuiet_nil ?_
        refine mixT_b rfl ?_ (by rfl)
        go_wp2_with fail
        apply calls_gen; intro W4 hW
        have hz_ : W3.heap.size ≤ W4.heap.size := by rw [hW]; simp
        have hE : Below W3.heap.size W3 W4 := by rw [hW]; (repeat (first | with_reducible refine below_alloc ?_ _ | with_reducible refine below_drew ?_)); exact Below.refl _ _
        have hB := Hd.mk (below_then hB.out hE)
        have hBW := Hd.mk (below_then hBW.out hE)
        replace hS := Hd.mk (below_then hS.out hE)
        have bo := Hd.mk (bo.out.below hE)
        have b0 := Hd.mk (b0.out.below hE)
        have b1 := Hd.mk (b1.out.below hE)
        clear hW hE
        have z2 := Hd.mk hz_; clear hz_
        have hWs := Hd.mk (show wr.heap.size ≤ W4.heap.size by have z1_ := z1.out; have z2_ := z2.out; omega)
        refine (ih x.list[k] _ _ (Ty.K_below _ hBW.out HK.out) hbk).mono ?_
        rintro e w5 ⟨cs', rfl, hO3, hX⟩
        have bo := Hd.mk (bo.out.below hX)
        have b0 := Hd.mk (b0.out.below hX)
        have b1 := Hd.mk (b1.out.below hX)
        have hB := Hd.mk (below_then hB.out hX)
        replace hS := Hd.mk (below_then hS.out hX)
        have hz_ := hX.size
        have hBW := Hd.mk (below_then hBW.out hX)
        have z3 := Hd.mk hz_; clear hz_
        obtain ⟨v3, v4, _, _, rfl, hsz3, hr3, hr4, _⟩ := tJ_O.1 hO3
        obtain ⟨D3, d3, rfl, _, _⟩ := R_C hr3
        obtain ⟨D4, d4, rfl, _, _⟩ := R_C hr4
        have HO3 := Hd.mk hO3; clear hO3 hr3 hr4 hX
        go_wp2_with fail
        refine ⟨cls_below hS.out, ?_⟩
        refine mixT_b rfl ?_ (by rfl)
        go_wp2_with fail
        refine ⟨cls_below (below_alloc hS.out _), ?_⟩
        refine mixT_fin ?_
        clear hS
        clear rfbo_0 rfbo_1 rfbo_2 rfbo_3 rfbo_4 rfb0_0 rfb0_1 rfb0_2 rfb0_3 rfb0_4 rfb1_0 rfb1_1 rfb1_2 rfb1_3 rfb1_4
        clear fbo_0 fbo_1 fbo_2 fbo_3 fbo_4 fbo_z fb0_0 fb0_1 fb0_2 fb0_3 fb0_4 fb0_z fb1_0 fb1_1 fb1_2 fb1_3 fb1_4 fb1_z
        have fbo_0 : w5.cell? ⟨p, 0, none⟩ = some (Value.int IntKind.i64 x.kind) := bo.out.cell 0 rfl
        have fbo_1 : w5.cell? ⟨p, 1, none⟩ = some (Value.int IntKind.i64 x.n) := bo.out.cell 1 rfl
        have fbo_2 : w5.cell? ⟨p, 2, none⟩ = some (Value.string x.s) := bo.out.cell 2 rfl
        have fbo_3 : w5.cell? ⟨p, 3, none⟩ = some (Value.slice AL k cL) := bo.out.cell 3 rfl
        have fbo_4 : w5.cell? ⟨p, 4, none⟩ = some (Value.slice D x.names.length d) := bo.out.cell 4 rfl
        have fbo_z := bo.out.frozen
        have fb0_0 : w5.cell? ⟨w.heap.size, 0, none⟩ = some (Value.int IntKind.i64 x.kind) := b0.out.cell 0 rfl
        have fb0_1 : w5.cell? ⟨w.heap.size, 1, none⟩ = some (Value.int IntKind.i64 x.n) := b0.out.cell 1 rfl
        have fb0_2 : w5.cell? ⟨w.heap.size, 2, none⟩ = some (Value.string x.s) := b0.out.cell 2 rfl
        have fb0_3 : w5.cell? ⟨w.heap.size, 3, none⟩ = some (Value.slice (some ad) x.list.length c1) := b0.out.cell 3 rfl
        have fb0_4 : w5.cell? ⟨w.heap.size, 4, none⟩ = some (Value.slice A2 x.names.length c2) := b0.out.cell 4 rfl
        have fb0_z := b0.out.frozen
        have fb1_0 : w5.cell? ⟨w.heap.size + 1, 0, none⟩ = some (Value.int IntKind.i64 0) := b1.out.cell 0 rfl
        have fb1_1 : w5.cell? ⟨w.heap.size + 1, 1, none⟩ = some (Value.int IntKind.i64 0) := b1.out.cell 1 rfl
        have fb1_2 : w5.cell? ⟨w.heap.size + 1, 2, none⟩ = some (Value.string ⟨#[]⟩) := b1.out.cell 2 rfl
        have fb1_3 : w5.cell? ⟨w.heap.size + 1, 3, none⟩ = some (Value.slice none 0 0) := b1.out.cell 3 rfl
        have fb1_4 : w5.cell? ⟨w.heap.size + 1, 4, none⟩ = some (Value.slice none 0 0) := b1.out.cell 4 rfl
        have fb1_z := b1.out.frozen
        refine tail_b rfl ?_ (by rfl)
        have hLb := Hd.mk (R_below (R_bound hL.out) hBW.out)
        have hOb := Hd.mk (R_below (R_bound hO.out) hBW.out)
        have hsW := hWs.out
        go_wp2_with (at_builtin; refine append_one (tJ (m + 1)) rfl _ _ 24 27 (.agg #[.int .i64 0, .int .i64 0, .string ByteArray.empty, .slice none 0 0, .slice none 0 0]) 80 rfl Try.underlying24 info_JsonS rfl (by rw [tJ_sz]; omega) (by decide) (S := fun k => (fun k => w.heap.size + 2 ≤ k ∧ k ≠ p ∧ ¬ SN k) k ∧ k < wr.heap.size) (T := fun k => W4.heap.size ≤ k) (S' := (fun k => w.heap.size + 2 ≤ k ∧ k ≠ p ∧ ¬ SN k)) (v := .slice AL k cL) (xs := x.list.take k) x.list[k] [Value.int IntKind.i64 x.list[k].kind, Value.int IntKind.i64 x.list[k].n, Value.string x.list[k].s, Value.slice D3 x.list[k].list.length d3, Value.slice D4 x.list[k].names.length d4] rfl rfl hLb.out HO3.out (fun k h1 hl h2 => by have := h2.2; omega) (fun k h => h.1) (fun k h => ⟨by omega, by omega, fun h3 => by have := (hN.out k h3).2.1; have := hsz1.out; omega⟩) (fun k h => ⟨by have z1_ := z1.out; have z2_ := z2.out; have z3_ := z3.out; omega, by have z1_ := z1.out; have z2_ := z2.out; have z3_ := z3.out; omega, fun h3 => by have z1_ := z1.out; have z2_ := z2.out; have z3_ := z3.out; have := (hN.out k h3).2.1; have := hsz1.out; omega⟩) (by simp; omega) (fun v5 w6 hv5 hX => ?_); obtain ⟨D5, d5, hv5e, _, _⟩ := R_C hv5; subst hv5e)
        have z1_ := z1.out; have z2_ := z2.out; have z3_ := z3.out
        have bo := Hd.mk (bo.out.fr (S := _) hX (fun h => by have h1 := h.1.1; have h2 := h.1.2.1; have h3 := h.2; omega))
        have b0 := Hd.mk (b0.out.fr (S := _) hX (fun h => by have h1 := h.1.1; have h2 := h.1.2.1; have h3 := h.2; omega))
        have b1 := Hd.mk (b1.out.fr (S := _) hX (fun h => by have h1 := h.1.1; have h2 := h.1.2.1; have h3 := h.2; omega))
        have hO6 := Hd.mk (R_fr hOb.out hX (fun k hk _ h => h.1.2.2 hk.1))
        have hB := Hd.mk (below_frS hB.out hX (fun k h => by have := h.1.1; omega))
        have hw5 := Hd.mk (show w1.heap.size ≤ w6.heap.size by have := hX.size; have := hsz1.out; omega)
        clear hX hOb
        have hL5 := Hd.mk hv5; clear hv5 hLb
        have fbo_0 : w6.cell? ⟨p, 0, none⟩ = some (Value.int IntKind.i64 x.kind) := bo.out.cell 0 rfl
        have fbo_1 : w6.cell? ⟨p, 1, none⟩ = some (Value.int IntKind.i64 x.n) := bo.out.cell 1 rfl
        have fbo_2 : w6.cell? ⟨p, 2, none⟩ = some (Value.string x.s) := bo.out.cell 2 rfl
        have fbo_3 : w6.cell? ⟨p, 3, none⟩ = some (Value.slice AL k cL) := bo.out.cell 3 rfl
        have fbo_4 : w6.cell? ⟨p, 4, none⟩ = some (Value.slice D x.names.length d) := bo.out.cell 4 rfl
        have fbo_z := bo.out.frozen
        have fb0_0 : w6.cell? ⟨w.heap.size, 0, none⟩ = some (Value.int IntKind.i64 x.kind) := b0.out.cell 0 rfl
        have fb0_1 : w6.cell? ⟨w.heap.size, 1, none⟩ = some (Value.int IntKind.i64 x.n) := b0.out.cell 1 rfl
        have fb0_2 : w6.cell? ⟨w.heap.size, 2, none⟩ = some (Value.string x.s) := b0.out.cell 2 rfl
        have fb0_3 : w6.cell? ⟨w.heap.size, 3, none⟩ = some (Value.slice (some ad) x.list.length c1) := b0.out.cell 3 rfl
        have fb0_4 : w6.cell? ⟨w.heap.size, 4, none⟩ = some (Value.slice A2 x.names.length c2) := b0.out.cell 4 rfl
        have fb0_z := b0.out.frozen
        have fb1_0 : w6.cell? ⟨w.heap.size + 1, 0, none⟩ = some (Value.int IntKind.i64 0) := b1.out.cell 0 rfl
        have fb1_1 : w6.cell? ⟨w.heap.size + 1, 1, none⟩ = some (Value.int IntKind.i64 0) := b1.out.cell 1 rfl
        have fb1_2 : w6.cell? ⟨w.heap.size + 1, 2, none⟩ = some (Value.string ⟨#[]⟩) := b1.out.cell 2 rfl
        have fb1_3 : w6.cell? ⟨w.heap.size + 1, 3, none⟩ = some (Value.slice none 0 0) := b1.out.cell 3 rfl
        have fb1_4 : w6.cell? ⟨w.heap.size + 1, 4, none⟩ = some (Value.slice none 0 0) := b1.out.cell 4 rfl
        have fb1_z := b1.out.frozen
        refine mixQ_n ?_
        refine tail_b rfl ?_ (by rfl)
        go_wp2_with fail
        refine mixQ_n ?_
        refine tail_b rfl ?_ (by rfl)
        go_wp2_with fail
        refine mixQ_n ?_
        refine tail_nil ?_
        go_wp2_with fail
        clear fbo_0 fbo_1 fbo_2 fbo_3 fbo_4 fbo_z fb0_0 fb0_1 fb0_2 fb0_3 fb0_4 fb0_z fb1_0 fb1_1 fb1_2 fb1_3 fb1_4 fb1_z
        go_roundw
        case rel =>
          refine ⟨k + 1, _, by omega, by go_num, ⟨bo.out.set 3 _⟩, ⟨b0.out.other _ (by simp only; omega) _⟩, ⟨b1.out.other _ (by simp only; omega) _⟩, ⟨?_⟩, ⟨?_⟩, ⟨?_⟩, ⟨?_⟩⟩
          · rw [List.take_succ_eq_append_getElem hlt2]
            have h5 := hL5.out
            exact R_setCell (by simpa using h5) (fun h => h.2.1 rfl) _
          · exact R_mono (fun k h => h.1) (R_setCell hO6.out (fun h => (hN.out _ h.1).2.2 rfl) _)
          · exact ((Fr.of_below hB.out (fun k => k = p)).setCell ⟨p, 3, none⟩ (fun _ => rfl) _).below (fun k h => by omega)
          · simp; exact hw5.out
        case measure => simp [intOf]; omega
      · obtain rfl : k = x.list.length := by omega
        obtain ⟨AL, cL, hvL, hcL, _⟩ := R_C hL.out
        subst hvL
        have hzp := hp.out
        have hzl := bo.out.lt
        have hsb := hB.out.size
        have fbo_0 : wr.cell? ⟨p, 0, none⟩ = some (Value.int IntKind.i64 x.kind) := bo.out.cell 0 rfl
        have fbo_1 : wr.cell? ⟨p, 1, none⟩ = some (Value.int IntKind.i64 x.n) := bo.out.cell 1 rfl
        have fbo_2 : wr.cell? ⟨p, 2, none⟩ = some (Value.string x.s) := bo.out.cell 2 rfl
        have fbo_3 : wr.cell? ⟨p, 3, none⟩ = some (Value.slice AL (x.list.take x.list.length).length cL) := bo.out.cell 3 rfl
        have fbo_4 : wr.cell? ⟨p, 4, none⟩ = some (Value.slice D x.names.length d) := bo.out.cell 4 rfl
        have fbo_z := bo.out.frozen
        have fb0_0 : wr.cell? ⟨w.heap.size, 0, none⟩ = some (Value.int IntKind.i64 x.kind) := b0.out.cell 0 rfl
        have fb0_1 : wr.cell? ⟨w.heap.size, 1, none⟩ = some (Value.int IntKind.i64 x.n) := b0.out.cell 1 rfl
        have fb0_2 : wr.cell? ⟨w.heap.size, 2, none⟩ = some (Value.string x.s) := b0.out.cell 2 rfl
        have fb0_3 : wr.cell? ⟨w.heap.size, 3, none⟩ = some (Value.slice A1 x.list.length c1) := b0.out.cell 3 rfl
        have fb0_4 : wr.cell? ⟨w.heap.size, 4, none⟩ = some (Value.slice A2 x.names.length c2) := b0.out.cell 4 rfl
        have fb0_z := b0.out.frozen
        have fb1_0 : wr.cell? ⟨w.heap.size + 1, 0, none⟩ = some (Value.int IntKind.i64 0) := b1.out.cell 0 rfl
        have fb1_1 : wr.cell? ⟨w.heap.size + 1, 1, none⟩ = some (Value.int IntKind.i64 0) := b1.out.cell 1 rfl
        have fb1_2 : wr.cell? ⟨w.heap.size + 1, 2, none⟩ = some (Value.string ⟨#[]⟩) := b1.out.cell 2 rfl
        have fb1_3 : wr.cell? ⟨w.heap.size + 1, 3, none⟩ = some (Value.slice none 0 0) := b1.out.cell 3 rfl
        have fb1_4 : wr.cell? ⟨w.heap.size + 1, 4, none⟩ = some (Value.slice none 0 0) := b1.out.cell 4 rfl
        have fb1_z := b1.out.frozen
        go_wp2_with fail
        refine bodyPost_retW (v := .agg #[Value.int IntKind.i64 x.kind, Value.int IntKind.i64 x.n, Value.string x.s, Value.slice AL x.list.length cL, Value.slice D x.names.length d]) (by simp [results, Try.results47, go_sem, fbo_0, fbo_1, fbo_2, fbo_3, fbo_4, fbo_z, fb0_0, fb0_1, fb0_2, fb0_3, fb0_4, fb0_z, fb1_0, fb1_1, fb1_2, fb1_3, fb1_4, fb1_z]) rfl ?_
        intro W hW
        clear fbo_0 fbo_1 fbo_2 fbo_3 fbo_4 fbo_z fb0_0 fb0_1 fb0_2 fb0_3 fb0_4 fb0_z fb1_0 fb1_1 fb1_2 fb1_3 fb1_4 fb1_z
        have eF : Fr wr W (fun k => k = w.heap.size + 1) := by rw [hW]; (repeat (first | with_reducible refine Fr.setCell ?_ _ (fun _ => by simp) _)); exact Fr.refl _ _
        have hLf := R_fr hL.out eF (fun k hk _ h => by have := hk.1; (try simp only at h); omega)
        rw [List.take_length] at hLf
        have hOf := R_fr hO.out eF (fun k hk _ h => by have := (hN.out k hk).1; (try simp only at h); omega)
        skip
        refine ⟨[Value.int IntKind.i64 x.kind, Value.int IntKind.i64 x.n, Value.string x.s, Value.slice AL x.list.length cL, Value.slice D x.names.length d], rfl, tJ_O.2 ⟨_, _, (fun k => w.heap.size + 2 ≤ k ∧ k ≠ p ∧ ¬ SN k), SN, rfl, hs, by simpa using hLf, hOf, fun k h => by have := h.1; omega, fun k h => by have := (hN.out k h).1; omega, fun k h h2 => h.2.2 h2⟩, ((Fr.of_below hB.out (fun k => k = w.heap.size + 1)).then_ eF (fun k h _ => h)).below (fun k h => by omega)⟩
theorem spec_l1Copy_all : ∀ m, CopyL m
  | 0 => fun x cs w hk _ => hk.elim
  | m + 1 => spec_l1Copy_of (spec_l1Copy_all m)
theorem spec_l1Copy {m : Nat} (x : J) (cs : List Value) (w : World) (hk : (tJ m).K w x cs) (hl : bulkJ m x ≤ 4194304) :
    Calls Try.prog 47 #[.agg cs.toArray] w fun e w' => ∃ cs', e = .returned (.agg cs'.toArray) ∧ (tJ m).O w' (fun k => w.heap.size ≤ k) x cs' ∧ Below w.heap.size w w' := spec_l1Copy_all m x cs w hk hl
end Go.Proofs.Ytlkjpnlpankhpaa.X
