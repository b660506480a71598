/- What is proved here: lemmas about the functions that the statement reaches, and what they compute (part 2). Conditions: none. -/
import Derived.Test.YtoaifagjdjgcbaaDoorM1
import Derived.Laws.BytesArg
import Derived.Laws.IdiomStrings
namespace Go.Proofs.YtoaifagjdjgcbaaDoor.X
open Go.RowKit Go.Sort
set_option linter.unusedVariables false
set_option linter.unusedSimpArgs false
open Ty
section
variable {P : Program} {ops : Array Oper} {rest : List Oper} {o : Oper} {a : Act} {Q : Exit → Act → World → Prop}
theorem append_str {W : World} (hgd : o.guard = none) (s x : Operand) (t e : TypeId) (z : Value) (bytes : Nat)
  (ho : o.op = .call { callee := .builtin .append, args := #[s, x], argTypes := #[t, t] })
  (ht : P.underlying t = some (.slice e)) (hinfo : (P.info? e).map (fun i => (i.zero, i.size, i.bytes)) = some (some z, 1, bytes)) (hz : z.cells.size = 1) (hb0 : 0 < bytes)
  {S S' : Nat → Prop} {v : Value} {xs ys : List ByteArray} {A : Option Addr} {c : Nat}
  (hs : a.eval s = v) (hx : a.eval x = .slice A ys.length c) (HR : str.R e W S v xs) (HC : str.C W A ys)
  (hS : ∀ k, S k → S' k) (hnew : ∀ k, W.heap.size ≤ k → S' k) (hbytes : (xs.length + ys.length) * bytes ≤ 140737488355328)
  (h : ∀ v1 w1, str.R e w1 S' v1 (xs ++ ys) → Fr W w1 S → wpList P ops Q rest (a.put o.dst v1) w1) :
  wpList P ops Q (o :: rest) a W := by
 refine append_gen str (S := S) (S' := S') (v := v) (xs := xs) (ys := ys) hgd s x t e z bytes ho ht hinfo hz (Nat.le_refl 1) hb0 (fun i k => False) A ys.length c (ys.map Value.string) hs hx HR rfl (by simp [str]) (fun j u hu => ?_) (fun u hu => ?_) (fun i y hi => ?_)
  (fun i j k h1 h2 => h1.elim) (fun i k hk => hk.elim) hS (fun i k hk => hk.elim) hnew hbytes h
 ·rw [List.getElem?_map] at hu
  obtain ⟨y, hy, rfl⟩ := Option.map_eq_some_iff.1 hu
  obtain ⟨ad, cs, e1, hk, hc⟩ := HC.2 j y hy
  refine ⟨ad, e1, ?_⟩
  have := hc 0 (.string y) (by rw [hk.1]; rfl)
  simpa [str] using this
 ·obtain ⟨y, _, rfl⟩ := List.mem_map.1 hu
  rfl
 ·have hil := (List.getElem?_eq_some_iff.1 hi).1
  obtain ⟨ad, cs, e1, hk, hc⟩ := HC.2 i y hi
  refine ⟨?_, hk.2⟩
  show ((ys.map Value.string).drop (i * 1)).take 1 = [.string y]
  rw [Nat.mul_one, ← List.map_drop, ← List.map_take, List.drop_eq_getElem_cons hil]
  simp [(List.getElem?_eq_some_iff.1 hi).2]
end
theorem below_frS {w w1 w2 : World} {S : Nat → Prop} (h : Below w.heap.size w w1) (hf : Fr w1 w2 S) (hs : ∀ k, S k → w.heap.size ≤ k) : Below w.heap.size w w2 :=
 ((Fr.of_below h S).trans hf).below hs
set_option maxRecDepth 100000 in
theorem impl_copyTexts (A : Option Addr) (c : Nat) (l : List ByteArray) (w : World) (hr : str.C w A l) (hl : l.length ≤ 4194304) :
  Calls Tryd.prog 74 #[.slice A l.length c] w fun e w' => ∃ v, e = .returned v ∧ str.R 9 w' (fun k => w.heap.size ≤ k) v l ∧ Below w.heap.size w w' := by
 have HC := Hd.mk hr; clear hr
 have HR := Hd.mk (R_empty str 9 w)
 go_enter Tryd.func74, Tryd.ntmps74
 go_wp2_with (at_builtin; refine append_str rfl _ _ 25 9 (.string ByteArray.empty) 16 rfl Tryd.underlying25 info_str rfl (by decide) (S' := fun k => w.heap.size ≤ k) rfl rfl HR.out (C_below HC.out (below_alloc (Below.refl _ _) _)) (fun _ h => h) (fun k h => by simp at h; omega) (by simp; omega) (fun v1 w1 hv hf => ?_))
 go_wp2_with fail
 go_ret
 exact ⟨_, rfl, hv, ((Fr.of_below (below_alloc (Below.refl _ _) _) _).then_ hf (fun k h _ => h)).below (fun k h => h)⟩
def CopyJ (m : Nat) : Prop := ∀ (x : J) (cs : List Value) (w : World), (tJ m).K w x cs → bulkJ m x ≤ 4194304 →
 Calls Tryd.prog 43 #[.agg cs.toArray] w fun e w' => ∃ cs', e = .returned (.agg cs'.toArray) ∧ (tJ m).O w' (fun k => w.heap.size ≤ k) x cs' ∧ Below w.heap.size w w'
set_option maxHeartbeats 4000000 in
set_option maxRecDepth 100000 in
theorem impl_copyJson_of {m : Nat} (ih : CopyJ m) : CopyJ (m + 1) := by
 intro x cs w hk hl
 obtain ⟨A1, c1, A2, c2, rfl, hs, ⟨hc1, hr1⟩, hc2, hr2⟩ := tJ_K.1 hk
 have hm1 := hr1.1
 have HR1 := Hd.mk hr1; clear hr1
 have HR2 := Hd.mk hr2; clear hr2 hk
 replace hl : x.s.size + bulkJS m x.list + bulkStringS x.names ≤ 4194304 := hl
 have hlN : x.names.length ≤ 4194304 := by simp only [bulkStringS] at hl; omega
 have hlL : x.list.length ≤ 4194304 := by simp only [bulkJS] at hl; omega
 have HLL := Hd.mk (show bulkJS m x.list ≤ 4194304 by omega); clear hl
 have hB := Hd.mk (Below.refl w.heap.size w)
 go_enter Tryd.func43, Tryd.ntmps43
 go_wp2_with fail
 apply wp_gen; intro W1 hW
 have hz_ : w.heap.size + 2 ≤ W1.heap.size := by rw [hW]; simp
 have hE : Below w.heap.size w W1 := by rw [hW]; (repeat (first | with_reducible refine below_alloc ?_ _ | with_reducible refine below_drew ?_)); exact Below.refl _ _
 have hB := hB.th hE
 have b0 := Hd.mk (show Blk W1 (w.heap.size) #[.int .i64 x.kind, .int .i64 x.n, .string x.s, .slice A1 x.list.length c1, .slice A2 x.names.length c2] 27 by rw [hW]; first | exact ((Blk.new _ _ _).alloc _) | (simpa using ((Blk.new _ _ _).alloc _)))
 have b1 := Hd.mk (show Blk W1 (w.heap.size + 1) #[.int .i64 0, .int .i64 0, .string ⟨#[]⟩, .slice none 0 0, .slice none 0 0] 27 by rw [hW]; first | exact (Blk.new1 _ _ _ _) | (simpa using (Blk.new1 _ _ _ _)))
 clear hW hE
 have z1 := Hd.mk hz_; clear hz_
 obtain ⟨RR, hRR⟩ : ∃ RR : Act → World → Prop, RR = (fun a w' => ∃ (p : Nat) (SN : Nat → Prop) (D : Option Addr) (d : Nat) (u6 u7 u8 u9 u10 u11 u12 u13 u14 u15 : Value), a = ⟨#[.agg #[.int .i64 x.kind, .int .i64 x.n, .string x.s, .slice A1 x.list.length c1, .slice A2 x.names.length c2], .pointer (some ⟨w.heap.size, 0, none⟩), .pointer (some ⟨w.heap.size + 1, 0, none⟩), .pointer (some ⟨p, 0, none⟩), undef, undef, u6, u7, u8, u9, u10, u11, u12, u13, u14, u15, undef, undef, undef, undef, undef, undef, undef, undef, undef, undef, undef, undef, undef, undef, undef, undef], []⟩ ∧ Hd (Blk w' p #[.int .i64 x.kind, .int .i64 x.n, .string x.s, .slice none 0 0, .slice D x.names.length d] 27) ∧ Hd (Blk w' w.heap.size #[.int .i64 x.kind, .int .i64 x.n, .string x.s, .slice A1 x.list.length c1, .slice A2 x.names.length c2] 27) ∧ Hd (Blk w' (w.heap.size + 1) #[.int .i64 0, .int .i64 0, .string ⟨#[]⟩, .slice none 0 0, .slice none 0 0] 27) ∧ Hd (w.heap.size + 2 ≤ p) ∧ Hd (∀ k, SN k → w.heap.size + 2 ≤ k ∧ k < w'.heap.size ∧ k ≠ p) ∧ Hd (str.R 9 w' SN (.slice D x.names.length d) x.names) ∧ Hd (Below w.heap.size w w')) := ⟨_, rfl⟩
 have HRR := Hd.mk hRR; clear hRR
 refine region_to RR ?_ ?_
 case refine_1 =>
  obtain ⟨v00, v01, v02, v03, v04, v0z⟩ := blk5 b0.out
  obtain ⟨v10, v11, v12, v13, v14, v1z⟩ := blk5 b1.out
  obtain ⟨rv00, rv01, rv02, rv03, rv04⟩ := reg5 v00 v01 v02 v03 v04
  obtain ⟨rv10, rv11, rv12, rv13, rv14⟩ := reg5 v10 v11 v12 v13 v14
  refine region_mixT (.q 0 (.q 1 (.q 2 (.q 3 (.q 4 (.q 5 (.q 6 (.q 7 (.br 8 10 (.q 9 (.b 10 .fin)) (.b 8 (.q 9 .fin))))))))))) [11] (by kernel_rfl) (by kernel_rfl) (fun _ _ _ _ _ h => h) ?_
  refine genT ?_
  intro W2 hW
  have hS := Hd.mk (show Below W1.heap.size W1 W2 by rw [hW]; exact below_drew (Below.refl _ _))
  have hz_ : W1.heap.size ≤ W2.heap.size := by rw [hW]; simp
  have hE : Below W1.heap.size W1 W2 := by rw [hW]; (repeat (first | with_reducible refine below_alloc ?_ _ | with_reducible refine below_drew ?_)); exact Below.refl _ _
  have hB := hB.th hE
  have b0 := b0.dn hE
  have b1 := b1.dn hE
  clear hW hE
  have z2 := Hd.mk hz_; clear hz_
  iterate 8 (refine mixT_q rfl ?_; go_big_quiet_want; go_big_quiet_op; go_big_quiet_on; refine wpQuiet_nil ?_)
  refine ⟨?_, ?_⟩
  ·refine stepM_of rfl ?_ (by rfl)
   go_wp2_with fail
   apply calls_gen; intro W3 hW
   have hz_ : W2.heap.size ≤ W3.heap.size := by rw [hW]; simp
   have hE : Below W2.heap.size W2 W3 := by rw [hW]; (repeat (first | with_reducible refine below_alloc ?_ _ | with_reducible refine below_drew ?_)); exact Below.refl _ _
   have hB := hB.th hE
   replace hS := Hd.mk (below_then hS.out hE)
   have b0 := b0.dn hE
   have b1 := b1.dn hE
   clear hW hE
   have z3 := Hd.mk hz_; clear hz_
   refine (impl_copyTexts _ _ x.names _ (C_below HR2.out hB.out) hlN).mono ?_
   rintro e w4 ⟨v1, rfl, hO, hX⟩
   have b0 := b0.dn hX
   have b1 := b1.dn hX
   have hB := hB.th hX
   replace hS := Hd.mk (below_then hS.out hX)
   have hz_ := hX.size
   clear hX
   have z4 := Hd.mk hz_; clear hz_
   obtain ⟨D1, d1, rfl, _, _⟩ := R_C hO
   replace hO := Hd.mk (show str.R 9 w4 (rng W3.heap.size w4.heap.size) _ x.names from R_bound hO)
   go_wp2_with fail
   refine ⟨cls_below hS.out, ?_⟩
   refine mixT_q rfl ?_
   go_big_quiet_want; go_big_quiet_op; go_big_quiet_on; refine wpQuiet_nil ?_
   refine mixT_b rfl ?_ (by rfl)
   go_wp2_with fail
   refine ⟨cls_below (below_alloc hS.out _), ?_⟩
   refine genT ?_; intro W5 hW
   have hz_ : w4.heap.size + 1 ≤ W5.heap.size := by rw [hW]; simp
   have hE : Below w4.heap.size w4 W5 := by rw [hW]; (repeat (first | with_reducible refine below_alloc ?_ _ | with_reducible refine below_drew ?_)); exact Below.refl _ _
   have hB := hB.th hE
   replace hS := Hd.mk (below_then hS.out hE)
   have b0 := b0.dn hE
   have b1 := b1.dn hE
   have b2 := Hd.mk (show Blk W5 (w4.heap.size) #[.int .i64 0, .int .i64 0, .string ⟨#[]⟩, .slice none 0 0, .slice none 0 0] 27 by rw [hW]; first | exact (Blk.new _ _ _) | (simpa using (Blk.new _ _ _)))
   have hO := Hd.mk (R_below hO.out hE)
   clear hW hE
   have z5 := Hd.mk hz_; clear hz_
   refine mixT_fin ?_
   clear hS
   clear rv00 rv01 rv02 rv03 rv04 rv10 rv11 rv12 rv13 rv14
   clear v00 v01 v02 v03 v04 v0z v10 v11 v12 v13 v14 v1z
   obtain ⟨v00, v01, v02, v03, v04, v0z⟩ := blk5 b0.out
   obtain ⟨v10, v11, v12, v13, v14, v1z⟩ := blk5 b1.out
   obtain ⟨v20, v21, v22, v23, v24, v2z⟩ := blk5 b2.out
   refine tail_b rfl ?_ (by rfl)
   go_wp2_with fail
   refine mixQ_n ?_
   refine tail_nil ?_
   refine region_gen ?_; intro W hW
   clear v00 v01 v02 v03 v04 v0z v10 v11 v12 v13 v14 v1z v20 v21 v22 v23 v24 v2z
   have hz_ : W5.heap.size ≤ W.heap.size := by rw [hW]; simp
   have eF : Fr W5 W (fun k => k = w4.heap.size ∨ W5.heap.size ≤ k) := by rw [hW]; (repeat (first | with_reducible refine Fr.setCell ?_ _ (fun _ => by simp <;> omega) _ | with_reducible refine Fr.alloc ?_ _ | with_reducible refine Fr.drew ?_)); exact Fr.refl _ _
   have z1_ := z1.out; have z2_ := z2.out; have z3_ := z3.out; have z4_ := z4.out; have z5_ := z5.out
   have hB := Hd.mk (((Fr.of_below hB.out (fun k => k = w4.heap.size ∨ W5.heap.size ≤ k)).then_ eF (fun k hk _ => hk)).below (fun k hk => by have := hB.out.size; omega))
   have b0 := Hd.mk (b0.out.fr eF (fun h => by have hlt_ := b0.out.lt; (try simp only at h); omega))
   have b1 := Hd.mk (b1.out.fr eF (fun h => by have hlt_ := b1.out.lt; (try simp only at h); omega))
   have b2 := Hd.mk (show Blk W (w4.heap.size) #[.int .i64 x.kind, .int .i64 x.n, .string x.s, .slice none 0 0, .slice D1 x.names.length d1] 27 by rw [hW]; exact (Blk.all b2.out [Value.int IntKind.i64 x.kind, .int .i64 x.n, .string x.s, .slice none 0 0, .slice D1 x.names.length d1] rfl))
   have hO := Hd.mk (R_fr hO.out eF (fun k hk hl h => by skip; (try simp only [rng] at hk); (try simp only at hk); (try simp only at h); omega))
   clear hW eF
   have z6 := Hd.mk hz_; clear hz_
   have hBs := hB.out.size
   have z1_ := z1.out; have z2_ := z2.out; have z3_ := z3.out; have z4_ := z4.out; have z5_ := z5.out; have z6_ := z6.out
   rw [HRR.out]
   exact ⟨w4.heap.size, _, D1, d1, _, _, _, _, _, _, _, _, _, _, rfl, b2, b0, b1, ⟨by omega⟩, ⟨fun k hk => by have h1 := hk.1; have h2 := hk.2; refine ⟨by omega, by omega, by omega⟩⟩, hO, hB⟩
  ·refine stepM_of rfl ?_ (by rfl)
   go_wp2_with fail
   refine ⟨cls_below (below_alloc hS.out _), ?_⟩
   refine genT ?_; intro W3 hW
   have hz_ : W2.heap.size + 1 ≤ W3.heap.size := by rw [hW]; simp
   have hE : Below W2.heap.size W2 W3 := by rw [hW]; (repeat (first | with_reducible refine below_alloc ?_ _ | with_reducible refine below_drew ?_)); exact Below.refl _ _
   have hB := hB.th hE
   replace hS := Hd.mk (below_then hS.out hE)
   have b0 := b0.dn hE
   have b1 := b1.dn hE
   have b2 := Hd.mk (show Blk W3 (W2.heap.size) #[.int .i64 0, .int .i64 0, .string ⟨#[]⟩, .slice none 0 0, .slice none 0 0] 27 by rw [hW]; first | exact (Blk.new _ _ _) | (simpa using (Blk.new _ _ _)))
   clear hW hE
   have z3 := Hd.mk hz_; clear hz_
   refine mixT_b rfl ?_ (by rfl)
   go_wp2_with fail
   apply calls_gen; intro W4 hW
   have hz_ : W3.heap.size ≤ W4.heap.size := by rw [hW]; simp
   have hE : Below W3.heap.size W3 W4 := by rw [hW]; (repeat (first | with_reducible refine below_alloc ?_ _ | with_reducible refine below_drew ?_)); exact Below.refl _ _
   have hB := hB.th hE
   replace hS := Hd.mk (below_then hS.out hE)
   have b0 := b0.dn hE
   have b1 := b1.dn hE
   have b2 := b2.dn hE
   clear hW hE
   have z4 := Hd.mk hz_; clear hz_
   refine (impl_copyTexts _ _ x.names _ (C_below HR2.out hB.out) hlN).mono ?_
   rintro e w5 ⟨v1, rfl, hO, hX⟩
   have b0 := b0.dn hX
   have b1 := b1.dn hX
   have b2 := b2.dn hX
   have hB := hB.th hX
   replace hS := Hd.mk (below_then hS.out hX)
   have hz_ := hX.size
   clear hX
   have z5 := Hd.mk hz_; clear hz_
   obtain ⟨D1, d1, rfl, _, _⟩ := R_C hO
   replace hO := Hd.mk (show str.R 9 w5 (rng W4.heap.size w5.heap.size) _ x.names from R_bound hO)
   go_wp2_with fail
   refine ⟨cls_below hS.out, ?_⟩
   refine mixT_q rfl ?_
   go_big_quiet_want; go_big_quiet_op; go_big_quiet_on; refine wpQuiet_nil ?_
   refine mixT_fin ?_
   clear hS
   clear rv00 rv01 rv02 rv03 rv04 rv10 rv11 rv12 rv13 rv14
   clear v00 v01 v02 v03 v04 v0z v10 v11 v12 v13 v14 v1z
   obtain ⟨v00, v01, v02, v03, v04, v0z⟩ := blk5 b0.out
   obtain ⟨v10, v11, v12, v13, v14, v1z⟩ := blk5 b1.out
   obtain ⟨v20, v21, v22, v23, v24, v2z⟩ := blk5 b2.out
   refine tail_b rfl ?_ (by rfl)
   go_wp2_with fail
   refine mixQ_n ?_
   refine tail_nil ?_
   refine region_gen ?_; intro W hW
   clear v00 v01 v02 v03 v04 v0z v10 v11 v12 v13 v14 v1z v20 v21 v22 v23 v24 v2z
   have hz_ : w5.heap.size ≤ W.heap.size := by rw [hW]; simp
   have eF : Fr w5 W (fun k => k = W2.heap.size ∨ w5.heap.size ≤ k) := by rw [hW]; (repeat (first | with_reducible refine Fr.setCell ?_ _ (fun _ => by simp <;> omega) _ | with_reducible refine Fr.alloc ?_ _ | with_reducible refine Fr.drew ?_)); exact Fr.refl _ _
   have z1_ := z1.out; have z2_ := z2.out; have z3_ := z3.out; have z4_ := z4.out; have z5_ := z5.out
   have hB := Hd.mk (((Fr.of_below hB.out (fun k => k = W2.heap.size ∨ w5.heap.size ≤ k)).then_ eF (fun k hk _ => hk)).below (fun k hk => by have := hB.out.size; omega))
   have b0 := Hd.mk (b0.out.fr eF (fun h => by have hlt_ := b0.out.lt; (try simp only at h); omega))
   have b1 := Hd.mk (b1.out.fr eF (fun h => by have hlt_ := b1.out.lt; (try simp only at h); omega))
   have b2 := Hd.mk (show Blk W (W2.heap.size) #[.int .i64 x.kind, .int .i64 x.n, .string x.s, .slice none 0 0, .slice D1 x.names.length d1] 27 by rw [hW]; exact (Blk.all b2.out [Value.int IntKind.i64 x.kind, .int .i64 x.n, .string x.s, .slice none 0 0, .slice D1 x.names.length d1] rfl))
   have hO := Hd.mk (R_fr hO.out eF (fun k hk hl h => by skip; (try simp only [rng] at hk); (try simp only at hk); (try simp only at h); omega))
   clear hW eF
   have z6 := Hd.mk hz_; clear hz_
   have hBs := hB.out.size
   have z1_ := z1.out; have z2_ := z2.out; have z3_ := z3.out; have z4_ := z4.out; have z5_ := z5.out; have z6_ := z6.out
   rw [HRR.out]
   exact ⟨W2.heap.size, _, D1, d1, _, _, _, _, _, _, _, _, _, _, rfl, b2, b0, b1, ⟨by omega⟩, ⟨fun k hk => by have h1 := hk.1; have h2 := hk.2; refine ⟨by omega, by omega, by omega⟩⟩, hO, hB⟩
 case refine_2 =>
  rw [HRR.out]
  clear HRR
  rintro a w1 ⟨p, SN, D, d, u6, u7, u8, u9, u10, u11, u12, u13, u14, u15, rfl, bo, b0, b1, hp, hN, hO, hB1⟩
  replace hB := hB1; clear hB1
  have hlt := Hd.mk bo.out.lt
  obtain ⟨fbo_0, fbo_1, fbo_2, fbo_3, fbo_4, fbo_z⟩ := blk5 bo.out
  obtain ⟨v00, v01, v02, v03, v04, v0z⟩ := blk5 b0.out
  obtain ⟨v10, v11, v12, v13, v14, v1z⟩ := blk5 b1.out
  go_wp2_with fail
  clear fbo_0 fbo_1 fbo_2 fbo_3 fbo_4 fbo_z v00 v01 v02 v03 v04 v0z v10 v11 v12 v13 v14 v1z
  go_loopw [19] (fun i wr => ∃ k : Nat, ∃ vL : Value, k ≤ x.list.length ∧ i = .int .i64 k ∧ Hd (Blk wr p #[.int .i64 x.kind, .int .i64 x.n, .string x.s, vL, .slice D x.names.length d] 27) ∧ Hd (Blk wr w.heap.size #[.int .i64 x.kind, .int .i64 x.n, .string x.s, .slice A1 x.list.length c1, .slice A2 x.names.length c2] 27) ∧ Hd (Blk wr (w.heap.size + 1) #[.int .i64 0, .int .i64 0, .string ⟨#[]⟩, .slice none 0 0, .slice none 0 0] 27) ∧ Hd ((tJ m).R 27 wr (fun k => w.heap.size + 2 ≤ k ∧ k ≠ p ∧ ¬ SN k) vL (x.list.take k)) ∧ Hd (str.R 9 wr SN (.slice D x.names.length d) x.names) ∧ Hd (Below w.heap.size w wr) ∧ Hd (w1.heap.size ≤ wr.heap.size)) (fun i _ => x.list.length - (intOf i).toNat)
  case atStart => exact ⟨0, .slice none 0 0, Nat.zero_le _, rfl, bo, b0, b1, ⟨R_nil⟩, hO, hB, ⟨Nat.le_refl _⟩⟩
  case round =>
   clear bo b0 b1 hO hB
   obtain ⟨k, vL, hk, rfl, bo, b0, b1, hL, hO, hB, hsz1⟩ := hrel
   by_cases hlt2 : k < x.list.length
   ·obtain ⟨ad, cs0, rfl, hK0, e0, e1⟩ := C_at HR1.out hB.out k hlt2
    obtain ⟨m, rfl⟩ : ∃ m1 : Nat, m = m1 + 1 := by cases m with | zero => exact hK0.elim | succ m => exact ⟨m, rfl⟩
    obtain ⟨A3, c3, A4, c4, rfl, hs3, ⟨hc3, hr3⟩, hc4, hr4⟩ := tJ_K.1 hK0
    have hbk := Nat.le_trans (bulkL_mem (bulkJ (m + 1)) (List.getElem_mem hlt2)) (Nat.le_trans (Nat.le_add_left _ _) HLL.out)
    obtain ⟨AL, cL, hvL, hcL, _⟩ := R_C hL.out
    have htk : (x.list.take k).length = k := by rw [List.length_take]; omega
    rw [htk] at hvL
    subst hvL
    clear htk
    have x0 : wr.cell? (ad.add (k * 5)) = some (.int .i64 x.list[k].kind) := e0 _ rfl
    have x1 : wr.cell? ⟨(ad.add (k * 5)).block, (ad.add (k * 5)).off + 1, none⟩ = some (.int .i64 x.list[k].n) := e1 0 _ rfl
    have x2 : wr.cell? ⟨(ad.add (k * 5)).block, (ad.add (k * 5)).off + 2, none⟩ = some (.string x.list[k].s) := e1 1 _ rfl
    have x3 : wr.cell? ⟨(ad.add (k * 5)).block, (ad.add (k * 5)).off + 3, none⟩ = some (.slice A3 x.list[k].list.length c3) := e1 2 _ rfl
    have x4 : wr.cell? ⟨(ad.add (k * 5)).block, (ad.add (k * 5)).off + 4, none⟩ = some (.slice A4 x.list[k].names.length c4) := e1 3 _ rfl
    have HK := Hd.mk hK0; clear hK0 e0 e1 hr3 hr4
    have hlt := Hd.mk (show p < wr.heap.size from bo.out.lt)
    have hzp := hp.out
    have hzl := hlt.out
    have hsb := hB.out.size
    obtain ⟨fbo_0, fbo_1, fbo_2, fbo_3, fbo_4, fbo_z⟩ := blk5 bo.out
    obtain ⟨v00, v01, v02, v03, v04, v0z⟩ := blk5 b0.out
    obtain ⟨v10, v11, v12, v13, v14, v1z⟩ := blk5 b1.out
    go_wp2_with fail
    clear fbo_0 fbo_1 fbo_2 fbo_3 fbo_4 fbo_z v00 v01 v02 v03 v04 v0z v10 v11 v12 v13 v14 v1z
    clear x0 x1 x2 x3 x4
    have hBW := Hd.mk (Below.refl wr.heap.size wr)
    apply wp_gen; intro W3 hW
    have hz_ : wr.heap.size + 1 ≤ W3.heap.size := by rw [hW]; simp
    have hE : Below wr.heap.size wr W3 := by rw [hW]; (repeat (first | with_reducible refine below_alloc ?_ _ | with_reducible refine below_drew ?_)); exact Below.refl _ _
    have hB := hB.th hE
    have hBW := Hd.mk (below_then hBW.out hE)
    have bo := bo.dn hE
    have b0 := b0.dn hE
    have b1 := b1.dn hE
    have bp := Hd.mk (show Blk W3 (wr.heap.size) #[.int .i64 x.list[k].kind, .int .i64 x.list[k].n, .string x.list[k].s, .slice A3 x.list[k].list.length c3, .slice A4 x.list[k].names.length c4] 27 by rw [hW]; first | exact (Blk.new _ _ _) | (simpa using (Blk.new _ _ _)))
    clear hW hE
    have z1 := Hd.mk hz_; clear hz_
    obtain ⟨fbo_0, fbo_1, fbo_2, fbo_3, fbo_4, fbo_z⟩ := blk5 bo.out
    obtain ⟨v00, v01, v02, v03, v04, v0z⟩ := blk5 b0.out
    obtain ⟨v10, v11, v12, v13, v14, v1z⟩ := blk5 b1.out
    obtain ⟨fbp_0, fbp_1, fbp_2, fbp_3, fbp_4, fbp_z⟩ := blk5 bp.out
    obtain ⟨rfbo_0, rfbo_1, rfbo_2, rfbo_3, rfbo_4⟩ := reg5 fbo_0 fbo_1 fbo_2 fbo_3 fbo_4
    obtain ⟨rv00, rv01, rv02, rv03, rv04⟩ := reg5 v00 v01 v02 v03 v04
    obtain ⟨rv10, rv11, rv12, rv13, rv14⟩ := reg5 v10 v11 v12 v13 v14
    obtain ⟨rfbp_0, rfbp_1, rfbp_2, rfbp_3, rfbp_4⟩ := reg5 fbp_0 fbp_1 fbp_2 fbp_3 fbp_4
    refine region_mixT (.q 0 (.q 1 (.q 2 (.b 3 (.b 4 .fin))))) [5, 6, 7] (by kernel_rfl) (by kernel_rfl) (fun _ _ _ _ _ h => h) ?_
    refine genT ?_
    intro W4 hW
    have hS := Hd.mk (show Below W3.heap.size W3 W4 by rw [hW]; exact below_drew (Below.refl _ _))
    have hz_ : W3.heap.size ≤ W4.heap.size := by rw [hW]; simp
    have hE : Below W3.heap.size W3 W4 := by rw [hW]; (repeat (first | with_reducible refine below_alloc ?_ _ | with_reducible refine below_drew ?_)); exact Below.refl _ _
    have hB := hB.th hE
    have hBW := Hd.mk (below_then hBW.out hE)
    have bo := bo.dn hE
    have b0 := b0.dn hE
    have b1 := b1.dn hE
    have bp := bp.dn hE
    clear hW hE
    have z2 := Hd.mk hz_; clear hz_
    iterate 3 (refine mixT_q rfl ?_; go_big_quiet_want; go_big_quiet_op; go_big_quiet_on; refine wpQuiet_nil ?_)
    refine mixT_b rfl ?_ (by rfl)
    go_wp2_with fail
    apply calls_gen; intro W5 hW
    have hz_ : W4.heap.size ≤ W5.heap.size := by rw [hW]; simp
    have hE : Below W4.heap.size W4 W5 := by rw [hW]; (repeat (first | with_reducible refine below_alloc ?_ _ | with_reducible refine below_drew ?_)); exact Below.refl _ _
    have hB := hB.th hE
    have hBW := Hd.mk (below_then hBW.out hE)
    replace hS := Hd.mk (below_then hS.out hE)
    have bo := bo.dn hE
    have b0 := b0.dn hE
    have b1 := b1.dn hE
    have bp := bp.dn hE
    clear hW hE
    have z3 := Hd.mk hz_; clear hz_
    have hWs := Hd.mk (show wr.heap.size ≤ W5.heap.size by have z1_ := z1.out; have z2_ := z2.out; have z3_ := z3.out; omega)
    refine (ih x.list[k] _ _ (Ty.K_below _ hBW.out HK.out) hbk).mono ?_
    rintro e w6 ⟨cs', rfl, hO3, hX⟩
    have bo := bo.dn hX
    have b0 := b0.dn hX
    have b1 := b1.dn hX
    have bp := bp.dn hX
    have hB := hB.th hX
    replace hS := Hd.mk (below_then hS.out hX)
    have hz_ := hX.size
    have hBW := Hd.mk (below_then hBW.out hX)
    have z4 := Hd.mk hz_; clear hz_
    obtain ⟨v3, v4, _, _, rfl, hsz3, hr3, hr4, _⟩ := tJ_O.1 hO3
    obtain ⟨D3, d3, rfl, _, _⟩ := R_C hr3
    obtain ⟨D4, d4, rfl, _, _⟩ := R_C hr4
    have HO3 := Hd.mk hO3; clear hO3 hr3 hr4 hX
    go_wp2_with fail
    refine ⟨cls_below hS.out, ?_⟩
    refine mixT_b rfl ?_ (by rfl)
    go_wp2_with fail
    refine ⟨cls_below (below_alloc hS.out _), ?_⟩
    refine mixT_fin ?_
    clear hS
    clear rfbo_0 rfbo_1 rfbo_2 rfbo_3 rfbo_4 rv00 rv01 rv02 rv03 rv04 rv10 rv11 rv12 rv13 rv14 rfbp_0 rfbp_1 rfbp_2 rfbp_3 rfbp_4
    clear fbo_0 fbo_1 fbo_2 fbo_3 fbo_4 fbo_z v00 v01 v02 v03 v04 v0z v10 v11 v12 v13 v14 v1z fbp_0 fbp_1 fbp_2 fbp_3 fbp_4 fbp_z
    obtain ⟨fbo_0, fbo_1, fbo_2, fbo_3, fbo_4, fbo_z⟩ := blk5 bo.out
    obtain ⟨v00, v01, v02, v03, v04, v0z⟩ := blk5 b0.out
    obtain ⟨v10, v11, v12, v13, v14, v1z⟩ := blk5 b1.out
    obtain ⟨fbp_0, fbp_1, fbp_2, fbp_3, fbp_4, fbp_z⟩ := blk5 bp.out
    refine tail_b rfl ?_ (by rfl)
    have hLb := Hd.mk (R_below (R_bound hL.out) hBW.out)
    have hOb := Hd.mk (R_below (R_bound hO.out) hBW.out)
    have hsW := hWs.out
    go_wp2_with (at_builtin; refine append_one (tJ (m + 1)) rfl _ _ 24 27 (.agg #[.int .i64 0, .int .i64 0, .string ByteArray.empty, .slice none 0 0, .slice none 0 0]) 80 rfl Tryd.underlying24 info_JsonS rfl (by rw [tJ_sz]; omega) (by decide) (S := fun k => (fun k => w.heap.size + 2 ≤ k ∧ k ≠ p ∧ ¬ SN k) k ∧ k < wr.heap.size) (T := fun k => W5.heap.size ≤ k) (S' := (fun k => w.heap.size + 2 ≤ k ∧ k ≠ p ∧ ¬ SN k)) (v := .slice AL k cL) (xs := x.list.take k) x.list[k] [Value.int IntKind.i64 x.list[k].kind, .int .i64 x.list[k].n, .string x.list[k].s, .slice D3 x.list[k].list.length d3, .slice D4 x.list[k].names.length d4] rfl rfl hLb.out HO3.out (fun k h1 hl h2 => by have := h2.2; omega) (fun k h => h.1) (fun k h => ⟨by omega, by omega, fun h3 => by have := (hN.out k h3).2.1; have := hsz1.out; omega⟩) (fun k h => ⟨by have z1_ := z1.out; have z2_ := z2.out; have z3_ := z3.out; have z4_ := z4.out; omega, by have z1_ := z1.out; have z2_ := z2.out; have z3_ := z3.out; have z4_ := z4.out; omega, fun h3 => by have z1_ := z1.out; have z2_ := z2.out; have z3_ := z3.out; have z4_ := z4.out; have := (hN.out k h3).2.1; have := hsz1.out; omega⟩) (by simp; omega) (fun v5 w7 hv5 hX => ?_); obtain ⟨D5, d5, hv5e, _, _⟩ := R_C hv5; subst hv5e)
    have z1_ := z1.out; have z2_ := z2.out; have z3_ := z3.out; have z4_ := z4.out
    have bo := Hd.mk (bo.out.fr (S := _) hX (fun h => by have h1 := h.1.1; have h2 := h.1.2.1; have h3 := h.2; omega))
    have b0 := Hd.mk (b0.out.fr (S := _) hX (fun h => by have h1 := h.1.1; have h2 := h.1.2.1; have h3 := h.2; omega))
    have b1 := Hd.mk (b1.out.fr (S := _) hX (fun h => by have h1 := h.1.1; have h2 := h.1.2.1; have h3 := h.2; omega))
    have bp := Hd.mk (bp.out.fr (S := _) hX (fun h => by have h1 := h.1.1; have h2 := h.1.2.1; have h3 := h.2; omega))
    have hO6 := Hd.mk (R_fr hOb.out hX (fun k hk _ h => h.1.2.2 hk.1))
    have hB := Hd.mk (below_frS hB.out hX (fun k h => by have := h.1.1; omega))
    have hw5 := Hd.mk (show w1.heap.size ≤ w7.heap.size by have := hX.size; have := hsz1.out; omega)
    clear hX hOb
    have hL5 := Hd.mk hv5; clear hv5 hLb
    obtain ⟨fbo_0, fbo_1, fbo_2, fbo_3, fbo_4, fbo_z⟩ := blk5 bo.out
    obtain ⟨v00, v01, v02, v03, v04, v0z⟩ := blk5 b0.out
    obtain ⟨v10, v11, v12, v13, v14, v1z⟩ := blk5 b1.out
    obtain ⟨fbp_0, fbp_1, fbp_2, fbp_3, fbp_4, fbp_z⟩ := blk5 bp.out
    refine mixQ_n ?_
    refine tail_b rfl ?_ (by rfl)
    go_wp2_with fail
    refine mixQ_n ?_
    refine tail_b rfl ?_ (by rfl)
    go_wp2_with fail
    refine mixQ_n ?_
    refine tail_nil ?_
    go_wp2_with fail
    clear fbo_0 fbo_1 fbo_2 fbo_3 fbo_4 fbo_z v00 v01 v02 v03 v04 v0z v10 v11 v12 v13 v14 v1z fbp_0 fbp_1 fbp_2 fbp_3 fbp_4 fbp_z
    go_roundw
    case rel =>
     refine ⟨k + 1, _, by omega, by go_num, ⟨bo.out.set 3 _⟩, ⟨b0.out.other _ (by simp only; omega) _⟩, ⟨b1.out.other _ (by simp only; omega) _⟩, ⟨?_⟩, ⟨?_⟩, ⟨?_⟩, ⟨?_⟩⟩
     ·rw [List.take_succ_eq_append_getElem hlt2]
      have h5 := hL5.out
      exact R_setCell (by simpa using h5) (fun h => h.2.1 rfl) _
     ·exact R_mono (fun k h => h.1) (R_setCell hO6.out (fun h => (hN.out _ h.1).2.2 rfl) _)
     ·exact ((Fr.of_below hB.out (fun k => k = p)).setCell ⟨p, 3, none⟩ (fun _ => rfl) _).below (fun k h => by omega)
     ·simp; exact hw5.out
    case measure => simp [intOf]; omega
   ·obtain rfl : k = x.list.length := by omega
    obtain ⟨AL, cL, hvL, hcL, _⟩ := R_C hL.out
    subst hvL
    have hzp := hp.out
    have hzl := bo.out.lt
    have hsb := hB.out.size
    obtain ⟨fbo_0, fbo_1, fbo_2, fbo_3, fbo_4, fbo_z⟩ := blk5 bo.out
    obtain ⟨v00, v01, v02, v03, v04, v0z⟩ := blk5 b0.out
    obtain ⟨v10, v11, v12, v13, v14, v1z⟩ := blk5 b1.out
    go_wp2_with fail
    refine bodyPost_retW (v := .agg #[.int .i64 x.kind, .int .i64 x.n, .string x.s, .slice AL x.list.length cL, .slice D x.names.length d]) (by simp [results, Tryd.results43, go_sem, fbo_0, fbo_1, fbo_2, fbo_3, fbo_4, fbo_z, v00, v01, v02, v03, v04, v0z, v10, v11, v12, v13, v14, v1z]) rfl ?_
    intro W hW
    clear fbo_0 fbo_1 fbo_2 fbo_3 fbo_4 fbo_z v00 v01 v02 v03 v04 v0z v10 v11 v12 v13 v14 v1z
    have eF : Fr wr W (fun k => k = w.heap.size + 1) := by rw [hW]; (repeat (first | with_reducible refine Fr.setCell ?_ _ (fun _ => by simp) _)); exact Fr.refl _ _
    have hLf := R_fr hL.out eF (fun k hk _ h => by have := hk.1; (try simp only at h); omega)
    rw [List.take_length] at hLf
    have hOf := R_fr hO.out eF (fun k hk _ h => by have := (hN.out k hk).1; (try simp only at h); omega)
    skip
    refine ⟨[Value.int IntKind.i64 x.kind, .int .i64 x.n, .string x.s, .slice AL x.list.length cL, .slice D x.names.length d], rfl, tJ_O.2 ⟨_, _, (fun k => w.heap.size + 2 ≤ k ∧ k ≠ p ∧ ¬ SN k), SN, rfl, hs, by simpa using hLf, hOf, fun k h => by have := h.1; omega, fun k h => by have := (hN.out k h).1; omega, fun k h h2 => h.2.2 h2⟩, ((Fr.of_below hB.out (fun k => k = w.heap.size + 1)).then_ eF (fun k h _ => h)).below (fun k h => by omega)⟩
theorem impl_copyJson_all : ∀ m, CopyJ m
 | 0 => fun x cs w hk _ => hk.elim
 | m + 1 => impl_copyJson_of (impl_copyJson_all m)
theorem impl_copyJson {m : Nat} (x : J) (cs : List Value) (w : World) (hk : (tJ m).K w x cs) (hl : bulkJ m x ≤ 4194304) :
  Calls Tryd.prog 43 #[.agg cs.toArray] w fun e w' => ∃ cs', e = .returned (.agg cs'.toArray) ∧ (tJ m).O w' (fun k => w.heap.size ≤ k) x cs' ∧ Below w.heap.size w w' := impl_copyJson_all m x cs w hk hl
def CopyL (m : Nat) : Prop := ∀ (x : J) (cs : List Value) (w : World), (tJ m).K w x cs → bulkJ m x ≤ 4194304 →
 Calls Tryd.prog 46 #[.agg cs.toArray] w fun e w' => ∃ cs', e = .returned (.agg cs'.toArray) ∧ (tJ m).O w' (fun k => w.heap.size ≤ k) x cs' ∧ Below w.heap.size w w'
set_option maxHeartbeats 4000000 in
set_option maxRecDepth 100000 in
theorem spec_l1Copy_of {m : Nat} (ih : CopyL m) : CopyL (m + 1) := by
 intro x cs w hk hl
 obtain ⟨A1, c1, A2, c2, rfl, hs, ⟨hc1, hr1⟩, hc2, hr2⟩ := tJ_K.1 hk
 have hm1 := hr1.1
 have HR1 := Hd.mk hr1; clear hr1
 have HR2 := Hd.mk hr2; clear hr2 hk
 replace hl : x.s.size + bulkJS m x.list + bulkStringS x.names ≤ 4194304 := hl
 have hlN : x.names.length ≤ 4194304 := by simp only [bulkStringS] at hl; omega
 have hlL : x.list.length ≤ 4194304 := by simp only [bulkJS] at hl; omega
 have HLL := Hd.mk (show bulkJS m x.list ≤ 4194304 by omega); clear hl
 have hB := Hd.mk (Below.refl w.heap.size w)
 go_enter Tryd.func46, Tryd.ntmps46
 go_wp2_with fail
 apply wp_gen; intro W1 hW
 have hz_ : w.heap.size + 2 ≤ W1.heap.size := by rw [hW]; simp
 have hE : Below w.heap.size w W1 := by rw [hW]; (repeat (first | with_reducible refine below_alloc ?_ _ | with_reducible refine below_drew ?_)); exact Below.refl _ _
 have hB := hB.th hE
 have b0 := Hd.mk (show Blk W1 (w.heap.size) #[.int .i64 x.kind, .int .i64 x.n, .string x.s, .slice A1 x.list.length c1, .slice A2 x.names.length c2] 27 by rw [hW]; first | exact ((Blk.new _ _ _).alloc _) | (simpa using ((Blk.new _ _ _).alloc _)))
 have b1 := Hd.mk (show Blk W1 (w.heap.size + 1) #[.int .i64 0, .int .i64 0, .string ⟨#[]⟩, .slice none 0 0, .slice none 0 0] 27 by rw [hW]; first | exact (Blk.new1 _ _ _ _) | (simpa using (Blk.new1 _ _ _ _)))
 clear hW hE
 have z1 := Hd.mk hz_; clear hz_
 obtain ⟨RR, hRR⟩ : ∃ RR : Act → World → Prop, RR = (fun a w' => ∃ (p : Nat) (SN : Nat → Prop) (D : Option Addr) (d : Nat) (u5 u6 u7 u8 u9 u10 u11 u12 u13 u14 u15 : Value), a = ⟨#[.agg #[.int .i64 x.kind, .int .i64 x.n, .string x.s, .slice A1 x.list.length c1, .slice A2 x.names.length c2], .pointer (some ⟨w.heap.size, 0, none⟩), .pointer (some ⟨w.heap.size + 1, 0, none⟩), .pointer (some ⟨p, 0, none⟩), undef, u5, u6, u7, u8, u9, u10, u11, u12, u13, u14, u15, undef, undef, undef, undef, undef, undef, undef, undef, undef, undef, undef, undef, undef, undef, undef, undef, undef, undef, undef], []⟩ ∧ Hd (Blk w' p #[.int .i64 x.kind, .int .i64 x.n, .string x.s, .slice none 0 0, .slice D x.names.length d] 27) ∧ Hd (Blk w' w.heap.size #[.int .i64 x.kind, .int .i64 x.n, .string x.s, .slice A1 x.list.length c1, .slice A2 x.names.length c2] 27) ∧ Hd (Blk w' (w.heap.size + 1) #[.int .i64 0, .int .i64 0, .string ⟨#[]⟩, .slice none 0 0, .slice none 0 0] 27) ∧ Hd (w.heap.size + 2 ≤ p) ∧ Hd (∀ k, SN k → w.heap.size + 2 ≤ k ∧ k < w'.heap.size ∧ k ≠ p) ∧ Hd (str.R 9 w' SN (.slice D x.names.length d) x.names) ∧ Hd (Below w.heap.size w w')) := ⟨_, rfl⟩
 have HRR := Hd.mk hRR; clear hRR
 refine region_to RR ?_ ?_
 case refine_1 =>
  obtain ⟨v00, v01, v02, v03, v04, v0z⟩ := blk5 b0.out
  obtain ⟨v10, v11, v12, v13, v14, v1z⟩ := blk5 b1.out
  obtain ⟨rv00, rv01, rv02, rv03, rv04⟩ := reg5 v00 v01 v02 v03 v04
  obtain ⟨rv10, rv11, rv12, rv13, rv14⟩ := reg5 v10 v11 v12 v13 v14
  refine region_mixT (.q 0 (.q 1 (.q 2 (.q 3 (.q 4 (.q 5 (.q 7 (.q 8 (.br 6 11 (.br 9 11 (.q 10 (.b 11 .fin)) (.b 9 (.q 10 .fin))) (.b 6 (.b 9 (.q 10 .fin)))))))))))) [12] (by kernel_rfl) (by kernel_rfl) (fun _ _ _ _ _ h => h) ?_
  refine genT ?_
  intro W2 hW
  have hS := Hd.mk (show Below W1.heap.size W1 W2 by rw [hW]; exact below_drew (Below.refl _ _))
  have hz_ : W1.heap.size ≤ W2.heap.size := by rw [hW]; simp
  have hE : Below W1.heap.size W1 W2 := by rw [hW]; (repeat (first | with_reducible refine below_alloc ?_ _ | with_reducible refine below_drew ?_)); exact Below.refl _ _
  have hB := hB.th hE
  have b0 := b0.dn hE
  have b1 := b1.dn hE
  clear hW hE
  have z2 := Hd.mk hz_; clear hz_
  iterate 8 (refine mixT_q rfl ?_; go_big_quiet_want; go_big_quiet_op; go_big_quiet_on; refine wpQuiet_nil ?_)
  refine ⟨?_, ?_⟩
  ·refine stepM_of rfl ?_ (by rfl)
   go_wp2_with fail
   refine ⟨cls_below (below_alloc hS.out _), ?_⟩
   refine genT ?_; intro W3 hW
   have hE0 := Hd.mk (show str.R 9 W3 (rng W2.heap.size (W2.heap.size + 1)) (.slice (some ⟨W2.heap.size, 0, none⟩) 0 0) [] by rw [hW]; exact R_mono (fun k h => by simpa [rng] using h) (R_bound (R_empty str 9 W2)))
   have hz_ : W2.heap.size + 1 ≤ W3.heap.size := by rw [hW]; simp
   have hE : Below W2.heap.size W2 W3 := by rw [hW]; (repeat (first | with_reducible refine below_alloc ?_ _ | with_reducible refine below_drew ?_)); exact Below.refl _ _
   have hB := hB.th hE
   replace hS := Hd.mk (below_then hS.out hE)
   have b0 := b0.dn hE
   have b1 := b1.dn hE
   clear hW hE
   have z3 := Hd.mk hz_; clear hz_
   refine ⟨?_, ?_⟩
   ·refine stepM_of rfl ?_ (by rfl)
    have hSz := hB.out.size
    have z1_ := z1.out; have z2_ := z2.out; have z3_ := z3.out
    go_wp2_with (at_builtin; refine append_str rfl _ _ 25 9 (.string ByteArray.empty) 16 rfl Tryd.underlying25 info_str rfl (by decide) (S := rng W2.heap.size (W2.heap.size + 1)) (S' := (fun k => k = W2.heap.size ∨ W3.heap.size ≤ k)) rfl rfl hE0.out (C_below HR2.out hB.out) (fun k h => Or.inl (by have h1 := h.1; have h2 := h.2; omega)) (fun k h => Or.inr h) (by simp; omega) (fun v1 w4 hv hX => ?_); obtain ⟨D1, d1, rfl, _, _⟩ := R_C hv)
    clear hE0
    have z1_ := z1.out; have z2_ := z2.out; have z3_ := z3.out
    have hSz := hB.out.size
    have b0 := Hd.mk (b0.out.fr hX (fun h => by have hlt_ := b0.out.lt; skip; (try simp only [rng] at h); (try simp only at h); omega))
    have b1 := Hd.mk (b1.out.fr hX (fun h => by have hlt_ := b1.out.lt; skip; (try simp only [rng] at h); (try simp only at h); omega))
    replace hS := Hd.mk (below_frS hS.out hX (fun k h => by (try simp only [rng] at h); (try simp only at h); omega))
    have hB := Hd.mk (below_frS hB.out hX (fun k h => by skip; (try simp only [rng] at h); (try simp only at h); omega))
    have hz_ := hX.size
    clear hX
    have z4 := Hd.mk hz_; clear hz_
    have hO := Hd.mk (R_bound hv); clear hv
    refine ⟨cls_below hS.out, ?_⟩
    refine mixT_q rfl ?_
    go_big_quiet_want; go_big_quiet_op; go_big_quiet_on; refine wpQuiet_nil ?_
    refine mixT_b rfl ?_ (by rfl)
    go_wp2_with fail
    refine ⟨cls_below (below_alloc hS.out _), ?_⟩
    refine genT ?_; intro W5 hW
    have hz_ : w4.heap.size + 1 ≤ W5.heap.size := by rw [hW]; simp
    have hE : Below w4.heap.size w4 W5 := by rw [hW]; (repeat (first | with_reducible refine below_alloc ?_ _ | with_reducible refine below_drew ?_)); exact Below.refl _ _
    have hB := hB.th hE
    replace hS := Hd.mk (below_then hS.out hE)
    have b0 := b0.dn hE
    have b1 := b1.dn hE
    have b2 := Hd.mk (show Blk W5 (w4.heap.size) #[.int .i64 0, .int .i64 0, .string ⟨#[]⟩, .slice none 0 0, .slice none 0 0] 27 by rw [hW]; first | exact (Blk.new _ _ _) | (simpa using (Blk.new _ _ _)))
    have hO := Hd.mk (R_below hO.out hE)
    clear hW hE
    have z5 := Hd.mk hz_; clear hz_
    refine mixT_fin ?_
    clear hS
    clear rv00 rv01 rv02 rv03 rv04 rv10 rv11 rv12 rv13 rv14
    clear v00 v01 v02 v03 v04 v0z v10 v11 v12 v13 v14 v1z
    obtain ⟨v00, v01, v02, v03, v04, v0z⟩ := blk5 b0.out
    obtain ⟨v10, v11, v12, v13, v14, v1z⟩ := blk5 b1.out
    obtain ⟨v20, v21, v22, v23, v24, v2z⟩ := blk5 b2.out
    refine tail_b rfl ?_ (by rfl)
    go_wp2_with fail
    refine mixQ_n ?_
    refine tail_nil ?_
    refine region_gen ?_; intro W hW
    clear v00 v01 v02 v03 v04 v0z v10 v11 v12 v13 v14 v1z v20 v21 v22 v23 v24 v2z
    have hz_ : W5.heap.size ≤ W.heap.size := by rw [hW]; simp
    have eF : Fr W5 W (fun k => k = w4.heap.size ∨ W5.heap.size ≤ k) := by rw [hW]; (repeat (first | with_reducible refine Fr.setCell ?_ _ (fun _ => by simp <;> omega) _ | with_reducible refine Fr.alloc ?_ _ | with_reducible refine Fr.drew ?_)); exact Fr.refl _ _
    have z1_ := z1.out; have z2_ := z2.out; have z3_ := z3.out; have z4_ := z4.out; have z5_ := z5.out
    have hB := Hd.mk (((Fr.of_below hB.out (fun k => k = w4.heap.size ∨ W5.heap.size ≤ k)).then_ eF (fun k hk _ => hk)).below (fun k hk => by have := hB.out.size; omega))
    have b0 := Hd.mk (b0.out.fr eF (fun h => by have hlt_ := b0.out.lt; (try simp only at h); omega))
    have b1 := Hd.mk (b1.out.fr eF (fun h => by have hlt_ := b1.out.lt; (try simp only at h); omega))
    have b2 := Hd.mk (show Blk W (w4.heap.size) #[.int .i64 x.kind, .int .i64 x.n, .string x.s, .slice none 0 0, .slice D1 x.names.length d1] 27 by rw [hW]; exact (Blk.all b2.out [Value.int IntKind.i64 x.kind, .int .i64 x.n, .string x.s, .slice none 0 0, .slice D1 x.names.length d1] rfl))
    have hO := Hd.mk (R_fr hO.out eF (fun k hk hl h => by skip; (try simp only [rng] at hk); (try simp only at hk); (try simp only at h); omega))
    clear hW eF
    have z6 := Hd.mk hz_; clear hz_
    have hBs := hB.out.size
    have z1_ := z1.out; have z2_ := z2.out; have z3_ := z3.out; have z4_ := z4.out; have z5_ := z5.out; have z6_ := z6.out
    rw [HRR.out]
    exact ⟨w4.heap.size, _, D1, d1, _, _, _, _, _, _, _, _, _, _, _, rfl, b2, b0, b1, ⟨by omega⟩, ⟨fun k hk => by have h2 := hk.2; rcases hk.1 with h1 | h1 <;> refine ⟨by omega, by omega, by omega⟩⟩, hO, hB⟩
   ·refine stepM_of rfl ?_ (by rfl)
    go_wp2_with fail
    refine ⟨cls_below (below_alloc hS.out _), ?_⟩
    refine genT ?_; intro W4 hW
    have hz_ : W3.heap.size + 1 ≤ W4.heap.size := by rw [hW]; simp
    have hE : Below W3.heap.size W3 W4 := by rw [hW]; (repeat (first | with_reducible refine below_alloc ?_ _ | with_reducible refine below_drew ?_)); exact Below.refl _ _
    have hB := hB.th hE
    replace hS := Hd.mk (below_then hS.out hE)
    have b0 := b0.dn hE
    have b1 := b1.dn hE
    have b2 := Hd.mk (show Blk W4 (W3.heap.size) #[.int .i64 0, .int .i64 0, .string ⟨#[]⟩, .slice none 0 0, .slice none 0 0] 27 by rw [hW]; first | exact (Blk.new _ _ _) | (simpa using (Blk.new _ _ _)))
    have hE0 := Hd.mk (R_below hE0.out hE)
    clear hW hE
    have z4 := Hd.mk hz_; clear hz_
    refine mixT_b rfl ?_ (by rfl)
    have hSz := hB.out.size
    have z1_ := z1.out; have z2_ := z2.out; have z3_ := z3.out; have z4_ := z4.out
    go_wp2_with (at_builtin; refine append_str rfl _ _ 25 9 (.string ByteArray.empty) 16 rfl Tryd.underlying25 info_str rfl (by decide) (S := rng W2.heap.size (W2.heap.size + 1)) (S' := (fun k => k = W2.heap.size ∨ W4.heap.size ≤ k)) rfl rfl hE0.out (C_below HR2.out hB.out) (fun k h => Or.inl (by have h1 := h.1; have h2 := h.2; omega)) (fun k h => Or.inr h) (by simp; omega) (fun v1 w5 hv hX => ?_); obtain ⟨D1, d1, rfl, _, _⟩ := R_C hv)
    clear hE0
    have z1_ := z1.out; have z2_ := z2.out; have z3_ := z3.out; have z4_ := z4.out
    have hSz := hB.out.size
    have b0 := Hd.mk (b0.out.fr hX (fun h => by have hlt_ := b0.out.lt; skip; (try simp only [rng] at h); (try simp only at h); omega))
    have b1 := Hd.mk (b1.out.fr hX (fun h => by have hlt_ := b1.out.lt; skip; (try simp only [rng] at h); (try simp only at h); omega))
    have b2 := Hd.mk (b2.out.fr hX (fun h => by have hlt_ := b2.out.lt; skip; (try simp only [rng] at h); (try simp only at h); omega))
    replace hS := Hd.mk (below_frS hS.out hX (fun k h => by (try simp only [rng] at h); (try simp only at h); omega))
    have hB := Hd.mk (below_frS hB.out hX (fun k h => by skip; (try simp only [rng] at h); (try simp only at h); omega))
    have hz_ := hX.size
    clear hX
    have z5 := Hd.mk hz_; clear hz_
    have hO := Hd.mk (R_bound hv); clear hv
    refine ⟨cls_below hS.out, ?_⟩
    refine mixT_q rfl ?_
    go_big_quiet_want; go_big_quiet_op; go_big_quiet_on; refine wpQuiet_nil ?_
    refine mixT_fin ?_
    clear hS
    clear rv00 rv01 rv02 rv03 rv04 rv10 rv11 rv12 rv13 rv14
    clear v00 v01 v02 v03 v04 v0z v10 v11 v12 v13 v14 v1z
    obtain ⟨v00, v01, v02, v03, v04, v0z⟩ := blk5 b0.out
    obtain ⟨v10, v11, v12, v13, v14, v1z⟩ := blk5 b1.out
    obtain ⟨v20, v21, v22, v23, v24, v2z⟩ := blk5 b2.out
    refine tail_b rfl ?_ (by rfl)
    go_wp2_with fail
    refine mixQ_n ?_
    refine tail_nil ?_
    refine region_gen ?_; intro W hW
    clear v00 v01 v02 v03 v04 v0z v10 v11 v12 v13 v14 v1z v20 v21 v22 v23 v24 v2z
    have hz_ : w5.heap.size ≤ W.heap.size := by rw [hW]; simp
    have eF : Fr w5 W (fun k => k = W3.heap.size ∨ w5.heap.size ≤ k) := by rw [hW]; (repeat (first | with_reducible refine Fr.setCell ?_ _ (fun _ => by simp <;> omega) _ | with_reducible refine Fr.alloc ?_ _ | with_reducible refine Fr.drew ?_)); exact Fr.refl _ _
    have z1_ := z1.out; have z2_ := z2.out; have z3_ := z3.out; have z4_ := z4.out; have z5_ := z5.out
    have hB := Hd.mk (((Fr.of_below hB.out (fun k => k = W3.heap.size ∨ w5.heap.size ≤ k)).then_ eF (fun k hk _ => hk)).below (fun k hk => by have := hB.out.size; omega))
    have b0 := Hd.mk (b0.out.fr eF (fun h => by have hlt_ := b0.out.lt; (try simp only at h); omega))
    have b1 := Hd.mk (b1.out.fr eF (fun h => by have hlt_ := b1.out.lt; (try simp only at h); omega))
    have b2 := Hd.mk (show Blk W (W3.heap.size) #[.int .i64 x.kind, .int .i64 x.n, .string x.s, .slice none 0 0, .slice D1 x.names.length d1] 27 by rw [hW]; exact (Blk.all b2.out [Value.int IntKind.i64 x.kind, .int .i64 x.n, .string x.s, .slice none 0 0, .slice D1 x.names.length d1] rfl))
    have hO := Hd.mk (R_fr hO.out eF (fun k hk hl h => by skip; (try simp only [rng] at hk); (try simp only at hk); (try simp only at h); omega))
    clear hW eF
    have z6 := Hd.mk hz_; clear hz_
    have hBs := hB.out.size
    have z1_ := z1.out; have z2_ := z2.out; have z3_ := z3.out; have z4_ := z4.out; have z5_ := z5.out; have z6_ := z6.out
    rw [HRR.out]
    exact ⟨W3.heap.size, _, D1, d1, _, _, _, _, _, _, _, _, _, _, _, rfl, b2, b0, b1, ⟨by omega⟩, ⟨fun k hk => by have h2 := hk.2; rcases hk.1 with h1 | h1 <;> refine ⟨by omega, by omega, by omega⟩⟩, hO, hB⟩
  ·refine stepM_of rfl ?_ (by rfl)
   go_wp2_with fail
   refine ⟨cls_below (below_alloc hS.out _), ?_⟩
   refine genT ?_; intro W3 hW
   have hz_ : W2.heap.size + 1 ≤ W3.heap.size := by rw [hW]; simp
   have hE : Below W2.heap.size W2 W3 := by rw [hW]; (repeat (first | with_reducible refine below_alloc ?_ _ | with_reducible refine below_drew ?_)); exact Below.refl _ _
   have hB := hB.th hE
   replace hS := Hd.mk (below_then hS.out hE)
   have b0 := b0.dn hE
   have b1 := b1.dn hE
   have b2 := Hd.mk (show Blk W3 (W2.heap.size) #[.int .i64 0, .int .i64 0, .string ⟨#[]⟩, .slice none 0 0, .slice none 0 0] 27 by rw [hW]; first | exact (Blk.new _ _ _) | (simpa using (Blk.new _ _ _)))
   clear hW hE
   have z3 := Hd.mk hz_; clear hz_
   refine mixT_b rfl ?_ (by rfl)
   go_wp2_with fail
   refine ⟨cls_below (below_alloc hS.out _), ?_⟩
   refine genT ?_; intro W4 hW
   have hE0 := Hd.mk (show str.R 9 W4 (rng W3.heap.size (W3.heap.size + 1)) (.slice (some ⟨W3.heap.size, 0, none⟩) 0 0) [] by rw [hW]; exact R_mono (fun k h => by simpa [rng] using h) (R_bound (R_empty str 9 W3)))
   have hz_ : W3.heap.size + 1 ≤ W4.heap.size := by rw [hW]; simp
   have hE : Below W3.heap.size W3 W4 := by rw [hW]; (repeat (first | with_reducible refine below_alloc ?_ _ | with_reducible refine below_drew ?_)); exact Below.refl _ _
   have hB := hB.th hE
   replace hS := Hd.mk (below_then hS.out hE)
   have b0 := b0.dn hE
   have b1 := b1.dn hE
   have b2 := b2.dn hE
   clear hW hE
   have z4 := Hd.mk hz_; clear hz_
   refine mixT_b rfl ?_ (by rfl)
   have hSz := hB.out.size
   have z1_ := z1.out; have z2_ := z2.out; have z3_ := z3.out; have z4_ := z4.out
   go_wp2_with (at_builtin; refine append_str rfl _ _ 25 9 (.string ByteArray.empty) 16 rfl Tryd.underlying25 info_str rfl (by decide) (S := rng W3.heap.size (W3.heap.size + 1)) (S' := (fun k => k = W3.heap.size ∨ W4.heap.size ≤ k)) rfl rfl hE0.out (C_below HR2.out hB.out) (fun k h => Or.inl (by have h1 := h.1; have h2 := h.2; omega)) (fun k h => Or.inr h) (by simp; omega) (fun v1 w5 hv hX => ?_); obtain ⟨D1, d1, rfl, _, _⟩ := R_C hv)
   clear hE0
   have z1_ := z1.out; have z2_ := z2.out; have z3_ := z3.out; have z4_ := z4.out
   have hSz := hB.out.size
   have b0 := Hd.mk (b0.out.fr hX (fun h => by have hlt_ := b0.out.lt; skip; (try simp only [rng] at h); (try simp only at h); omega))
   have b1 := Hd.mk (b1.out.fr hX (fun h => by have hlt_ := b1.out.lt; skip; (try simp only [rng] at h); (try simp only at h); omega))
   have b2 := Hd.mk (b2.out.fr hX (fun h => by have hlt_ := b2.out.lt; skip; (try simp only [rng] at h); (try simp only at h); omega))
   replace hS := Hd.mk (below_frS hS.out hX (fun k h => by (try simp only [rng] at h); (try simp only at h); omega))
   have hB := Hd.mk (below_frS hB.out hX (fun k h => by skip; (try simp only [rng] at h); (try simp only at h); omega))
   have hz_ := hX.size
   clear hX
   have z5 := Hd.mk hz_; clear hz_
   have hO := Hd.mk (R_bound hv); clear hv
   refine ⟨cls_below hS.out, ?_⟩
   refine mixT_q rfl ?_
   go_big_quiet_want; go_big_quiet_op; go_big_quiet_on; refine wpQuiet_nil ?_
   refine mixT_fin ?_
   clear hS
   clear rv00 rv01 rv02 rv03 rv04 rv10 rv11 rv12 rv13 rv14
   clear v00 v01 v02 v03 v04 v0z v10 v11 v12 v13 v14 v1z
   obtain ⟨v00, v01, v02, v03, v04, v0z⟩ := blk5 b0.out
   obtain ⟨v10, v11, v12, v13, v14, v1z⟩ := blk5 b1.out
   obtain ⟨v20, v21, v22, v23, v24, v2z⟩ := blk5 b2.out
   refine tail_b rfl ?_ (by rfl)
   go_wp2_with fail
   refine mixQ_n ?_
   refine tail_nil ?_
   refine region_gen ?_; intro W hW
   clear v00 v01 v02 v03 v04 v0z v10 v11 v12 v13 v14 v1z v20 v21 v22 v23 v24 v2z
   have hz_ : w5.heap.size ≤ W.heap.size := by rw [hW]; simp
   have eF : Fr w5 W (fun k => k = W2.heap.size ∨ w5.heap.size ≤ k) := by rw [hW]; (repeat (first | with_reducible refine Fr.setCell ?_ _ (fun _ => by simp <;> omega) _ | with_reducible refine Fr.alloc ?_ _ | with_reducible refine Fr.drew ?_)); exact Fr.refl _ _
   have z1_ := z1.out; have z2_ := z2.out; have z3_ := z3.out; have z4_ := z4.out; have z5_ := z5.out
   have hB := Hd.mk (((Fr.of_below hB.out (fun k => k = W2.heap.size ∨ w5.heap.size ≤ k)).then_ eF (fun k hk _ => hk)).below (fun k hk => by have := hB.out.size; omega))
   have b0 := Hd.mk (b0.out.fr eF (fun h => by have hlt_ := b0.out.lt; (try simp only at h); omega))
   have b1 := Hd.mk (b1.out.fr eF (fun h => by have hlt_ := b1.out.lt; (try simp only at h); omega))
   have b2 := Hd.mk (show Blk W (W2.heap.size) #[.int .i64 x.kind, .int .i64 x.n, .string x.s, .slice none 0 0, .slice D1 x.names.length d1] 27 by rw [hW]; exact (Blk.all b2.out [Value.int IntKind.i64 x.kind, .int .i64 x.n, .string x.s, .slice none 0 0, .slice D1 x.names.length d1] rfl))
   have hO := Hd.mk (R_fr hO.out eF (fun k hk hl h => by skip; (try simp only [rng] at hk); (try simp only at hk); (try simp only at h); omega))
   clear hW eF
   have z6 := Hd.mk hz_; clear hz_
   have hBs := hB.out.size
   have z1_ := z1.out; have z2_ := z2.out; have z3_ := z3.out; have z4_ := z4.out; have z5_ := z5.out; have z6_ := z6.out
   rw [HRR.out]
   exact ⟨W2.heap.size, _, D1, d1, _, _, _, _, _, _, _, _, _, _, _, rfl, b2, b0, b1, ⟨by omega⟩, ⟨fun k hk => by have h2 := hk.2; rcases hk.1 with h1 | h1 <;> refine ⟨by omega, by omega, by omega⟩⟩, hO, hB⟩
 case refine_2 =>
  rw [HRR.out]
  clear HRR
  rintro a w1 ⟨p, SN, D, d, u5, u6, u7, u8, u9, u10, u11, u12, u13, u14, u15, rfl, bo, b0, b1, hp, hN, hO, hB1⟩
  replace hB := hB1; clear hB1
  have hlt := Hd.mk bo.out.lt
  obtain ⟨fbo_0, fbo_1, fbo_2, fbo_3, fbo_4, fbo_z⟩ := blk5 bo.out
  obtain ⟨v00, v01, v02, v03, v04, v0z⟩ := blk5 b0.out
  obtain ⟨v10, v11, v12, v13, v14, v1z⟩ := blk5 b1.out
  go_wp2_with fail
  clear fbo_0 fbo_1 fbo_2 fbo_3 fbo_4 fbo_z v00 v01 v02 v03 v04 v0z v10 v11 v12 v13 v14 v1z
  go_loopw [4] (fun i wr => ∃ k : Nat, ∃ vL : Value, k ≤ x.list.length ∧ i = .int .i64 k ∧ Hd (Blk wr p #[.int .i64 x.kind, .int .i64 x.n, .string x.s, vL, .slice D x.names.length d] 27) ∧ Hd (Blk wr w.heap.size #[.int .i64 x.kind, .int .i64 x.n, .string x.s, .slice A1 x.list.length c1, .slice A2 x.names.length c2] 27) ∧ Hd (Blk wr (w.heap.size + 1) #[.int .i64 0, .int .i64 0, .string ⟨#[]⟩, .slice none 0 0, .slice none 0 0] 27) ∧ Hd ((tJ m).R 27 wr (fun k => w.heap.size + 2 ≤ k ∧ k ≠ p ∧ ¬ SN k) vL (x.list.take k)) ∧ Hd (str.R 9 wr SN (.slice D x.names.length d) x.names) ∧ Hd (Below w.heap.size w wr) ∧ Hd (w1.heap.size ≤ wr.heap.size)) (fun i _ => x.list.length - (intOf i).toNat)
  case atStart => exact ⟨0, .slice none 0 0, Nat.zero_le _, rfl, bo, b0, b1, ⟨R_nil⟩, hO, hB, ⟨Nat.le_refl _⟩⟩
  case round =>
   clear bo b0 b1 hO hB
   obtain ⟨k, vL, hk, rfl, bo, b0, b1, hL, hO, hB, hsz1⟩ := hrel
   by_cases hlt2 : k < x.list.length
   ·obtain ⟨ad, cs0, rfl, hK0, e0, e1⟩ := C_at HR1.out hB.out k hlt2
    obtain ⟨m, rfl⟩ : ∃ m1 : Nat, m = m1 + 1 := by cases m with | zero => exact hK0.elim | succ m => exact ⟨m, rfl⟩
    obtain ⟨A3, c3, A4, c4, rfl, hs3, ⟨hc3, hr3⟩, hc4, hr4⟩ := tJ_K.1 hK0
    have hbk := Nat.le_trans (bulkL_mem (bulkJ (m + 1)) (List.getElem_mem hlt2)) (Nat.le_trans (Nat.le_add_left _ _) HLL.out)
    obtain ⟨AL, cL, hvL, hcL, _⟩ := R_C hL.out
    have htk : (x.list.take k).length = k := by rw [List.length_take]; omega
    rw [htk] at hvL
    subst hvL
    clear htk
    have x0 : wr.cell? (ad.add (k * 5)) = some (.int .i64 x.list[k].kind) := e0 _ rfl
    have x1 : wr.cell? ⟨(ad.add (k * 5)).block, (ad.add (k * 5)).off + 1, none⟩ = some (.int .i64 x.list[k].n) := e1 0 _ rfl
    have x2 : wr.cell? ⟨(ad.add (k * 5)).block, (ad.add (k * 5)).off + 2, none⟩ = some (.string x.list[k].s) := e1 1 _ rfl
    have x3 : wr.cell? ⟨(ad.add (k * 5)).block, (ad.add (k * 5)).off + 3, none⟩ = some (.slice A3 x.list[k].list.length c3) := e1 2 _ rfl
    have x4 : wr.cell? ⟨(ad.add (k * 5)).block, (ad.add (k * 5)).off + 4, none⟩ = some (.slice A4 x.list[k].names.length c4) := e1 3 _ rfl
    have HK := Hd.mk hK0; clear hK0 e0 e1 hr3 hr4
    have hlt := Hd.mk (show p < wr.heap.size from bo.out.lt)
    have hzp := hp.out
    have hzl := hlt.out
    have hsb := hB.out.size
    obtain ⟨fbo_0, fbo_1, fbo_2, fbo_3, fbo_4, fbo_z⟩ := blk5 bo.out
    obtain ⟨v00, v01, v02, v03, v04, v0z⟩ := blk5 b0.out
    obtain ⟨v10, v11, v12, v13, v14, v1z⟩ := blk5 b1.out
    go_wp2_with fail
    clear fbo_0 fbo_1 fbo_2 fbo_3 fbo_4 fbo_z v00 v01 v02 v03 v04 v0z v10 v11 v12 v13 v14 v1z
    obtain ⟨y_0, y_1, y_2, y_3, y_4⟩ := reg5 x0 x1 x2 x3 x4
    have hBW := Hd.mk (Below.refl wr.heap.size wr)
    obtain ⟨fbo_0, fbo_1, fbo_2, fbo_3, fbo_4, fbo_z⟩ := blk5 bo.out
    obtain ⟨v00, v01, v02, v03, v04, v0z⟩ := blk5 b0.out
    obtain ⟨v10, v11, v12, v13, v14, v1z⟩ := blk5 b1.out
    obtain ⟨rfbo_0, rfbo_1, rfbo_2, rfbo_3, rfbo_4⟩ := reg5 fbo_0 fbo_1 fbo_2 fbo_3 fbo_4
    obtain ⟨rv00, rv01, rv02, rv03, rv04⟩ := reg5 v00 v01 v02 v03 v04
    obtain ⟨rv10, rv11, rv12, rv13, rv14⟩ := reg5 v10 v11 v12 v13 v14
    refine region_mixT (.q 0 (.q 1 (.q 2 (.q 3 (.q 4 (.q 5 (.q 6 (.b 7 (.b 8 .fin))))))))) [9, 10, 11] (by kernel_rfl) (by kernel_rfl) (fun _ _ _ _ _ h => h) ?_
    refine genT ?_
    intro W3 hW
    have hS := Hd.mk (show Below wr.heap.size wr W3 by rw [hW]; exact below_drew (Below.refl _ _))
    have hz_ : wr.heap.size ≤ W3.heap.size := by rw [hW]; simp
    have hE : Below wr.heap.size wr W3 := by rw [hW]; (repeat (first | with_reducible refine below_alloc ?_ _ | with_reducible refine below_drew ?_)); exact Below.refl _ _
    have hB := hB.th hE
    have hBW := Hd.mk (below_then hBW.out hE)
    have bo := bo.dn hE
    have b0 := b0.dn hE
    have b1 := b1.dn hE
    clear hW hE
    have z1 := Hd.mk hz_; clear hz_
    iterate 7 (refine mixT_q rfl ?_; go_big_quiet_want; go_big_quiet_op; go_big_quiet_on; refine wpQuiet_nil ?_)
    refine mixT_b rfl ?_ (by rfl)
    go_wp2_with fail
    apply calls_gen; intro W4 hW
    have hz_ : W3.heap.size ≤ W4.heap.size := by rw [hW]; simp
    have hE : Below W3.heap.size W3 W4 := by rw [hW]; (repeat (first | with_reducible refine below_alloc ?_ _ | with_reducible refine below_drew ?_)); exact Below.refl _ _
    have hB := hB.th hE
    have hBW := Hd.mk (below_then hBW.out hE)
    replace hS := Hd.mk (below_then hS.out hE)
    have bo := bo.dn hE
    have b0 := b0.dn hE
    have b1 := b1.dn hE
    clear hW hE
    have z2 := Hd.mk hz_; clear hz_
    have hWs := Hd.mk (show wr.heap.size ≤ W4.heap.size by have z1_ := z1.out; have z2_ := z2.out; omega)
    refine (ih x.list[k] _ _ (Ty.K_below _ hBW.out HK.out) hbk).mono ?_
    rintro e w5 ⟨cs', rfl, hO3, hX⟩
    have bo := bo.dn hX
    have b0 := b0.dn hX
    have b1 := b1.dn hX
    have hB := hB.th hX
    replace hS := Hd.mk (below_then hS.out hX)
    have hz_ := hX.size
    have hBW := Hd.mk (below_then hBW.out hX)
    have z3 := Hd.mk hz_; clear hz_
    obtain ⟨v3, v4, _, _, rfl, hsz3, hr3, hr4, _⟩ := tJ_O.1 hO3
    obtain ⟨D3, d3, rfl, _, _⟩ := R_C hr3
    obtain ⟨D4, d4, rfl, _, _⟩ := R_C hr4
    have HO3 := Hd.mk hO3; clear hO3 hr3 hr4 hX
    go_wp2_with fail
    refine ⟨cls_below hS.out, ?_⟩
    refine mixT_b rfl ?_ (by rfl)
    go_wp2_with fail
    refine ⟨cls_below (below_alloc hS.out _), ?_⟩
    refine mixT_fin ?_
    clear hS
    clear rfbo_0 rfbo_1 rfbo_2 rfbo_3 rfbo_4 rv00 rv01 rv02 rv03 rv04 rv10 rv11 rv12 rv13 rv14
    clear fbo_0 fbo_1 fbo_2 fbo_3 fbo_4 fbo_z v00 v01 v02 v03 v04 v0z v10 v11 v12 v13 v14 v1z
    obtain ⟨fbo_0, fbo_1, fbo_2, fbo_3, fbo_4, fbo_z⟩ := blk5 bo.out
    obtain ⟨v00, v01, v02, v03, v04, v0z⟩ := blk5 b0.out
    obtain ⟨v10, v11, v12, v13, v14, v1z⟩ := blk5 b1.out
    refine tail_b rfl ?_ (by rfl)
    have hLb := Hd.mk (R_below (R_bound hL.out) hBW.out)
    have hOb := Hd.mk (R_below (R_bound hO.out) hBW.out)
    have hsW := hWs.out
    go_wp2_with (at_builtin; refine append_one (tJ (m + 1)) rfl _ _ 24 27 (.agg #[.int .i64 0, .int .i64 0, .string ByteArray.empty, .slice none 0 0, .slice none 0 0]) 80 rfl Tryd.underlying24 info_JsonS rfl (by rw [tJ_sz]; omega) (by decide) (S := fun k => (fun k => w.heap.size + 2 ≤ k ∧ k ≠ p ∧ ¬ SN k) k ∧ k < wr.heap.size) (T := fun k => W4.heap.size ≤ k) (S' := (fun k => w.heap.size + 2 ≤ k ∧ k ≠ p ∧ ¬ SN k)) (v := .slice AL k cL) (xs := x.list.take k) x.list[k] [Value.int IntKind.i64 x.list[k].kind, .int .i64 x.list[k].n, .string x.list[k].s, .slice D3 x.list[k].list.length d3, .slice D4 x.list[k].names.length d4] rfl rfl hLb.out HO3.out (fun k h1 hl h2 => by have := h2.2; omega) (fun k h => h.1) (fun k h => ⟨by omega, by omega, fun h3 => by have := (hN.out k h3).2.1; have := hsz1.out; omega⟩) (fun k h => ⟨by have z1_ := z1.out; have z2_ := z2.out; have z3_ := z3.out; omega, by have z1_ := z1.out; have z2_ := z2.out; have z3_ := z3.out; omega, fun h3 => by have z1_ := z1.out; have z2_ := z2.out; have z3_ := z3.out; have := (hN.out k h3).2.1; have := hsz1.out; omega⟩) (by simp; omega) (fun v5 w6 hv5 hX => ?_); obtain ⟨D5, d5, hv5e, _, _⟩ := R_C hv5; subst hv5e)
    have z1_ := z1.out; have z2_ := z2.out; have z3_ := z3.out
    have bo := Hd.mk (bo.out.fr (S := _) hX (fun h => by have h1 := h.1.1; have h2 := h.1.2.1; have h3 := h.2; omega))
    have b0 := Hd.mk (b0.out.fr (S := _) hX (fun h => by have h1 := h.1.1; have h2 := h.1.2.1; have h3 := h.2; omega))
    have b1 := Hd.mk (b1.out.fr (S := _) hX (fun h => by have h1 := h.1.1; have h2 := h.1.2.1; have h3 := h.2; omega))
    have hO6 := Hd.mk (R_fr hOb.out hX (fun k hk _ h => h.1.2.2 hk.1))
    have hB := Hd.mk (below_frS hB.out hX (fun k h => by have := h.1.1; omega))
    have hw5 := Hd.mk (show w1.heap.size ≤ w6.heap.size by have := hX.size; have := hsz1.out; omega)
    clear hX hOb
    have hL5 := Hd.mk hv5; clear hv5 hLb
    obtain ⟨fbo_0, fbo_1, fbo_2, fbo_3, fbo_4, fbo_z⟩ := blk5 bo.out
    obtain ⟨v00, v01, v02, v03, v04, v0z⟩ := blk5 b0.out
    obtain ⟨v10, v11, v12, v13, v14, v1z⟩ := blk5 b1.out
    refine mixQ_n ?_
    refine tail_b rfl ?_ (by rfl)
    go_wp2_with fail
    refine mixQ_n ?_
    refine tail_b rfl ?_ (by rfl)
    go_wp2_with fail
    refine mixQ_n ?_
    refine tail_nil ?_
    go_wp2_with fail
    clear fbo_0 fbo_1 fbo_2 fbo_3 fbo_4 fbo_z v00 v01 v02 v03 v04 v0z v10 v11 v12 v13 v14 v1z
    go_roundw
    case rel =>
     refine ⟨k + 1, _, by omega, by go_num, ⟨bo.out.set 3 _⟩, ⟨b0.out.other _ (by simp only; omega) _⟩, ⟨b1.out.other _ (by simp only; omega) _⟩, ⟨?_⟩, ⟨?_⟩, ⟨?_⟩, ⟨?_⟩⟩
     ·rw [List.take_succ_eq_append_getElem hlt2]
      have h5 := hL5.out
      exact R_setCell (by simpa using h5) (fun h => h.2.1 rfl) _
     ·exact R_mono (fun k h => h.1) (R_setCell hO6.out (fun h => (hN.out _ h.1).2.2 rfl) _)
     ·exact ((Fr.of_below hB.out (fun k => k = p)).setCell ⟨p, 3, none⟩ (fun _ => rfl) _).below (fun k h => by omega)
     ·simp; exact hw5.out
    case measure => simp [intOf]; omega
   ·obtain rfl : k = x.list.length := by omega
    obtain ⟨AL, cL, hvL, hcL, _⟩ := R_C hL.out
    subst hvL
    have hzp := hp.out
    have hzl := bo.out.lt
    have hsb := hB.out.size
    obtain ⟨fbo_0, fbo_1, fbo_2, fbo_3, fbo_4, fbo_z⟩ := blk5 bo.out
    obtain ⟨v00, v01, v02, v03, v04, v0z⟩ := blk5 b0.out
    obtain ⟨v10, v11, v12, v13, v14, v1z⟩ := blk5 b1.out
    go_wp2_with fail
    refine bodyPost_retW (v := .agg #[.int .i64 x.kind, .int .i64 x.n, .string x.s, .slice AL x.list.length cL, .slice D x.names.length d]) (by simp [results, Tryd.results46, go_sem, fbo_0, fbo_1, fbo_2, fbo_3, fbo_4, fbo_z, v00, v01, v02, v03, v04, v0z, v10, v11, v12, v13, v14, v1z]) rfl ?_
    intro W hW
    clear fbo_0 fbo_1 fbo_2 fbo_3 fbo_4 fbo_z v00 v01 v02 v03 v04 v0z v10 v11 v12 v13 v14 v1z
    have eF : Fr wr W (fun k => k = w.heap.size + 1) := by rw [hW]; (repeat (first | with_reducible refine Fr.setCell ?_ _ (fun _ => by simp) _)); exact Fr.refl _ _
    have hLf := R_fr hL.out eF (fun k hk _ h => by have := hk.1; (try simp only at h); omega)
    rw [List.take_length] at hLf
    have hOf := R_fr hO.out eF (fun k hk _ h => by have := (hN.out k hk).1; (try simp only at h); omega)
    skip
    refine ⟨[Value.int IntKind.i64 x.kind, .int .i64 x.n, .string x.s, .slice AL x.list.length cL, .slice D x.names.length d], rfl, tJ_O.2 ⟨_, _, (fun k => w.heap.size + 2 ≤ k ∧ k ≠ p ∧ ¬ SN k), SN, rfl, hs, by simpa using hLf, hOf, fun k h => by have := h.1; omega, fun k h => by have := (hN.out k h).1; omega, fun k h h2 => h.2.2 h2⟩, ((Fr.of_below hB.out (fun k => k = w.heap.size + 1)).then_ eF (fun k h _ => h)).below (fun k h => by omega)⟩
theorem spec_l1Copy_all : ∀ m, CopyL m
 | 0 => fun x cs w hk _ => hk.elim
 | m + 1 => spec_l1Copy_of (spec_l1Copy_all m)
theorem spec_l1Copy {m : Nat} (x : J) (cs : List Value) (w : World) (hk : (tJ m).K w x cs) (hl : bulkJ m x ≤ 4194304) :
  Calls Tryd.prog 46 #[.agg cs.toArray] w fun e w' => ∃ cs', e = .returned (.agg cs'.toArray) ∧ (tJ m).O w' (fun k => w.heap.size ≤ k) x cs' ∧ Below w.heap.size w w' := spec_l1Copy_all m x cs w hk hl
def rowPut (l : List Row) (r : Row) : List Row :=
 if l.findIdx (fun x => x.id == r.id) < l.length then l.set (l.findIdx (fun x => x.id == r.id)) r
 else l.take (l.findIdx (fun x => decide (r.id < x.id))) ++ r :: l.drop (l.findIdx (fun x => decide (r.id < x.id)))
theorem rowPut_there (l : List Row) (r : Row) (h : l.findIdx (fun x => x.id == r.id) < l.length) : rowPut l r = (rowDrop l r.id).take (l.findIdx (fun x => x.id == r.id)) ++ r :: (rowDrop l r.id).drop (l.findIdx (fun x => x.id == r.id)) := by
 unfold rowPut rowDrop
 rw [if_pos h]
 generalize l.findIdx (fun x => x.id == r.id) = q at h
 rw [List.set_eq_take_append_cons_drop, if_pos h, List.eraseIdx_eq_take_drop_succ]
 have h1 : (l.take q).length = q := by simp; omega
 rw [List.take_append_of_le_length (by omega), List.take_of_length_le (l := l.take q) (by omega), List.drop_append_of_le_length (by omega), List.drop_of_length_le (l := l.take q) (by omega), List.nil_append]
theorem rowPut_none (l : List Row) (r : Row) (h : l.findIdx (fun x => x.id == r.id) = l.length) : rowDrop l r.id = l ∧ rowPut l r = l.take (l.findIdx (fun x => decide (r.id < x.id))) ++ r :: l.drop (l.findIdx (fun x => decide (r.id < x.id))) := by
 refine ⟨?_, ?_⟩
 ·unfold rowDrop; rw [h, List.eraseIdx_of_length_le (Nat.le_refl _)]
 ·unfold rowPut; rw [if_neg (by omega)]
theorem find_down {α : Type} (p : α → Bool) (l : List α) (k : Nat) (hk : k < l.length) : k + (l.drop k).findIdx p = if p l[k] = true then k else (k + 1) + (l.drop (k + 1)).findIdx p := by
 rw [List.drop_eq_getElem_cons hk, List.findIdx_cons]
 cases p l[k] <;> simp <;> omega
theorem put_eq {α : Type} (l : List α) (x : α) (p : Nat) : (([] ++ (l.drop 0).take (p - 0)) ++ [x]) ++ (l.drop p).take (l.length - p) = l.take p ++ x :: l.drop p := by
 rw [List.take_of_length_le (l := l.drop p) (by simp)]; simp
theorem bulk_ins (l : List Row) (r : Row) (p : Nat) : bulkRowS (l.take p ++ r :: l.drop p) = bulkRowS l + 1 + bulkRow r := by
 have h1 := bulkL_append bulkRow (l.take p) (l.drop p)
 rw [List.take_append_drop] at h1
 have h2 : (l.take p).length + (l.drop p).length = l.length := by simp; omega
 simp only [bulkRowS, bulkL_append, bulkL, List.length_append, List.length_cons]
 omega
theorem bulk_rowPut (l : List Row) (r : Row) : bulkRowS (rowPut l r) ≤ bulkRowS l + 1 + bulkRow r := by
 have h0 := List.findIdx_le_length (xs := l) (p := fun x : Row => x.id == r.id)
 rcases Nat.lt_or_ge (l.findIdx (fun x : Row => x.id == r.id)) l.length with h | h
 ·rw [rowPut_there l r h, bulk_ins]
  have := bulk_rowDrop l r.id
  omega
 ·rw [(rowPut_none l r (by omega)).2, bulk_ins]
  exact Nat.le_refl _
theorem R_int1 {W0 : World} (y : Int) : int.R 3 (W0.alloc (.cells #[.int .i64 y] 3)) (fun k => k = W0.heap.size) (.slice (some ⟨W0.heap.size, 0, none⟩) 1 1) [y] := by
 refine R_block (xs := [y]) (cap := 1) (heap_alloc_new W0 _) rfl (Nat.le_refl _) (by omega) rfl (fun _ => 0) (fun i x h => ?_)
 rcases i with _ | i
 ·simp at h
  subst h
  rfl
 ·simp at h
def RowsP (cols : Int) (n : Nat) (l : List Row) : Prop := l.length ≤ n ∧ ∀ r ∈ l, r.cells.length = cols.toNat
def IdsP (l : List Row) : Prop := (l.map Row.id).Nodup
theorem put_perm (l : List Row) (r : Row) (p : Nat) : (l.take p ++ r :: l.drop p).Perm (r :: l) := by
 refine List.perm_middle.trans ?_
 rw [List.take_append_drop]
theorem rowsP_put {cols : Int} {n : Nat} {l : List Row} {r : Row} (h : RowsP cols n l) (hr : r.cells.length = cols.toNat) : RowsP cols (n + 1) (rowPut l r) := by
 unfold rowPut
 split
 ·refine ⟨by rw [List.length_set]; have := h.1; omega, fun x hx => ?_⟩
  rcases List.mem_or_eq_of_mem_set hx with hx | rfl
  ·exact h.2 x hx
  ·exact hr
 ·have hp := put_perm l r (l.findIdx (fun x => decide (r.id < x.id)))
  refine ⟨by rw [hp.length_eq]; simp; exact h.1, fun x hx => ?_⟩
  rcases List.mem_cons.1 (hp.mem_iff.1 hx) with rfl | hx
  ·exact hr
  ·exact h.2 x hx
theorem set_same {α : Type} (m : List α) (q : Nat) (x : α) (h : q < m.length) (e : m[q] = x) : m.set q x = m := by subst e; exact List.set_getElem_self _
theorem idsP_put {l : List Row} {r : Row} (h : IdsP l) : IdsP (rowPut l r) := by
 unfold rowPut
 split
 ·rename_i hlt
  have he : (l.set (l.findIdx (fun x => x.id == r.id)) r).map Row.id = l.map Row.id := by
   rw [List.map_set]
   have h1 := List.findIdx_getElem (xs := l) (p := fun x : Row => x.id == r.id) (w := hlt)
   have h2 : l[l.findIdx (fun x => x.id == r.id)].id = r.id := by simpa using h1
   have h3 : (l.map Row.id)[l.findIdx (fun x => x.id == r.id)]'(by simpa using hlt) = r.id := by simpa using h2
   exact set_same _ _ _ _ h3
  unfold IdsP
  rw [he]
  exact h
 ·rename_i hlt
  have hp := put_perm l r (l.findIdx (fun x => decide (r.id < x.id)))
  unfold IdsP
  rw [(hp.map _).nodup_iff, List.map_cons, List.nodup_cons]
  refine ⟨fun hm => ?_, h⟩
  obtain ⟨x, hx, he⟩ := List.mem_map.1 hm
  exact hlt (List.findIdx_lt_length_of_exists ⟨x, hx, by simp [he]⟩)
theorem bulkL_len (c : Nat) : ∀ (l : List Row), (∀ r ∈ l, bulkRow r ≤ c) → bulkL bulkRow l ≤ c * l.length
 | [], _ => by simp [bulkL]
 | x :: l, h => by
  have h1 := h x (by simp)
  have h2 := bulkL_len c l (fun r hr => h r (by simp [hr]))
  simp only [bulkL, List.length_cons, Nat.mul_add, Nat.mul_one]
  omega
theorem rowsP_bulk {cols : Int} (hc : cols ≤ 100) {n : Nat} {l : List Row} (h : RowsP cols n l) : bulkRowS l ≤ 101 * n := by
 have h1 := bulkL_len 100 l (fun r hr => by have := h.2 r hr; unfold bulkRow; omega)
 have h2 := h.1
 have h3 := Nat.mul_le_mul_left 100 h2
 simp only [bulkRowS]
 omega
theorem rowsP_app {cols : Int} {n : Nat} {l : List Row} {r : Row} (h : RowsP cols n l) (hr : r.cells.length = cols.toNat) : RowsP cols (n + 1) (l ++ [r]) := by
 refine ⟨by have := h.1; simp; omega, fun x hx => ?_⟩
 rcases List.mem_append.1 hx with hx | hx
 ·exact h.2 x hx
 ·rw [List.mem_singleton] at hx
  rw [hx]; exact hr
theorem R_ints {W0 : World} (l : List Int) (hl : l.length ≤ 1000) : int.R 3 (W0.alloc (.cells (l.map (Value.int .i64)).toArray 3)) (fun k => k = W0.heap.size) (.slice (some ⟨W0.heap.size, 0, none⟩) l.length l.length) l := by
 refine R_block (cap := l.length) (heap_alloc_new W0 _) rfl (Nat.le_refl _) (by omega) (by simp [int, scal]) (fun _ => 0) (fun i x h => ?_)
 have hi := (List.getElem?_eq_some_iff.1 h).1
 have hx := (List.getElem?_eq_some_iff.1 h).2
 show (((l.map (Value.int .i64)).toArray.toList).drop (i * 1)).take 1 = [.int .i64 x]
 rw [Nat.mul_one, List.drop_eq_getElem_cons (by simpa using hi)]
 simp [hx]
set_option maxHeartbeats 8000000 in
set_option maxRecDepth 100000 in
theorem spec_l1PickInt {S : Nat → Prop} (A : Option Addr) (n c : Nat) (l : List Int) (W0 w : World) (g : Nat) (hR : int.R 3 w S (.slice A n c) l) (hS : ¬ S g) (hn : n = l.length) (h0 : 0 < l.length) (h2 : l.length ≤ 200) (hc : Cur W0 w g) :
  Calls Tryd.prog 49 #[.pointer (some ⟨g, 0, none⟩), .slice A n c] w fun e w' => ∃ x : Int, e = .returned (.int .i64 x) ∧ x ∈ l ∧ Cur W0 w' g ∧ Fr w w' (fun k => k = g) := by
 subst hn
 have HR := Hd.mk hR; clear hR
 have HC := Hd.mk hc; clear hc
 go_enter Tryd.func49, Tryd.ntmps49
 go_wp2_with fail
 refine (spec_l1Below l.length W0 w g HC.out).mono ?_
 rintro e w1 ⟨x, rfl, x0, x1, _, hC, hX⟩
 replace x1 := x1 (by omega)
 obtain ⟨k, rfl⟩ := Int.eq_ofNat_of_zero_le x0
 have hk : k < l.length := by omega
 have HC1 := Hd.mk hC; clear hC
 have HR1 := Hd.mk (R_fr HR.out hX (fun k hk _ h => hS (by have h : k = g := h; exact h ▸ hk)))
 have HX := Hd.mk hX; clear hX
 obtain ⟨ad, rfl, y0⟩ := C_int_at (R_Cv HR1.out) (Below.refl _ _) k hk
 go_wp2_with fail
 go_ret
 exact ⟨_, rfl, List.getElem_mem hk, HC1.out, HX.out⟩
theorem R_strs {W0 : World} (l : List ByteArray) (hl : l.length ≤ 1000) (hs : ∀ s ∈ l, s.size ≤ 1000) : str.R 9 (W0.alloc (.cells (l.map Value.string).toArray 9)) (fun k => k = W0.heap.size) (.slice (some ⟨W0.heap.size, 0, none⟩) l.length l.length) l := by
 refine R_block (cap := l.length) (heap_alloc_new W0 _) rfl (Nat.le_refl _) (by omega) (by simp [show str.sz = 1 from rfl]) (fun _ => 0) (fun i x h => ?_)
 have hi := (List.getElem?_eq_some_iff.1 h).1
 have hx := (List.getElem?_eq_some_iff.1 h).2
 have hz := hs x (by rw [← hx]; exact List.getElem_mem hi)
 show (((l.map Value.string).toArray.toList).drop (i * 1)).take 1 = [.string x] ∧ x.size ≤ 9223372036854775807
 refine ⟨?_, by omega⟩
 rw [Nat.mul_one, List.drop_eq_getElem_cons (by simpa using hi)]
 simp [hx]
set_option maxHeartbeats 8000000 in
set_option maxRecDepth 100000 in
theorem spec_l1Pick {S : Nat → Prop} (A : Option Addr) (n c : Nat) (l : List ByteArray) (W0 w : World) (g : Nat) (hR : str.R 9 w S (.slice A n c) l) (hS : ¬ S g) (hn : n = l.length) (h0 : 0 < l.length) (h2 : l.length ≤ 200) (hc : Cur W0 w g) :
  Calls Tryd.prog 50 #[.pointer (some ⟨g, 0, none⟩), .slice A n c] w fun e w' => ∃ x : ByteArray, e = .returned (.string x) ∧ x ∈ l ∧ Cur W0 w' g ∧ Fr w w' (fun k => k = g) := by
 subst hn
 have HR := Hd.mk hR; clear hR
 have HC := Hd.mk hc; clear hc
 go_enter Tryd.func50, Tryd.ntmps50
 go_wp2_with fail
 refine (spec_l1Below l.length W0 w g HC.out).mono ?_
 rintro e w1 ⟨x, rfl, x0, x1, _, hC, hX⟩
 replace x1 := x1 (by omega)
 obtain ⟨k, rfl⟩ := Int.eq_ofNat_of_zero_le x0
 have hk : k < l.length := by omega
 have HC1 := Hd.mk hC; clear hC
 have HR1 := Hd.mk (R_fr HR.out hX (fun k hk _ h => hS (by have h : k = g := h; exact h ▸ hk)))
 have HX := Hd.mk hX; clear hX
 obtain ⟨ad, rfl, y0, _⟩ := C_str_at (R_Cv HR1.out) (Below.refl _ _) k hk
 go_wp2_with fail
 go_ret
 exact ⟨_, rfl, List.getElem_mem hk, HC1.out, HX.out⟩
def drawNames : List ByteArray := [⟨#[97]⟩, ⟨#[98]⟩, ⟨#[99]⟩, ⟨#[105, 100]⟩, ⟨#[110]⟩, ⟨#[114, 111, 119, 115]⟩, ⟨#[]⟩, ⟨#[97, 47, 98]⟩, ⟨#[126]⟩]
set_option maxHeartbeats 8000000 in
set_option maxRecDepth 100000 in
theorem spec_l1DrawName (W0 w : World) (g : Nat) (hc : Cur W0 w g) :
  Calls Tryd.prog 41 #[.pointer (some ⟨g, 0, none⟩)] w fun e w' => ∃ x : ByteArray, e = .returned (.string x) ∧ x ∈ drawNames ∧ Cur W0 w' g ∧ Fr w w' (fun k => k = g) := by
 have HC := Hd.mk hc; have hlt := hc.lt; clear hc
 go_enter Tryd.func41, Tryd.ntmps41
 go_wp2_with fail
 apply calls_gen; intro W1 hW
 have hE := Hd.mk (show str.R 9 W1 (fun k => k = w.heap.size) (.slice (some ⟨w.heap.size, 0, none⟩) 9 9) drawNames by rw [hW]; exact R_strs (W0 := w) drawNames (by decide) (by decide))
 have hC1 := Hd.mk (show Cur W0 W1 g by rw [hW]; exact HC.out.below (below_alloc (Below.refl _ _) _))
 have hX1 := Hd.mk (show Fr w W1 (fun k => k = g) by rw [hW]; exact (Fr.refl _ _).alloc _)
 clear hW
 refine (spec_l1Pick _ _ _ drawNames W0 _ g hE.out (by show ¬ g = w.heap.size; omega) rfl (by decide) (by decide) hC1.out).mono ?_
 rintro e w2 ⟨x, rfl, hx, hC, hX⟩
 have hX2 := Hd.mk (hX1.out.trans hX); clear hX
 go_wp2_with fail
 go_ret
 exact ⟨_, rfl, hx, hC, hX2.out⟩
def byI (b : UInt8) : Int := (b.toNat : Int)
def Buf (w : World) (B : Nat) (v : Value) (l : List UInt8) : Prop := u8.R 5 w (fun q => B ≤ q) v (l.map byI)
theorem info_u8 : (Tryd.prog.info? 5).map (fun i => (i.zero, i.size, i.bytes)) = some (some (.int .u8 0), 1, 1) := by kernel_rfl
theorem Buf.below {w w1 : World} {B : Nat} {v : Value} {l : List UInt8} (h : Buf w B v l) (hb : Below w.heap.size w w1) : Buf w1 B v l := R_below h hb
theorem Buf.form {w : World} {B : Nat} {v : Value} {l : List UInt8} (h : Buf w B v l) : ∃ A c, v = .slice A l.length c ∧ u8.C w A (l.map byI) := by
 obtain ⟨A, c, hv, _, hC⟩ := R_C h
 rw [List.length_map] at hv
 exact ⟨A, c, hv, hC⟩
theorem buf_empty (W : World) (B : Nat) (h : B ≤ W.heap.size) : Buf (W.alloc (.cells #[] 5)) B (.slice (some ⟨W.heap.size, 0, none⟩) 0 0) [] :=
 R_mono (fun k hk => Nat.le_trans h hk) (R_empty u8 5 W)
theorem buf_lit (W : World) (B : Nat) (h : B ≤ W.heap.size) (vs : List UInt8) (C : Array Value) (hC : C = (vs.map (fun b => Value.int .u8 (byI b))).toArray) (hl : vs.length ≤ 9223372036854775807) : u8.C (W.alloc (.cells C 5)) (some ⟨W.heap.size, 0, none⟩) (vs.map byI) := by
 subst hC
 refine ⟨?_, fun i x hx => ⟨⟨W.heap.size, 0, none⟩, [.int .u8 x], rfl, rfl, fun j u hu => ?_⟩⟩
 ·rw [List.length_map]; exact hl
 ·obtain ⟨rfl, rfl⟩ : j = 0 ∧ u = .int .u8 x := by
   cases j with
   | zero => simpa using hu.symm
   | succ j => simp at hu
  have e : (⟨W.heap.size, 0, none⟩ : Addr).add (i * u8.sz + 0) = ⟨W.heap.size, i, none⟩ := by
   show (⟨W.heap.size, 0, none⟩ : Addr).add (i * 1 + 0) = _
   unfold Addr.add; split <;> simp_all
  rw [e]
  refine (Blk.new W _ 5).cell i ?_
  rw [List.getElem?_toArray, List.getElem?_map]
  rw [List.getElem?_map] at hx
  obtain ⟨y, hy, rfl⟩ := Option.map_eq_some_iff.1 hx
  rw [hy]; rfl
theorem append_buf {P : Program} (hP : P = Tryd.prog) {ops : Array Oper} {rest : List Oper} {o : Oper} {a : Act} {Q : Exit → Act → World → Prop} {W : World} {n B : Nat} (hn : W.heap.size = n) (vs : List UInt8) (C : Array Value) (hC : C = (vs.map (fun b => Value.int .u8 (byI b))).toArray) (hgd : o.guard = none) (s x : Operand)
  (ho : o.op = .call { callee := .builtin .append, args := #[s, x], argTypes := #[22, 22] }) {v : Value} {l : List UInt8} {c : Nat}
  (hs : a.eval s = v) (hx : a.eval x = .slice (some ⟨n, 0, none⟩) vs.length c) (HR : Buf W B v l) (hB : B ≤ W.heap.size) (hlen : l.length + vs.length ≤ 140737488355328)
  (h : ∀ v1 w1, Buf w1 B v1 (l ++ vs) → Fr W w1 (fun q => B ≤ q) → wpList P ops Q rest (a.put o.dst v1) w1) :
  wpList P ops Q (o :: rest) a (W.alloc (.cells C 5)) := by
 subst hn; subst hP
 have hb : Below W.heap.size W (W.alloc (.cells C 5)) := below_alloc (Below.refl _ _) _
 refine append_scal (h1 := fun _ => rfl) hgd s x 22 5 (.int .u8 0) 1 ho Tryd.underlying22 info_u8 rfl (by decide) (S := fun q => B ≤ q) (S' := fun q => B ≤ q) (v := v) (xs := l.map byI) (ys := vs.map byI) hs (by rw [List.length_map]; exact hx)
  (R_below HR hb) (buf_lit W B hB vs C hC (by omega)) (fun _ h => h) (fun k hk => Nat.le_trans hB (Nat.le_trans hb.size hk)) (by rw [List.length_map, List.length_map]; omega) (fun v1 w1 hr hf => h v1 w1 ?_ ?_)
 ·show u8.R 5 w1 (fun q => B ≤ q) v1 ((l ++ vs).map byI)
  rw [List.map_append]; exact hr
 ·exact (Fr.of_below hb _).then_ hf (fun k hk _ => hk)
theorem conv_buf {w : World} {A : Option Addr} {c : Nat} {l : List UInt8} (hC : u8.C w A (l.map byI)) : (convert 22 9 (.slice A l.length c)).run Tryd.prog w = .ok (.string ⟨l.toArray⟩) w := by
 cases A with
 | none =>
  have h0 : l = [] := by
   cases l with
   | nil => rfl
   | cons b l =>
    obtain ⟨ad, cs, h, _⟩ := hC.2 0 (byI b) rfl
    cases h
  subst h0
  rw [run_convert_bytes_nil (P := Tryd.prog) (w := w) 22 5 (by kernel_rfl) (by kernel_rfl) _ _ 9 (by kernel_rfl)]
  rfl
 | some a =>
  refine run_convert_bytes_back (P := Tryd.prog) w 22 9 5 a c l (by kernel_rfl) (by kernel_rfl) (by kernel_rfl) (fun j hj => ?_)
  obtain ⟨ad, h1, _, h2⟩ := C_u8_at hC (Below.refl _ _) j (by simpa using hj)
  injection h1 with h1
  subst h1
  rw [h2]
  simp [byI]
theorem R_emptyN {α : Type} (d : Ty α) (e : TypeId) {W : World} {n : Nat} (hn : W.heap.size = n) : d.R e (W.alloc (.cells #[] e)) (fun k => k = n) (.slice (some ⟨n, 0, none⟩) 0 0) [] := by
 subst hn
 refine R_mono (fun k hk => ?_) (R_bound (R_empty d e W))
 have h1 := hk.1; have h2 := hk.2
 simp at h2; omega
theorem append_bufS {P : Program} (hP : P = Tryd.prog) {ops : Array Oper} {rest : List Oper} {o : Oper} {a : Act} {Q : Exit → Act → World → Prop} {W : World} {n : Nat} (hn : W.heap.size = n) (vs : List UInt8) (C : Array Value) (hC : C = (vs.map (fun b => Value.int .u8 (byI b))).toArray) (hgd : o.guard = none) (s x : Operand)
  (ho : o.op = .call { callee := .builtin .append, args := #[s, x], argTypes := #[22, 22] }) {v : Value} {l : List UInt8} {c : Nat} {S : Nat → Prop}
  (hs : a.eval s = v) (hx : a.eval x = .slice (some ⟨n, 0, none⟩) vs.length c) (HR : u8.R 5 W S v (l.map byI)) (hlen : l.length + vs.length ≤ 140737488355328)
  (h : ∀ v1 w1, u8.R 5 w1 (fun q => S q ∨ W.heap.size ≤ q) v1 ((l ++ vs).map byI) → Fr W w1 S → wpList P ops Q rest (a.put o.dst v1) w1) :
  wpList P ops Q (o :: rest) a (W.alloc (.cells C 5)) := by
 subst hn; subst hP
 have hb : Below W.heap.size W (W.alloc (.cells C 5)) := below_alloc (Below.refl _ _) _
 refine append_scal (h1 := fun _ => rfl) hgd s x 22 5 (.int .u8 0) 1 ho Tryd.underlying22 info_u8 rfl (by decide) (S := fun k => S k ∧ k < W.heap.size) (S' := fun q => S q ∨ W.heap.size ≤ q) (v := v) (xs := l.map byI) (ys := vs.map byI) hs (by rw [List.length_map]; exact hx)
  (R_below (R_bound HR) hb) (buf_lit W 0 (Nat.zero_le _) vs C hC (by omega)) (fun _ h => .inl h.1) (fun k hk => .inr (Nat.le_trans hb.size hk)) (by rw [List.length_map, List.length_map]; omega) (fun v1 w1 hr hf => h v1 w1 ?_ ?_)
 ·rw [List.map_append]; exact hr
 ·exact (Fr.of_below hb _).then_ hf (fun k hk _ => hk.1)
theorem append_s1 {P : Program} (hP : P = Tryd.prog) {ops : Array Oper} {rest : List Oper} {o : Oper} {a : Act} {Q : Exit → Act → World → Prop} {W : World} {n : Nat} (hn : W.heap.size = n) (y : ByteArray) (hy : y.size ≤ 9223372036854775807) (hgd : o.guard = none) (s x : Operand)
  (ho : o.op = .call { callee := .builtin .append, args := #[s, x], argTypes := #[25, 25] }) {v : Value} {l : List ByteArray} {c : Nat} {S : Nat → Prop}
  (hs : a.eval s = v) (hx : a.eval x = .slice (some ⟨n, 0, none⟩) 1 c) (HR : str.R 9 W S v l) (hlen : (l.length + 1) * 16 ≤ 140737488355328)
  (h : ∀ v1 w1, str.R 9 w1 (fun q => S q ∨ W.heap.size ≤ q) v1 (l ++ [y]) → Fr W w1 S → wpList P ops Q rest (a.put o.dst v1) w1) :
  wpList P ops Q (o :: rest) a (W.alloc (.cells #[.string y] 9)) := by
 subst hn; subst hP
 have hb : Below W.heap.size W (W.alloc (.cells #[.string y] 9)) := below_alloc (Below.refl _ _) _
 refine append_str hgd s x 25 9 (.string ByteArray.empty) 16 ho Tryd.underlying25 info_str rfl (by decide) (S := fun k => S k ∧ k < W.heap.size) (S' := fun q => S q ∨ W.heap.size ≤ q) (v := v) (xs := l) (ys := [y]) hs hx
  (R_below (R_bound HR) hb) ⟨by simp, fun i z hz => ?_⟩ (fun _ h => .inl h.1) (fun k hk => .inr (Nat.le_trans hb.size hk)) (by simpa using hlen) (fun v1 w1 hr hf => h v1 w1 hr ((Fr.of_below hb _).then_ hf (fun k hk _ => hk.1)))
 obtain ⟨rfl, rfl⟩ : i = 0 ∧ z = y := by
  cases i with
  | zero => simpa using hz.symm
  | succ i => simp at hz
 refine ⟨⟨W.heap.size, 0, none⟩, [.string z], rfl, ⟨rfl, hy⟩, fun j u hu => ?_⟩
 obtain ⟨rfl, rfl⟩ : j = 0 ∧ u = .string z := by
  cases j with
  | zero => simpa using hu.symm
  | succ j => simp at hu
 exact (Blk.new W #[.string z] 9).cell 0 rfl
end Go.Proofs.YtoaifagjdjgcbaaDoor.X
namespace Go.Proofs.YtoaifagjdjgcbaaDoor.X
open Go.RowKit Go.Sort
set_option linter.unusedVariables false
set_option linter.unusedSimpArgs false
open Ty
def raw (n : Nat) : Ty (List Value) where
 sz := n
 K := fun _ x cs => cs = x ∧ x.length = n ∧ ∀ u ∈ x, u.oneCell' = true
 O := fun _ _ x cs => cs = x ∧ x.length = n ∧ ∀ u ∈ x, u.oneCell' = true
 K_len := fun h => by rw [h.1]; exact h.2.1
 K_one := fun h u hu => h.2.2 u (h.1 ▸ hu)
 K_below := fun _ h => h
 O_K := fun h => h
 O_mono := fun _ h => h
 O_bound := fun h => h
 O_move := fun _ h => h
theorem R_of_raw {α : Type} (d : Ty α) {e : TypeId} {w : World} {S S' : Nat → Prop} {v : Value} {LC : List (List Value)} {L : List α} (h : (raw d.sz).R e w S v LC) (hl : L.length = LC.length) (T : Nat → Nat → Prop)
  (hO : ∀ i x cs, L[i]? = some x → LC[i]? = some cs → d.O w (T i) x cs) (hd : ∀ i j b, T i b → T j b → i = j) (hT : ∀ i b, T i b → S' b ∧ ¬ S b) (hS : ∀ k, S k → S' k) : d.R e w S' v L := by
 classical
 obtain ⟨inner, f, ho, hv, hx⟩ := h
 refine ⟨inner, fun b => Classical.epsilon (fun i => T i b), by rw [hl]; exact ho, fun k hk => hS k (hv k hk), fun i x hi => ?_⟩
 have hlt : i < LC.length := by rw [← hl]; exact (List.getElem?_eq_some_iff.1 hi).1
 have hc := List.getElem?_eq_getElem hlt
 have he := (hx i _ hc).1
 have h1 := hO i x _ hi hc
 rw [← he] at h1
 exact d.O_mono (fun b hb => ⟨(hT i b hb).1, fun e => (hT i b hb).2 (hv b e.symm), hd _ _ b (Classical.epsilon_spec (p := fun i => T i b) ⟨i, hb⟩) hb⟩) h1
theorem R_elems {α : Type} (d : Ty α) {e : TypeId} {w : World} {S : Nat → Prop} {A : Option Addr} {n c : Nat} {xs : List α} (h : d.R e w S (.slice A n c) xs) : ∃ (C : Nat → List Value) (T : Nat → Nat → Prop),
  (∀ i x, xs[i]? = some x → d.O w (T i) x (C i)) ∧ (∀ i b, T i b → S b ∧ b < w.heap.size) ∧ (∀ i j b, T i b → T j b → i = j) ∧
  ∀ i, i < xs.length → ∃ ad, A = some ad ∧ (∀ u, (C i)[0]? = some u → w.cell? (ad.add (i * d.sz)) = some u) ∧ ∀ j u, (C i)[j + 1]? = some u → w.cell? ⟨(ad.add (i * d.sz)).block, (ad.add (i * d.sz)).off + (j + 1), none⟩ = some u := by
 by_cases h0 : xs.length = 0
 ·obtain rfl := List.eq_nil_of_length_eq_zero h0
  exact ⟨fun _ => [], fun _ _ => False, by simp, by simp, by simp, by simp⟩
 ·obtain ⟨g, cap, hv, _, _⟩ := R_form h (by omega)
  injection hv with h1 h2 h3
  subst h1; subst h2; subst h3
  obtain ⟨cur, T, hb, hg, _, hle, _, hcs, hTS, hTT, hO⟩ := R_parts h
  have hcell : ∀ i j u, ((cur.toList.drop (i * d.sz)).take d.sz)[j]? = some u → w.cell? ⟨g, i * d.sz + j, none⟩ = some u := by
   intro i j u hu
   have hj : j < d.sz := by
    have := (List.getElem?_eq_some_iff.1 hu).1
    rw [List.length_take] at this
    omega
   rw [List.getElem?_take, if_pos hj, List.getElem?_drop] at hu
   unfold World.cell?
   rw [show w.heap[(⟨g, i * d.sz + j, none⟩ : Addr).block]? = some (.cells cur e (0, 0)) from hb]
   simpa using hu
  refine ⟨fun i => (cur.toList.drop (i * d.sz)).take d.sz, T, hO, fun i b hb => ⟨(hTS i b hb).1, (hTS i b hb).2.2⟩, hTT, fun i hi => ⟨⟨g, 0, none⟩, rfl, fun u hu => ?_, fun j u hu => ?_⟩⟩
  ·rw [Addr.add_lit, Nat.zero_add]
   exact hcell i 0 u hu
  ·rw [Addr.add_lit, Nat.zero_add]
   exact hcell i (j + 1) u hu
theorem append_r1 {P : Program} (hP : P = Tryd.prog) {ops : Array Oper} {rest : List Oper} {o : Oper} {a : Act} {Q : Exit → Act → World → Prop} {W : World} {n : Nat} (hn : W.heap.size = n) (cs : List Value) (hcs : cs.length = 5 ∧ ∀ u ∈ cs, u.oneCell' = true) (hgd : o.guard = none) (s x : Operand)
  (ho : o.op = .call { callee := .builtin .append, args := #[s, x], argTypes := #[24, 24] }) {v : Value} {l : List (List Value)} {S : Nat → Prop}
  (hs : a.eval s = v) (hx : a.eval x = .slice (some ⟨n, 0, none⟩) 1 1) (HR : (raw 5).R 27 W S v l) (hlen : (l.length + 1) * 80 ≤ 140737488355328)
  (h : ∀ v1 w1, (raw 5).R 27 w1 (fun q => S q ∨ W.heap.size ≤ q) v1 (l ++ [cs]) → Fr W w1 S → wpList P ops Q rest (a.put o.dst v1) w1) :
  wpList P ops Q (o :: rest) a (W.alloc (.cells cs.toArray 27)) := by
 subst hn; subst hP
 exact append_one (raw 5) hgd s x 24 27 (.agg #[.int .i64 0, .int .i64 0, .string ByteArray.empty, .slice none 0 0, .slice none 0 0]) 80 ho Tryd.underlying24 info_JsonS rfl (by show 0 < 5; omega) (by decide) (S := S) (T := fun _ => False) (S' := fun q => S q ∨ W.heap.size ≤ q) (v := v) (xs := l) cs cs hs hx HR ⟨rfl, hcs⟩ (fun k h => h.elim) (fun k h => .inl h) (fun k h => h.elim) (fun k h => .inr h) hlen h
def putIn (s : ByteArray) (n : Nat) (x : ByteArray) (t : Bool × List ByteArray × List Nat) : Bool × List ByteArray × List Nat :=
 if (!t.1 && !ltB x s) = true then (true, t.2.1 ++ [s], t.2.2 ++ [n]) else t
def putOn (s : ByteArray) (x : ByteArray) (k : Nat) (t : Bool × List ByteArray × List Nat) : Bool × List ByteArray × List Nat :=
 if (x.toList == s.toList) = true then t else (t.1, t.2.1 ++ [x], t.2.2 ++ [k])
def putS (l : List ByteArray) (s : ByteArray) (n : Nat) : Nat → Bool × List ByteArray × List Nat
 | 0 => (false, [], [])
 | k + 1 => putOn s (l.getD k ⟨#[]⟩) k (putIn s n (l.getD k ⟨#[]⟩) (putS l s n k))
def putE (l : List ByteArray) (s : ByteArray) (n : Nat) : List ByteArray × List Nat :=
 let t := putS l s n l.length
 if t.1 = true then t.2 else (t.2.1 ++ [s], t.2.2 ++ [n])
def putSrc (j v : J) (i : Nat) : J := if i = j.list.length then v else j.list.getD i J.null
def putJ (j v : J) (s : ByteArray) : J := ⟨5, 0, ⟨#[]⟩, (putE j.names s j.list.length).2.map (putSrc j v), (putE j.names s j.list.length).1⟩
def PutI (l : List ByteArray) (s : ByteArray) (n k : Nat) (t : Bool × List ByteArray × List Nat) : Prop :=
 t.2.1.length = t.2.2.length ∧ t.2.2.length ≤ k + 1 ∧ (t.1 = false → t.2.2.length ≤ k) ∧ t.2.2.Nodup ∧ (∀ i ∈ t.2.2, i < k ∨ (i = n ∧ t.1 = true)) ∧ ∀ x ∈ t.2.1, x ∈ l ∨ x = s
theorem PutI.inn {l : List ByteArray} {s : ByteArray} {n k : Nat} {t : Bool × List ByteArray × List Nat} (h : PutI l s n k t) (hk : k ≤ n) (x : ByteArray) : PutI l s n k (putIn s n x t) := by
 unfold putIn
 split
 ·rename_i hc
  have ht : t.1 = false := by cases h1 : t.1 <;> simp_all
  obtain ⟨h1, h2, h3, h4, h5, h6⟩ := h
  have h3 := h3 ht
  refine ⟨by simp; omega, by simp; omega, by simp, ?_, fun i hi => ?_, fun x hx => ?_⟩
  ·simp only [List.nodup_append, List.nodup_cons, List.not_mem_nil, not_false_eq_true, List.nodup_nil, and_self, List.mem_singleton]
   refine ⟨h4, trivial, fun a ha b hb => ?_⟩
   subst hb
   rcases h5 a ha with h | ⟨_, h⟩
   ·omega
   ·rw [ht] at h; cases h
  ·simp only [List.mem_append, List.mem_singleton] at hi
   rcases hi with hi | hi
   ·rcases h5 i hi with h | ⟨_, h⟩
    ·exact .inl h
    ·rw [ht] at h; cases h
   ·exact .inr ⟨hi, rfl⟩
  ·simp only [List.mem_append, List.mem_singleton] at hx
   rcases hx with hx | hx
   ·exact h6 x hx
   ·exact .inr hx
 ·exact h
theorem PutI.on {l : List ByteArray} {s : ByteArray} {n k : Nat} {t : Bool × List ByteArray × List Nat} (h : PutI l s n k t) (hk : k < n) {x : ByteArray} (hx : x ∈ l) : PutI l s n (k + 1) (putOn s x k t) := by
 obtain ⟨h1, h2, h3, h4, h5, h6⟩ := h
 unfold putOn
 split
 ·exact ⟨h1, by omega, fun h => by have := h3 h; omega, h4, fun i hi => by rcases h5 i hi with h | h; exact .inl (by omega); exact .inr h, h6⟩
 ·refine ⟨by simp; omega, by simp; omega, fun h => by have := h3 h; simp; omega, ?_, fun i hi => ?_, fun y hy => ?_⟩
  ·simp only [List.nodup_append, List.nodup_cons, List.not_mem_nil, not_false_eq_true, List.nodup_nil, and_self, List.mem_singleton]
   refine ⟨h4, trivial, fun a ha b hb => ?_⟩
   subst hb
   rcases h5 a ha with h | ⟨h, _⟩ <;> omega
  ·simp only [List.mem_append, List.mem_singleton] at hi
   rcases hi with hi | hi
   ·rcases h5 i hi with h | h
    ·exact .inl (by omega)
    ·exact .inr h
   ·exact .inl (by omega)
  ·simp only [List.mem_append, List.mem_singleton] at hy
   rcases hy with hy | hy
   ·exact h6 y hy
   ·exact .inl (hy ▸ hx)
theorem putS_inv (l : List ByteArray) (s : ByteArray) (n : Nat) : ∀ k, k ≤ l.length → l.length ≤ n → PutI l s n k (putS l s n k)
 | 0, _, _ => ⟨rfl, by simp [putS], by simp [putS], by simp [putS], by simp [putS], by simp [putS]⟩
 | k + 1, hk, hn => by
  have h := putS_inv l s n k (by omega) hn
  have hx : l.getD k ⟨#[]⟩ ∈ l := by
   rw [List.getD_eq_getElem?_getD, List.getElem?_eq_getElem (by omega)]
   exact List.getElem_mem _
  exact (h.inn (by omega) _).on (by omega) hx
structure PutM (w : World) (CJ CV : Array Value) (N : List ByteArray) (LC : List (List Value)) (vN vL : Value) (P Q : Nat → Prop) (wr : World) : Prop where
 b0 : Blk wr w.heap.size CJ 27
 b1 : Blk wr (w.heap.size + 1) CV 27
 b2 : Blk wr (w.heap.size + 2) #[.int .i64 0, .int .i64 0, .string ⟨#[]⟩, .slice none 0 0, .slice none 0 0] 27
 b3 : Blk wr (w.heap.size + 3) #[.int .i64 5, .int .i64 0, .string ⟨#[]⟩, vL, vN] 27
 rN : str.R 9 wr P vN N
 rL : (raw 5).R 27 wr Q vL LC
 st : ∀ q, (P q → w.heap.size + 4 ≤ q ∧ q < wr.heap.size ∧ ¬ Q q) ∧ (Q q → w.heap.size + 4 ≤ q ∧ q < wr.heap.size)
 bl : Below w.heap.size w wr
 sz : w.heap.size + 4 ≤ wr.heap.size
namespace PutM
variable {w wr w1 : World} {CJ CV : Array Value} {N : List ByteArray} {LC : List (List Value)} {vN vL v1 : Value} {P Q : Nat → Prop}
theorem below (h : PutM w CJ CV N LC vN vL P Q wr) (hb : Below wr.heap.size wr w1) : PutM w CJ CV N LC vN vL P Q w1 :=
 ⟨h.b0.below hb, h.b1.below hb, h.b2.below hb, h.b3.below hb, R_below h.rN hb, R_below h.rL hb, fun q => ⟨fun hp => by have h1 := (h.st q).1 hp; have h2 := hb.size; exact ⟨h1.1, by omega, h1.2.2⟩, fun hq => by have h1 := (h.st q).2 hq; have h2 := hb.size; omega⟩, below_then h.bl hb, by have := h.sz; have := hb.size; omega⟩
theorem fr {U : Nat → Prop} (h : PutM w CJ CV N LC vN vL P Q wr) (hU : ∀ q, U q → w.heap.size + 4 ≤ q) (hf : Fr wr w1 U) : Blk w1 w.heap.size CJ 27 ∧ Blk w1 (w.heap.size + 1) CV 27 ∧ Blk w1 (w.heap.size + 2) #[.int .i64 0, .int .i64 0, .string ⟨#[]⟩, .slice none 0 0, .slice none 0 0] 27 ∧ Blk w1 (w.heap.size + 3) #[.int .i64 5, .int .i64 0, .string ⟨#[]⟩, vL, vN] 27 ∧ Below w.heap.size w w1 ∧ w.heap.size + 4 ≤ w1.heap.size :=
 ⟨h.b0.fr hf (fun hu => by have := hU _ hu; omega), h.b1.fr hf (fun hu => by have := hU _ hu; omega), h.b2.fr hf (fun hu => by have := hU _ hu; omega), h.b3.fr hf (fun hu => by have := hU _ hu; omega), below_frS h.bl hf (fun k hk => by have := hU _ hk; omega), by have := h.sz; have := hf.size; omega⟩
theorem frN (h : PutM w CJ CV N LC vN vL P Q wr) (hf : Fr wr w1 P) : Blk w1 w.heap.size CJ 27 ∧ Blk w1 (w.heap.size + 1) CV 27 ∧ Blk w1 (w.heap.size + 2) #[.int .i64 0, .int .i64 0, .string ⟨#[]⟩, .slice none 0 0, .slice none 0 0] 27 ∧ Blk w1 (w.heap.size + 3) #[.int .i64 5, .int .i64 0, .string ⟨#[]⟩, vL, vN] 27 ∧ Below w.heap.size w w1 ∧ w.heap.size + 4 ≤ w1.heap.size := h.fr (fun q hq => ((h.st q).1 hq).1) hf
theorem frL (h : PutM w CJ CV N LC vN vL P Q wr) (hf : Fr wr w1 Q) : Blk w1 w.heap.size CJ 27 ∧ Blk w1 (w.heap.size + 1) CV 27 ∧ Blk w1 (w.heap.size + 2) #[.int .i64 0, .int .i64 0, .string ⟨#[]⟩, .slice none 0 0, .slice none 0 0] 27 ∧ Blk w1 (w.heap.size + 3) #[.int .i64 5, .int .i64 0, .string ⟨#[]⟩, vL, vN] 27 ∧ Below w.heap.size w w1 ∧ w.heap.size + 4 ≤ w1.heap.size := h.fr (fun q hq => ((h.st q).2 hq).1) hf
theorem setB (w1 : World) (g j : Nat) (u : Value) (hg : w.heap.size ≤ g) (h : Below w.heap.size w w1) : Below w.heap.size w (w1.setCell ⟨g, j, none⟩ u) :=
 below_frS h (Fr.setCell (S := fun k => k = g) (Fr.refl _ _) _ (fun _ => rfl) _) (fun k hk => by have : k = g := hk; omega)
theorem name (h : PutM w CJ CV N LC vN vL P Q wr) {y : ByteArray} (hv : str.R 9 w1 (fun q => P q ∨ wr.heap.size ≤ q) v1 (N ++ [y])) (hf : Fr wr w1 P) :
  PutM w CJ CV (N ++ [y]) LC v1 vL (fun q => (P q ∨ wr.heap.size ≤ q) ∧ q < w1.heap.size) Q (w1.setCell ⟨w.heap.size + 3, 4, none⟩ v1) := by
 obtain ⟨b0, b1, b2, b3, bl, sz⟩ := h.frN hf
 have hz := hf.size
 have hs := h.sz
 refine ⟨b0.other _ (by (try simp only); omega) _, b1.other _ (by (try simp only); omega) _, b2.other _ (by (try simp only); omega) _, b3.set 4 v1, R_setCell (R_bound hv) (fun hp => ?_) _, R_setCell (R_fr h.rL hf (fun k hk _ hp => ((h.st k).1 hp).2.2 hk)) (fun hq => by have := ((h.st _).2 hq).1; (try simp only at this); omega) _, fun q => ⟨fun hp => ?_, fun hq => ?_⟩, setB w1 _ _ _ (by omega) bl, by simpa using sz⟩
 ·obtain ⟨hp, _⟩ := hp
  (try simp only at hp)
  rcases hp with hp | hp
  ·have := ((h.st _).1 hp).1; omega
  ·omega
 ·obtain ⟨hp, hl⟩ := hp
  have hl2 : q < (w1.setCell ⟨w.heap.size + 3, 4, none⟩ v1).heap.size := by simpa using hl
  rcases hp with hp | hp
  ·have := (h.st q).1 hp
   exact ⟨this.1, hl2, this.2.2⟩
  ·exact ⟨by omega, hl2, fun hq => by have := ((h.st q).2 hq).2; omega⟩
 ·have := (h.st q).2 hq
  exact ⟨this.1, by simp; omega⟩
theorem elem (h : PutM w CJ CV N LC vN vL P Q wr) {cs : List Value} (hv : (raw 5).R 27 w1 (fun q => Q q ∨ wr.heap.size ≤ q) v1 (LC ++ [cs])) (hf : Fr wr w1 Q) :
  PutM w CJ CV N (LC ++ [cs]) vN v1 P (fun q => (Q q ∨ wr.heap.size ≤ q) ∧ q < w1.heap.size) (w1.setCell ⟨w.heap.size + 3, 3, none⟩ v1) := by
 obtain ⟨b0, b1, b2, b3, bl, sz⟩ := h.frL hf
 have hz := hf.size
 have hs := h.sz
 refine ⟨b0.other _ (by (try simp only); omega) _, b1.other _ (by (try simp only); omega) _, b2.other _ (by (try simp only); omega) _, b3.set 3 v1, R_setCell (R_fr h.rN hf (fun k hk _ hp => ((h.st k).1 hk).2.2 hp)) (fun hq => by have := ((h.st _).1 hq).1; (try simp only at this); omega) _, R_setCell (R_bound hv) (fun hp => ?_) _, fun q => ⟨fun hp => ?_, fun hq => ?_⟩, setB w1 _ _ _ (by omega) bl, by simpa using sz⟩
 ·obtain ⟨hp, _⟩ := hp
  (try simp only at hp)
  rcases hp with hp | hp
  ·have := ((h.st _).2 hp).1; omega
  ·omega
 ·have := (h.st q).1 hp
  refine ⟨this.1, by simp; omega, fun hq => ?_⟩
  rcases hq.1 with hq | hq
  ·exact this.2.2 hq
  ·omega
 ·obtain ⟨hp, hl⟩ := hq
  have hl2 : q < (w1.setCell ⟨w.heap.size + 3, 3, none⟩ v1).heap.size := by simpa using hl
  rcases hp with hp | hp
  ·exact ⟨((h.st q).2 hp).1, hl2⟩
  ·exact ⟨by omega, hl2⟩
end PutM
end Go.Proofs.YtoaifagjdjgcbaaDoor.X
namespace Go.Proofs.YtoaifagjdjgcbaaDoor.X
open Go.RowKit Go.Sort
set_option linter.unusedVariables false
set_option linter.unusedSimpArgs false
open Ty
theorem one5 (a b : Int) (s : ByteArray) (A B : Option Addr) (n c n2 c2 : Nat) : ∀ u ∈ [Value.int IntKind.i64 a, .int .i64 b, .string s, .slice A n c, .slice B n2 c2], u.oneCell' = true := by
 intro u hu
 simp only [List.mem_cons, List.not_mem_nil, or_false] at hu
 rcases hu with rfl | rfl | rfl | rfl | rfl <;> rfl
theorem put_fin {m : Nat} {w W : World} {j v : J} {Sj Sv : Nat → Prop} {CJ CV : Array Value} {N : List ByteArray} {src : List Nat} {C : Nat → List Value} {vN vL : Value} {P Q : Nat → Prop} (h : PutM w CJ CV N (src.map C) vN vL P Q W) (Ts : Nat → Nat → Prop)
  (HE : ∀ i, i ≤ j.list.length → (tJ (m + 1)).O w (Ts i) (putSrc j v i) (C i)) (hTT : ∀ i i' b, Ts i b → Ts i' b → i = i') (hTS : ∀ i b, Ts i b → b < w.heap.size ∧ (Sj b ∨ Sv b)) (hnd : src.Nodup) (hle : ∀ i ∈ src, i ≤ j.list.length) :
  (tJ (m + 1)).R 27 W (fun k => Q k ∨ (k < w.heap.size ∧ (Sj k ∨ Sv k))) vL (src.map (putSrc j v)) := by
 refine R_of_raw (tJ (m + 1)) (S := Q) h.rL (by simp) (fun i b => ∃ x, src[i]? = some x ∧ Ts x b) (fun i x cs hx hc => ?_) (fun i i' b h1 h2 => ?_) (fun i b hb => ?_) (fun k hk => .inl hk)
 ·rw [List.getElem?_map, Option.map_eq_some_iff] at hx hc
  obtain ⟨y, hy, rfl⟩ := hx
  obtain ⟨y', hy', rfl⟩ := hc
  rw [hy] at hy'
  obtain rfl := Option.some.inj hy'
  exact Ty.O_mono _ (fun b hb => ⟨y, hy, hb⟩) (Ty.O_below (HE y (hle y (List.mem_of_getElem? hy))) h.bl)
 ·obtain ⟨x, hx, h1⟩ := h1
  obtain ⟨x', hx', h2⟩ := h2
  obtain rfl := hTT _ _ _ h1 h2
  exact (List.getElem?_inj (List.getElem?_eq_some_iff.1 hx).1 hnd).1 (hx.trans hx'.symm)
 ·obtain ⟨x, _, hb⟩ := hb
  have h1 := hTS _ _ hb
  exact ⟨.inr h1, fun hq => by have := ((h.st b).2 hq).1; omega⟩
theorem putE_inv (l : List ByteArray) (s : ByteArray) (n : Nat) (hn : l.length ≤ n) : (putE l s n).2.Nodup ∧ ∀ i ∈ (putE l s n).2, i ≤ n := by
 have h := putS_inv l s n l.length (Nat.le_refl _) hn
 unfold putE
 simp only
 split
 ·exact ⟨h.2.2.2.1, fun i hi => by rcases h.2.2.2.2.1 i hi with h1 | h1 <;> omega⟩
 ·rename_i hc
  have hc : (putS l s n l.length).1 = false := by simpa using hc
  refine ⟨?_, fun i hi => ?_⟩
  ·simp only [List.nodup_append, List.nodup_cons, List.not_mem_nil, not_false_eq_true, List.nodup_nil, and_self, List.mem_singleton]
   refine ⟨h.2.2.2.1, trivial, fun a ha b hb => ?_⟩
   subst hb
   rcases h.2.2.2.2.1 a ha with h1 | ⟨_, h1⟩
   ·omega
   ·rw [hc] at h1; cases h1
  ·simp only [List.mem_append, List.mem_singleton] at hi
   rcases hi with hi | hi
   ·rcases h.2.2.2.2.1 i hi with h1 | h1 <;> omega
   ·omega
theorem put_done {m : Nat} {w W W2 : World} {j v : J} {s : ByteArray} {Sj Sv : Nat → Prop} {CJ CV : Array Value} {N : List ByteArray} {src : List Nat} {LC : List (List Value)} {C : Nat → List Value} {vN vL : Value} {P Q : Nat → Prop} (h : PutM w CJ CV N LC vN vL P Q W) (hLC : LC = src.map C)
  (hE : putE j.names s j.list.length = (N, src)) (hlen : j.names.length = j.list.length) (hT : ∃ Ts : Nat → Nat → Prop, (∀ i, i ≤ j.list.length → (tJ (m + 1)).O w (Ts i) (putSrc j v i) (C i)) ∧ (∀ i i' b, Ts i b → Ts i' b → i = i') ∧ ∀ i b, Ts i b → b < w.heap.size ∧ (Sj b ∨ Sv b))
  (hf : Fr W W2 (fun k => k = w.heap.size + 2)) : (tJ (m + 2)).O W2 (fun k => w.heap.size ≤ k ∨ Sj k ∨ Sv k) (putJ j v s) [.int .i64 5, .int .i64 0, .string ⟨#[]⟩, vL, vN] ∧ Below w.heap.size w W2 := by
 subst hLC
 obtain ⟨Ts, t1, t2, t3⟩ := hT
 have hI := putE_inv j.names s j.list.length (by omega)
 rw [hE] at hI
 have hR := put_fin h Ts t1 t2 t3 hI.1 hI.2
 have he : putJ j v s = ⟨5, 0, ⟨#[]⟩, src.map (putSrc j v), N⟩ := by unfold putJ; rw [hE]
 rw [he]
 refine ⟨tJ_O.2 ⟨vL, vN, _, P, rfl, by show (0 : Nat) ≤ _; omega, R_fr hR hf (fun k hk _ e => ?_), R_fr h.rN hf (fun k hk _ e => by have := ((h.st k).1 hk).1; have e : k = _ := e; omega), fun k hk => ?_, fun k hk => .inl (by have := ((h.st k).1 hk).1; omega), fun k hk hp => ?_⟩, below_frS h.bl hf (fun k e => by have e : k = _ := e; omega)⟩
 ·have e : k = w.heap.size + 2 := e
  rcases hk with hk | hk
  ·have := ((h.st k).2 hk).1; omega
  ·omega
 ·rcases hk with hk | hk
  ·exact .inl (by have := ((h.st k).2 hk).1; omega)
  ·exact .inr hk.2
 ·rcases hk with hk | hk
  ·exact ((h.st k).1 hp).2.2 hk
  ·have := ((h.st k).1 hp).1; omega
set_option maxHeartbeats 2000000 in
set_option maxRecDepth 100000 in
theorem spec_l1Put {m : Nat} {Sj Sv : Nat → Prop} (j v : J) (s : ByteArray) (cs cs2 : List Value) (w : World) (hj : (tJ (m + 2)).O w Sj j cs) (hv : (tJ (m + 1)).O w Sv v cs2) (hd : ∀ k, Sj k → ¬ Sv k) (hs : s.size ≤ 1000) (hlen : j.names.length = j.list.length) (h5 : j.list.length ≤ 100000) :
  Calls Tryd.prog 60 #[.agg cs.toArray, .string s, .agg cs2.toArray] w fun e w' => ∃ cs', e = .returned (.agg cs'.toArray) ∧ (tJ (m + 2)).O w' (fun k => w.heap.size ≤ k ∨ Sj k ∨ Sv k) (putJ j v s) cs' ∧ Below w.heap.size w w' := by
 obtain ⟨v3, v4, S3, S4, rfl, hsj, hr3, hr4, hs3, hs4, hs34⟩ := tJ_O.1 hj
 obtain ⟨A3, c3, rfl, hc3, hC3⟩ := R_C hr3
 obtain ⟨A4, c4, rfl, hc4, hC4⟩ := R_C hr4
 obtain ⟨C, T, hO, hT, hTT, hcell⟩ := R_elems (tJ (m + 1)) hr3
 have HN4 := Hd.mk hC4
 have HVO := Hd.mk (Ty.O_bound _ hv)
 obtain ⟨v5, v6, _, _, rfl, hsv, hr5, hr6, _⟩ := tJ_O.1 hv
 obtain ⟨B3, e3, rfl, _, _⟩ := R_C hr5
 obtain ⟨B4, e4, rfl, _, _⟩ := R_C hr6
 obtain ⟨n, hn⟩ : ∃ n, n = j.list.length := ⟨_, rfl⟩
 obtain ⟨C', hC'⟩ : ∃ f : Nat → List Value, f = fun i => if i = n then [Value.int IntKind.i64 v.kind, .int .i64 v.n, .string v.s, .slice B3 v.list.length e3, .slice B4 v.names.length e4] else C i := ⟨_, rfl⟩
 have HCn := Hd.mk (show C' n = [Value.int IntKind.i64 v.kind, .int .i64 v.n, .string v.s, .slice B3 v.list.length e3, .slice B4 v.names.length e4] by rw [hC']; exact if_pos rfl)
 have HCi := Hd.mk (show ∀ i, i < n → C' i = C i from fun i hi => by rw [hC']; exact if_neg (by omega))
 have HTS := Hd.mk (show ∃ Ts : Nat → Nat → Prop, (∀ i, i ≤ j.list.length → (tJ (m + 1)).O w (Ts i) (putSrc j v i) (C' i)) ∧ (∀ i i' b, Ts i b → Ts i' b → i = i') ∧ ∀ i b, Ts i b → b < w.heap.size ∧ (Sj b ∨ Sv b) from by
  obtain ⟨Ts, t1, t2⟩ : ∃ Ts : Nat → Nat → Prop, (∀ b, Ts n b ↔ (Sv b ∧ b < w.heap.size)) ∧ ∀ i, i ≠ n → ∀ b, Ts i b ↔ T i b := ⟨fun i b => if i = n then Sv b ∧ b < w.heap.size else T i b, fun b => by simp, fun i h b => by simp [h]⟩
  refine ⟨Ts, fun i hi => ?_, fun i i' b h1 h2 => ?_, fun i b h => ?_⟩
  ·by_cases h : i = n
   ·rw [h, HCn.out]
    unfold putSrc
    rw [if_pos hn]
    exact Ty.O_mono _ (fun b hb => (t1 b).2 hb) HVO.out
   ·rw [HCi.out i (by omega)]
    unfold putSrc
    rw [if_neg (by omega)]
    refine Ty.O_mono _ (fun b hb => (t2 i h b).2 hb) (hO i _ ?_)
    rw [List.getD_eq_getElem?_getD, List.getElem?_eq_getElem (by omega)]; rfl
  ·by_cases h : i = n <;> by_cases h' : i' = n
   ·omega
   ·rw [h, t1] at h1; rw [t2 _ h'] at h2
    exact absurd h1.1 (hd b (hs3 b (hT _ _ h2).1))
   ·rw [t2 _ h] at h1; rw [h', t1] at h2
    exact absurd h2.1 (hd b (hs3 b (hT _ _ h1).1))
   ·rw [t2 _ h] at h1; rw [t2 _ h'] at h2
    exact hTT _ _ _ h1 h2
  ·by_cases h' : i = n
   ·rw [h', t1] at h; exact ⟨h.2, .inr h.1⟩
   ·rw [t2 _ h'] at h; exact ⟨(hT _ _ h).2, .inl (hs3 b (hT _ _ h).1)⟩)
 have HELE := Hd.mk hcell
 have HO := Hd.mk hO
 have Hn := Hd.mk hn
 have HLEN := Hd.mk hlen
 have h5n : j.names.length ≤ 100000 := by omega
 have hm3 := hC3.1; have hm4 := hC4.1
 clear hr3 hr4 hr5 hr6 hC3 hC4 hj hv hs3 hs4 hs34 hd hC' hO hT hTT hcell hlen hn
 have hB := Hd.mk (Below.refl w.heap.size w)
 go_enter Tryd.func60, Tryd.ntmps60
 go_wp2_with fail
 apply wp_gen; intro W1 hW
 have hz_ : w.heap.size + 4 ≤ W1.heap.size := by rw [hW]; simp
 have hE : Below w.heap.size w W1 := by rw [hW]; (repeat (first | with_reducible refine below_alloc ?_ _ | with_reducible refine below_drew ?_)); exact Below.refl _ _
 have hB := hB.th hE
 have b0 := Hd.mk (show Blk W1 (w.heap.size) #[.int .i64 j.kind, .int .i64 j.n, .string j.s, .slice A3 j.list.length c3, .slice A4 j.names.length c4] 27 by rw [hW]; first | exact ((((Blk.new _ _ _).alloc _).alloc _).alloc _) | (simpa using ((((Blk.new _ _ _).alloc _).alloc _).alloc _)))
 have b1 := Hd.mk (show Blk W1 (w.heap.size + 1) #[.int .i64 v.kind, .int .i64 v.n, .string v.s, .slice B3 v.list.length e3, .slice B4 v.names.length e4] 27 by rw [hW]; first | exact (((Blk.new1 _ _ _ _).alloc _).alloc _) | (simpa using (((Blk.new1 _ _ _ _).alloc _).alloc _)))
 have b2 := Hd.mk (show Blk W1 (w.heap.size + 1 + 1) #[.int .i64 0, .int .i64 0, .string ⟨#[]⟩, .slice none 0 0, .slice none 0 0] 27 by rw [hW]; first | exact ((Blk.new2 _ _ _ _ _).alloc _) | (simpa using ((Blk.new2 _ _ _ _ _).alloc _)))
 have b3 := Hd.mk (show Blk W1 (w.heap.size + 1 + 1 + 1) #[.int .i64 5, .int .i64 0, .string ⟨#[]⟩, .slice none 0 0, .slice none 0 0] 27 by rw [hW]; first | exact (Blk.new3 _ _ _ _ _ _) | (simpa using (Blk.new3 _ _ _ _ _ _)))
 clear hW hE
 have z1 := Hd.mk hz_; clear hz_
 have HW1 : PutM w #[.int .i64 j.kind, .int .i64 j.n, .string j.s, .slice A3 j.list.length c3, .slice A4 j.names.length c4] #[.int .i64 v.kind, .int .i64 v.n, .string v.s, .slice B3 v.list.length e3, .slice B4 v.names.length e4] [] [] (.slice none 0 0) (.slice none 0 0) (fun _ => False) (fun _ => False) W1 := ⟨b0.out, b1.out, b2.out, b3.out, R_nil, R_nil, fun q => ⟨fun h => h.elim, fun h => h.elim⟩, hB.out, by have z1_ := z1.out; omega⟩
 have HW1 := Hd.mk HW1; clear b0 b1 b2 b3 hB z1
 go_loopw [8, 9] (fun p i wr => ∃ (k : Nat) (pt : Bool) (N : List ByteArray) (src : List Nat) (LC : List (List Value)) (vN vL : Value) (P Q : Nat → Prop), k ≤ j.names.length ∧ p = .bool pt ∧ i = .int .i64 k ∧ Hd (putS j.names s n k = (pt, N, src)) ∧ Hd (LC = src.map C') ∧ Hd (PutM w #[.int .i64 j.kind, .int .i64 j.n, .string j.s, .slice A3 j.list.length c3, .slice A4 j.names.length c4] #[.int .i64 v.kind, .int .i64 v.n, .string v.s, .slice B3 v.list.length e3, .slice B4 v.names.length e4] N LC vN vL P Q wr)) (fun _ i _ => j.names.length - (intOf i).toNat)
 case atStart => exact ⟨0, false, [], [], [], .slice none 0 0, .slice none 0 0, _, _, Nat.zero_le _, rfl, rfl, ⟨rfl⟩, ⟨rfl⟩, HW1⟩
 case round =>
  clear HW1
  obtain ⟨k, pt, N, src, LC, vN, vL, P, Q, hk, rfl, rfl, HPS, HLC, H⟩ := hrel
  have HI := Hd.mk (show PutI j.names s n k (pt, N, src) by rw [← HPS.out]; exact putS_inv _ _ _ _ hk (by have := HLEN.out; have := Hn.out; omega))
  have hLN := Hd.mk (show N.length ≤ 100001 by have h1 := HI.out.1; have h2 := HI.out.2.1; (try simp only at h1 h2); omega)
  have hLL := Hd.mk (show LC.length ≤ 100001 by have h2 := HI.out.2.1; rw [HLC.out, List.length_map]; (try simp only at h2); omega)
  have hk0 : (0 : Int) ≤ (k : Int) := by omega
  obtain ⟨AN, cN, he_, _, _⟩ := R_C H.out.rN
  subst he_
  obtain ⟨AL, cL, he_, _, _⟩ := R_C H.out.rL
  subst he_
  by_cases hlt : k < j.names.length
  ·obtain ⟨ad4, had, xn, hsn⟩ := C_str_at HN4.out (Below.refl _ _) k hlt
   have XN := Hd.mk xn; clear xn
   obtain rfl := had
   have hkl : k < j.list.length := by rw [← HLEN.out]; exact hlt
   have hkn : k < n := by rw [Hn.out]; exact hkl
   have hgq := run_geq j.names[k] s
   obtain ⟨ad3, had3, e0, e1⟩ := HELE.out k hkl
   obtain rfl := had3
   obtain ⟨u3, u4, _, _, hck, _, hru3, hru4, _⟩ := tJ_O.1 (HO.out k j.list[k] (List.getElem?_eq_getElem hkl))
   obtain ⟨D3, d3, rfl, _, _⟩ := R_C hru3
   obtain ⟨D4, d4, rfl, _, _⟩ := R_C hru4
   rw [hck] at e0 e1
   have XE := Hd.mk (show w.cell? (ad3.add (k * 5)) = some (.int .i64 j.list[k].kind) ∧ w.cell? ⟨(ad3.add (k * 5)).block, (ad3.add (k * 5)).off + 1, none⟩ = some (.int .i64 j.list[k].n) ∧ w.cell? ⟨(ad3.add (k * 5)).block, (ad3.add (k * 5)).off + 2, none⟩ = some (.string j.list[k].s) ∧ w.cell? ⟨(ad3.add (k * 5)).block, (ad3.add (k * 5)).off + 3, none⟩ = some (.slice D3 j.list[k].list.length d3) ∧ w.cell? ⟨(ad3.add (k * 5)).block, (ad3.add (k * 5)).off + 4, none⟩ = some (.slice D4 j.list[k].names.length d4) from ⟨e0 _ rfl, e1 0 _ rfl, e1 1 _ rfl, e1 2 _ rfl, e1 3 _ rfl⟩)
   have HCK := Hd.mk (show C' k = [Value.int IntKind.i64 j.list[k].kind, .int .i64 j.list[k].n, .string j.list[k].s, .slice D3 j.list[k].list.length d3, .slice D4 j.list[k].names.length d4] by rw [HCi.out k hkn]; exact hck)
   clear e0 e1 hck hru3 hru4
   have HGD := Hd.mk (show j.names.getD k ⟨#[]⟩ = j.names[k] by rw [List.getD_eq_getElem?_getD, List.getElem?_eq_getElem hlt]; rfl)
   have hm5 : k * 5 ≤ 500000 := by omega
   cases pt
   ·cases hge : ltB j.names[k] s
    ·rw [hge] at hgq
     cases hb : (j.names[k].toList == s.toList)
     ·have HPS2 := Hd.mk (show putS j.names s n (k + 1) = (true, (N ++ [s]) ++ [j.names[k]], (src ++ [n]) ++ [k]) by
       show putOn s (j.names.getD k ⟨#[]⟩) k (putIn s n (j.names.getD k ⟨#[]⟩) (putS j.names s n k)) = _
       rw [HPS.out, HGD.out]; simp [putIn, putOn, hb, hge])
      have UA := trivial; have UB := trivial
      have v03 : wr.cell? ⟨w.heap.size, 3, none⟩ = some (.slice (some ad3) j.list.length c3) := (H.out.b0).cell 3 rfl
      have v04 : wr.cell? ⟨w.heap.size, 4, none⟩ = some (.slice (some ad4) j.names.length c4) := (H.out.b0).cell 4 rfl
      have v0z := (H.out.b0).frozen
      have v10 : wr.cell? ⟨w.heap.size + 1, 0, none⟩ = some (.int .i64 v.kind) := (H.out.b1).cell 0 rfl
      have v11 : wr.cell? ⟨w.heap.size + 1, 1, none⟩ = some (.int .i64 v.n) := (H.out.b1).cell 1 rfl
      have v12 : wr.cell? ⟨w.heap.size + 1, 2, none⟩ = some (.string v.s) := (H.out.b1).cell 2 rfl
      have v13 : wr.cell? ⟨w.heap.size + 1, 3, none⟩ = some (.slice B3 v.list.length e3) := (H.out.b1).cell 3 rfl
      have v14 : wr.cell? ⟨w.heap.size + 1, 4, none⟩ = some (.slice B4 v.names.length e4) := (H.out.b1).cell 4 rfl
      have v1z := (H.out.b1).frozen
      have v30 : wr.cell? ⟨w.heap.size + 3, 0, none⟩ = some (.int .i64 5) := (H.out.b3).cell 0 rfl
      have v31 : wr.cell? ⟨w.heap.size + 3, 1, none⟩ = some (.int .i64 0) := (H.out.b3).cell 1 rfl
      have v32 : wr.cell? ⟨w.heap.size + 3, 2, none⟩ = some (.string ⟨#[]⟩) := (H.out.b3).cell 2 rfl
      have v33 : wr.cell? ⟨w.heap.size + 3, 3, none⟩ = some (.slice AL LC.length cL) := (H.out.b3).cell 3 rfl
      have v34 : wr.cell? ⟨w.heap.size + 3, 4, none⟩ = some (.slice AN N.length cN) := (H.out.b3).cell 4 rfl
      have v3z := (H.out.b3).frozen
      have xn : wr.cell? (ad4.add k) = some (.string j.names[k]) := cell_below H.out.bl XN.out
      have x0 : wr.cell? (ad3.add (k * 5)) = some (.int .i64 j.list[k].kind) := cell_below H.out.bl XE.out.1
      have x1 : wr.cell? ⟨(ad3.add (k * 5)).block, (ad3.add (k * 5)).off + 1, none⟩ = some (.int .i64 j.list[k].n) := cell_below H.out.bl XE.out.2.1
      have x2 : wr.cell? ⟨(ad3.add (k * 5)).block, (ad3.add (k * 5)).off + 2, none⟩ = some (.string j.list[k].s) := cell_below H.out.bl XE.out.2.2.1
      have x3 : wr.cell? ⟨(ad3.add (k * 5)).block, (ad3.add (k * 5)).off + 3, none⟩ = some (.slice D3 j.list[k].list.length d3) := cell_below H.out.bl XE.out.2.2.2.1
      have x4 : wr.cell? ⟨(ad3.add (k * 5)).block, (ad3.add (k * 5)).off + 4, none⟩ = some (.slice D4 j.list[k].names.length d4) := cell_below H.out.bl XE.out.2.2.2.2
      go_wp2_with (first | (clear UA; at_builtin; refine append_s1 rfl rfl s (by omega) rfl _ _ rfl rfl rfl H.out.rN (by have h1_ := hLN.out; have h2_ := hLL.out; skip; omega) (fun v3 w2 hv3 hf3 => ?_); obtain ⟨m0, m1, m2, m3, _, _⟩ := H.out.frN hf3; have H2 := H.out.name hv3 hf3; obtain ⟨N2, hl_⟩ : ∃ z, z = N ++ [s] := ⟨_, rfl⟩; rw [← hl_] at H2 hv3; have E2 := Hd.mk hl_; clear hl_; obtain ⟨AA2, cc2, he_, _, _⟩ := R_C hv3; subst he_; have H2 := Hd.mk H2; have g2b0_3 : w2.cell? ⟨w.heap.size, 3, none⟩ = some (.slice (some ad3) j.list.length c3) := (m0).cell 3 rfl; have g2b0_4 : w2.cell? ⟨w.heap.size, 4, none⟩ = some (.slice (some ad4) j.names.length c4) := (m0).cell 4 rfl; have g2b0_z := (m0).frozen; have g2b1_0 : w2.cell? ⟨w.heap.size + 1, 0, none⟩ = some (.int .i64 v.kind) := (m1).cell 0 rfl; have g2b1_1 : w2.cell? ⟨w.heap.size + 1, 1, none⟩ = some (.int .i64 v.n) := (m1).cell 1 rfl; have g2b1_2 : w2.cell? ⟨w.heap.size + 1, 2, none⟩ = some (.string v.s) := (m1).cell 2 rfl; have g2b1_3 : w2.cell? ⟨w.heap.size + 1, 3, none⟩ = some (.slice B3 v.list.length e3) := (m1).cell 3 rfl; have g2b1_4 : w2.cell? ⟨w.heap.size + 1, 4, none⟩ = some (.slice B4 v.names.length e4) := (m1).cell 4 rfl; have g2b1_z := (m1).frozen; have g2b3_0 : w2.cell? ⟨w.heap.size + 3, 0, none⟩ = some (.int .i64 5) := (m3).cell 0 rfl; have g2b3_1 : w2.cell? ⟨w.heap.size + 3, 1, none⟩ = some (.int .i64 0) := (m3).cell 1 rfl; have g2b3_2 : w2.cell? ⟨w.heap.size + 3, 2, none⟩ = some (.string ⟨#[]⟩) := (m3).cell 2 rfl; have g2b3_3 : w2.cell? ⟨w.heap.size + 3, 3, none⟩ = some (.slice AL LC.length cL) := (m3).cell 3 rfl; have g2b3_4 : w2.cell? ⟨w.heap.size + 3, 4, none⟩ = some (.slice AN N.length cN) := (m3).cell 4 rfl; have g2b3_z := (m3).frozen; clear hv3 hf3 m0 m1 m2 m3) | (clear UB; at_builtin; refine append_r1 rfl (by simp) [Value.int IntKind.i64 v.kind, .int .i64 v.n, .string v.s, .slice B3 v.list.length e3, .slice B4 v.names.length e4] ⟨rfl, one5 _ _ _ _ _ _ _ _ _⟩ rfl _ _ rfl rfl rfl H2.out.rL (by have h1_ := hLN.out; have h2_ := hLL.out; have lE2 := congrArg List.length E2.out; rw [List.length_append, List.length_singleton] at lE2; omega) (fun v3 w3 hv3 hf3 => ?_); obtain ⟨m0, m1, m2, m3, _, _⟩ := H2.out.frL hf3; have H3 := H2.out.elem hv3 hf3; obtain ⟨LC3, hl_⟩ : ∃ z, z = LC ++ [[Value.int IntKind.i64 v.kind, .int .i64 v.n, .string v.s, .slice B3 v.list.length e3, .slice B4 v.names.length e4]] := ⟨_, rfl⟩; rw [← hl_] at H3 hv3; have E3 := Hd.mk hl_; clear hl_; obtain ⟨AA3, cc3, he_, _, _⟩ := R_C hv3; subst he_; have H3 := Hd.mk H3; have g3b0_3 : w3.cell? ⟨w.heap.size, 3, none⟩ = some (.slice (some ad3) j.list.length c3) := (m0).cell 3 rfl; have g3b0_4 : w3.cell? ⟨w.heap.size, 4, none⟩ = some (.slice (some ad4) j.names.length c4) := (m0).cell 4 rfl; have g3b0_z := (m0).frozen; have g3b1_0 : w3.cell? ⟨w.heap.size + 1, 0, none⟩ = some (.int .i64 v.kind) := (m1).cell 0 rfl; have g3b1_1 : w3.cell? ⟨w.heap.size + 1, 1, none⟩ = some (.int .i64 v.n) := (m1).cell 1 rfl; have g3b1_2 : w3.cell? ⟨w.heap.size + 1, 2, none⟩ = some (.string v.s) := (m1).cell 2 rfl; have g3b1_3 : w3.cell? ⟨w.heap.size + 1, 3, none⟩ = some (.slice B3 v.list.length e3) := (m1).cell 3 rfl; have g3b1_4 : w3.cell? ⟨w.heap.size + 1, 4, none⟩ = some (.slice B4 v.names.length e4) := (m1).cell 4 rfl; have g3b1_z := (m1).frozen; have g3b3_0 : w3.cell? ⟨w.heap.size + 3, 0, none⟩ = some (.int .i64 5) := (m3).cell 0 rfl; have g3b3_1 : w3.cell? ⟨w.heap.size + 3, 1, none⟩ = some (.int .i64 0) := (m3).cell 1 rfl; have g3b3_2 : w3.cell? ⟨w.heap.size + 3, 2, none⟩ = some (.string ⟨#[]⟩) := (m3).cell 2 rfl; have g3b3_3 : w3.cell? ⟨w.heap.size + 3, 3, none⟩ = some (.slice AL LC.length cL) := (m3).cell 3 rfl; have g3b3_4 : w3.cell? ⟨w.heap.size + 3, 4, none⟩ = some (.slice AA2 N2.length cc2) := (m3).cell 4 rfl; have g3b3_z := (m3).frozen; clear hv3 hf3 m0 m1 m2 m3; have g3x : (w3.setCell ⟨w.heap.size + 1 + 1 + 1, 3, none⟩ (Value.slice AA3 LC3.length cc3)).cell? (ad4.add k) = some (.string j.names[k]) := cell_below H3.out.bl XN.out))
      clear v03 v04 v0z v10 v11 v12 v13 v14 v1z v30 v31 v32 v33 v34 v3z g2b0_3 g2b0_4 g2b0_z g2b1_0 g2b1_1 g2b1_2 g2b1_3 g2b1_4 g2b1_z g2b3_0 g2b3_1 g2b3_2 g2b3_3 g2b3_4 g2b3_z g3b0_3 g3b0_4 g3b0_z g3b1_0 g3b1_1 g3b1_2 g3b1_3 g3b1_4 g3b1_z g3b3_0 g3b3_1 g3b3_2 g3b3_3 g3b3_4 g3b3_z g3x xn x0 x1 x2 x3 x4
      obtain ⟨W4, hW⟩ : ∃ W, W = (w3.setCell ⟨w.heap.size + 3, 3, none⟩ (Value.slice AA3 LC3.length cc3)) := ⟨_, rfl⟩
      rw [← hW]
      have H3_ := H3.out
      rw [← hW] at H3_
      replace H3 := Hd.mk H3_; clear H3_ hW
      have v03 : W4.cell? ⟨w.heap.size, 3, none⟩ = some (.slice (some ad3) j.list.length c3) := (H3.out.b0).cell 3 rfl
      have v04 : W4.cell? ⟨w.heap.size, 4, none⟩ = some (.slice (some ad4) j.names.length c4) := (H3.out.b0).cell 4 rfl
      have v0z := (H3.out.b0).frozen
      have v10 : W4.cell? ⟨w.heap.size + 1, 0, none⟩ = some (.int .i64 v.kind) := (H3.out.b1).cell 0 rfl
      have v11 : W4.cell? ⟨w.heap.size + 1, 1, none⟩ = some (.int .i64 v.n) := (H3.out.b1).cell 1 rfl
      have v12 : W4.cell? ⟨w.heap.size + 1, 2, none⟩ = some (.string v.s) := (H3.out.b1).cell 2 rfl
      have v13 : W4.cell? ⟨w.heap.size + 1, 3, none⟩ = some (.slice B3 v.list.length e3) := (H3.out.b1).cell 3 rfl
      have v14 : W4.cell? ⟨w.heap.size + 1, 4, none⟩ = some (.slice B4 v.names.length e4) := (H3.out.b1).cell 4 rfl
      have v1z := (H3.out.b1).frozen
      have v30 : W4.cell? ⟨w.heap.size + 3, 0, none⟩ = some (.int .i64 5) := (H3.out.b3).cell 0 rfl
      have v31 : W4.cell? ⟨w.heap.size + 3, 1, none⟩ = some (.int .i64 0) := (H3.out.b3).cell 1 rfl
      have v32 : W4.cell? ⟨w.heap.size + 3, 2, none⟩ = some (.string ⟨#[]⟩) := (H3.out.b3).cell 2 rfl
      have v33 : W4.cell? ⟨w.heap.size + 3, 3, none⟩ = some (.slice AA3 LC3.length cc3) := (H3.out.b3).cell 3 rfl
      have v34 : W4.cell? ⟨w.heap.size + 3, 4, none⟩ = some (.slice AA2 N2.length cc2) := (H3.out.b3).cell 4 rfl
      have v3z := (H3.out.b3).frozen
      have xn : W4.cell? (ad4.add k) = some (.string j.names[k]) := cell_below H3.out.bl XN.out
      have x0 : W4.cell? (ad3.add (k * 5)) = some (.int .i64 j.list[k].kind) := cell_below H3.out.bl XE.out.1
      have x1 : W4.cell? ⟨(ad3.add (k * 5)).block, (ad3.add (k * 5)).off + 1, none⟩ = some (.int .i64 j.list[k].n) := cell_below H3.out.bl XE.out.2.1
      have x2 : W4.cell? ⟨(ad3.add (k * 5)).block, (ad3.add (k * 5)).off + 2, none⟩ = some (.string j.list[k].s) := cell_below H3.out.bl XE.out.2.2.1
      have x3 : W4.cell? ⟨(ad3.add (k * 5)).block, (ad3.add (k * 5)).off + 3, none⟩ = some (.slice D3 j.list[k].list.length d3) := cell_below H3.out.bl XE.out.2.2.2.1
      have x4 : W4.cell? ⟨(ad3.add (k * 5)).block, (ad3.add (k * 5)).off + 4, none⟩ = some (.slice D4 j.list[k].names.length d4) := cell_below H3.out.bl XE.out.2.2.2.2
      obtain ⟨rv03, rv04, rv10, rv11, rv12, rv13, rv14⟩ := reg7 v03 v04 v10 v11 v12 v13 v14
      obtain ⟨rv30, rv31, rv32, rv33, rv34, rxn, rx0⟩ := reg7 v30 v31 v32 v33 v34 xn x0
      have rx1 := cell_regrown x1
      have rx2 := cell_regrown x2
      have rx3 := cell_regrown x3
      have rx4 := cell_regrown x4
      refine region_mixT (.p 0 (.q 1 (.p 2 (.q 3 (.p 4 (.q 5 (.q 6 (.b 7 .fin)))))))) [8, 9, 10] (by kernel_rfl) (by kernel_rfl) (fun _ _ _ _ _ h => h) ?_
      refine genT ?_; intro W5 hW
      have hS := Hd.mk (show Below W4.heap.size W4 W5 by rw [hW]; exact below_drew (Below.refl _ _)); clear hW
      replace H3 := Hd.mk (H3.out.below hS.out)
      iterate 7 ((first | refine mixT_q rfl ?_ | refine mixT_p rfl ?_); go_big_quiet_want; go_big_quiet_op; go_big_quiet_on; refine wpQuiet_nil ?_)
      refine mixT_b rfl ?_ (by rfl)
      go_wp2_with fail
      refine ⟨cls_below (below_alloc hS.out _), ?_⟩
      refine mixT_fin ?_
      clear hS rv03 rv04 rv10 rv11 rv12 rv13 rv14 rv30 rv31 rv32 rv33 rv34 rxn rx0 rx1 rx2 rx3 rx4
      clear v03 v04 v0z v10 v11 v12 v13 v14 v1z v30 v31 v32 v33 v34 v3z xn x0 x1 x2 x3 x4
      refine tail_b rfl ?_ (by rfl)
      go_wp2_with (at_builtin; refine append_s1 rfl rfl j.names[k] (by omega) rfl _ _ rfl rfl rfl H3.out.rN (by have h1_ := hLN.out; have h2_ := hLL.out; have lE2 := congrArg List.length E2.out; rw [List.length_append, List.length_singleton] at lE2; have lE3 := congrArg List.length E3.out; rw [List.length_append, List.length_singleton] at lE3; omega) (fun v3 w6 hv3 hf3 => ?_); obtain ⟨m0, m1, m2, m3, _, _⟩ := H3.out.frN hf3; have H6 := H3.out.name hv3 hf3; obtain ⟨N6, hl_⟩ : ∃ z, z = N2 ++ [j.names[k]] := ⟨_, rfl⟩; rw [← hl_] at H6 hv3; have E6 := Hd.mk hl_; clear hl_; obtain ⟨AA6, cc6, he_, _, _⟩ := R_C hv3; subst he_; have H6 := Hd.mk H6; have g6b0_3 : w6.cell? ⟨w.heap.size, 3, none⟩ = some (.slice (some ad3) j.list.length c3) := (m0).cell 3 rfl; have g6b0_4 : w6.cell? ⟨w.heap.size, 4, none⟩ = some (.slice (some ad4) j.names.length c4) := (m0).cell 4 rfl; have g6b0_z := (m0).frozen; have g6b1_0 : w6.cell? ⟨w.heap.size + 1, 0, none⟩ = some (.int .i64 v.kind) := (m1).cell 0 rfl; have g6b1_1 : w6.cell? ⟨w.heap.size + 1, 1, none⟩ = some (.int .i64 v.n) := (m1).cell 1 rfl; have g6b1_2 : w6.cell? ⟨w.heap.size + 1, 2, none⟩ = some (.string v.s) := (m1).cell 2 rfl; have g6b1_3 : w6.cell? ⟨w.heap.size + 1, 3, none⟩ = some (.slice B3 v.list.length e3) := (m1).cell 3 rfl; have g6b1_4 : w6.cell? ⟨w.heap.size + 1, 4, none⟩ = some (.slice B4 v.names.length e4) := (m1).cell 4 rfl; have g6b1_z := (m1).frozen; have g6b3_0 : w6.cell? ⟨w.heap.size + 3, 0, none⟩ = some (.int .i64 5) := (m3).cell 0 rfl; have g6b3_1 : w6.cell? ⟨w.heap.size + 3, 1, none⟩ = some (.int .i64 0) := (m3).cell 1 rfl; have g6b3_2 : w6.cell? ⟨w.heap.size + 3, 2, none⟩ = some (.string ⟨#[]⟩) := (m3).cell 2 rfl; have g6b3_3 : w6.cell? ⟨w.heap.size + 3, 3, none⟩ = some (.slice AA3 LC3.length cc3) := (m3).cell 3 rfl; have g6b3_4 : w6.cell? ⟨w.heap.size + 3, 4, none⟩ = some (.slice AA2 N2.length cc2) := (m3).cell 4 rfl; have g6b3_z := (m3).frozen; clear hv3 hf3 m0 m1 m2 m3)
      refine mixQ_n ?_
      refine tail_b rfl ?_ (by rfl)
      go_wp2_with fail
      refine mixQ_n ?_
      refine tail_b rfl ?_ (by rfl)
      go_wp2_with fail
      refine mixQ_n ?_
      refine tail_nil ?_
      clear g6b0_3 g6b0_4 g6b0_z g6b1_0 g6b1_1 g6b1_2 g6b1_3 g6b1_4 g6b1_z g6b3_0 g6b3_1 g6b3_2 g6b3_3 g6b3_4 g6b3_z
      obtain ⟨W7, hW⟩ : ∃ W, W = (w6.setCell ⟨w.heap.size + 3, 4, none⟩ (Value.slice AA6 N6.length cc6)) := ⟨_, rfl⟩
      rw [← hW]
      have H6_ := H6.out
      rw [← hW] at H6_
      replace H6 := Hd.mk H6_; clear H6_ hW
      go_wp2_with fail
      have v03 : W7.cell? ⟨w.heap.size, 3, none⟩ = some (.slice (some ad3) j.list.length c3) := (H6.out.b0).cell 3 rfl
      have v04 : W7.cell? ⟨w.heap.size, 4, none⟩ = some (.slice (some ad4) j.names.length c4) := (H6.out.b0).cell 4 rfl
      have v0z := (H6.out.b0).frozen
      have v10 : W7.cell? ⟨w.heap.size + 1, 0, none⟩ = some (.int .i64 v.kind) := (H6.out.b1).cell 0 rfl
      have v11 : W7.cell? ⟨w.heap.size + 1, 1, none⟩ = some (.int .i64 v.n) := (H6.out.b1).cell 1 rfl
      have v12 : W7.cell? ⟨w.heap.size + 1, 2, none⟩ = some (.string v.s) := (H6.out.b1).cell 2 rfl
      have v13 : W7.cell? ⟨w.heap.size + 1, 3, none⟩ = some (.slice B3 v.list.length e3) := (H6.out.b1).cell 3 rfl
      have v14 : W7.cell? ⟨w.heap.size + 1, 4, none⟩ = some (.slice B4 v.names.length e4) := (H6.out.b1).cell 4 rfl
      have v1z := (H6.out.b1).frozen
      have v30 : W7.cell? ⟨w.heap.size + 3, 0, none⟩ = some (.int .i64 5) := (H6.out.b3).cell 0 rfl
      have v31 : W7.cell? ⟨w.heap.size + 3, 1, none⟩ = some (.int .i64 0) := (H6.out.b3).cell 1 rfl
      have v32 : W7.cell? ⟨w.heap.size + 3, 2, none⟩ = some (.string ⟨#[]⟩) := (H6.out.b3).cell 2 rfl
      have v33 : W7.cell? ⟨w.heap.size + 3, 3, none⟩ = some (.slice AA3 LC3.length cc3) := (H6.out.b3).cell 3 rfl
      have v34 : W7.cell? ⟨w.heap.size + 3, 4, none⟩ = some (.slice AA6 N6.length cc6) := (H6.out.b3).cell 4 rfl
      have v3z := (H6.out.b3).frozen
      have xn : W7.cell? (ad4.add k) = some (.string j.names[k]) := cell_below H6.out.bl XN.out
      have x0 : W7.cell? (ad3.add (k * 5)) = some (.int .i64 j.list[k].kind) := cell_below H6.out.bl XE.out.1
      have x1 : W7.cell? ⟨(ad3.add (k * 5)).block, (ad3.add (k * 5)).off + 1, none⟩ = some (.int .i64 j.list[k].n) := cell_below H6.out.bl XE.out.2.1
      have x2 : W7.cell? ⟨(ad3.add (k * 5)).block, (ad3.add (k * 5)).off + 2, none⟩ = some (.string j.list[k].s) := cell_below H6.out.bl XE.out.2.2.1
      have x3 : W7.cell? ⟨(ad3.add (k * 5)).block, (ad3.add (k * 5)).off + 3, none⟩ = some (.slice D3 j.list[k].list.length d3) := cell_below H6.out.bl XE.out.2.2.2.1
      have x4 : W7.cell? ⟨(ad3.add (k * 5)).block, (ad3.add (k * 5)).off + 4, none⟩ = some (.slice D4 j.list[k].names.length d4) := cell_below H6.out.bl XE.out.2.2.2.2
      obtain ⟨rv03, rv04, rv10, rv11, rv12, rv13, rv14⟩ := reg7 v03 v04 v10 v11 v12 v13 v14
      obtain ⟨rv30, rv31, rv32, rv33, rv34, rxn, rx0⟩ := reg7 v30 v31 v32 v33 v34 xn x0
      have rx1 := cell_regrown x1
      have rx2 := cell_regrown x2
      have rx3 := cell_regrown x3
      have rx4 := cell_regrown x4
      refine region_mixT (.p 0 (.q 1 (.p 2 (.q 3 (.p 4 (.q 5 (.q 6 (.b 7 .fin)))))))) [8, 9, 10] (by kernel_rfl) (by kernel_rfl) (fun _ _ _ _ _ h => h) ?_
      refine genT ?_; intro W8 hW
      have hS := Hd.mk (show Below W7.heap.size W7 W8 by rw [hW]; exact below_drew (Below.refl _ _)); clear hW
      replace H6 := Hd.mk (H6.out.below hS.out)
      iterate 7 ((first | refine mixT_q rfl ?_ | refine mixT_p rfl ?_); go_big_quiet_want; go_big_quiet_op; go_big_quiet_on; refine wpQuiet_nil ?_)
      refine mixT_b rfl ?_ (by rfl)
      go_wp2_with fail
      refine ⟨cls_below (below_alloc hS.out _), ?_⟩
      refine mixT_fin ?_
      clear hS rv03 rv04 rv10 rv11 rv12 rv13 rv14 rv30 rv31 rv32 rv33 rv34 rxn rx0 rx1 rx2 rx3 rx4
      clear v03 v04 v0z v10 v11 v12 v13 v14 v1z v30 v31 v32 v33 v34 v3z xn x0 x1 x2 x3 x4
      refine tail_b rfl ?_ (by rfl)
      go_wp2_with (at_builtin; refine append_r1 rfl rfl [Value.int IntKind.i64 j.list[k].kind, .int .i64 j.list[k].n, .string j.list[k].s, .slice D3 j.list[k].list.length d3, .slice D4 j.list[k].names.length d4] ⟨rfl, one5 _ _ _ _ _ _ _ _ _⟩ rfl _ _ rfl rfl rfl H6.out.rL (by have h1_ := hLN.out; have h2_ := hLL.out; have lE2 := congrArg List.length E2.out; rw [List.length_append, List.length_singleton] at lE2; have lE3 := congrArg List.length E3.out; rw [List.length_append, List.length_singleton] at lE3; have lE6 := congrArg List.length E6.out; rw [List.length_append, List.length_singleton] at lE6; omega) (fun v3 w9 hv3 hf3 => ?_); obtain ⟨m0, m1, m2, m3, _, _⟩ := H6.out.frL hf3; have H9 := H6.out.elem hv3 hf3; obtain ⟨LC9, hl_⟩ : ∃ z, z = LC3 ++ [[Value.int IntKind.i64 j.list[k].kind, .int .i64 j.list[k].n, .string j.list[k].s, .slice D3 j.list[k].list.length d3, .slice D4 j.list[k].names.length d4]] := ⟨_, rfl⟩; rw [← hl_] at H9 hv3; have E9 := Hd.mk hl_; clear hl_; obtain ⟨AA9, cc9, he_, _, _⟩ := R_C hv3; subst he_; have H9 := Hd.mk H9; have g9b0_3 : w9.cell? ⟨w.heap.size, 3, none⟩ = some (.slice (some ad3) j.list.length c3) := (m0).cell 3 rfl; have g9b0_4 : w9.cell? ⟨w.heap.size, 4, none⟩ = some (.slice (some ad4) j.names.length c4) := (m0).cell 4 rfl; have g9b0_z := (m0).frozen; have g9b1_0 : w9.cell? ⟨w.heap.size + 1, 0, none⟩ = some (.int .i64 v.kind) := (m1).cell 0 rfl; have g9b1_1 : w9.cell? ⟨w.heap.size + 1, 1, none⟩ = some (.int .i64 v.n) := (m1).cell 1 rfl; have g9b1_2 : w9.cell? ⟨w.heap.size + 1, 2, none⟩ = some (.string v.s) := (m1).cell 2 rfl; have g9b1_3 : w9.cell? ⟨w.heap.size + 1, 3, none⟩ = some (.slice B3 v.list.length e3) := (m1).cell 3 rfl; have g9b1_4 : w9.cell? ⟨w.heap.size + 1, 4, none⟩ = some (.slice B4 v.names.length e4) := (m1).cell 4 rfl; have g9b1_z := (m1).frozen; have g9b3_0 : w9.cell? ⟨w.heap.size + 3, 0, none⟩ = some (.int .i64 5) := (m3).cell 0 rfl; have g9b3_1 : w9.cell? ⟨w.heap.size + 3, 1, none⟩ = some (.int .i64 0) := (m3).cell 1 rfl; have g9b3_2 : w9.cell? ⟨w.heap.size + 3, 2, none⟩ = some (.string ⟨#[]⟩) := (m3).cell 2 rfl; have g9b3_3 : w9.cell? ⟨w.heap.size + 3, 3, none⟩ = some (.slice AA3 LC3.length cc3) := (m3).cell 3 rfl; have g9b3_4 : w9.cell? ⟨w.heap.size + 3, 4, none⟩ = some (.slice AA6 N6.length cc6) := (m3).cell 4 rfl; have g9b3_z := (m3).frozen; clear hv3 hf3 m0 m1 m2 m3)
      refine mixQ_n ?_
      refine tail_b rfl ?_ (by rfl)
      go_wp2_with fail
      refine mixQ_n ?_
      refine tail_b rfl ?_ (by rfl)
      go_wp2_with fail
      refine mixQ_n ?_
      refine tail_nil ?_
      clear g9b0_3 g9b0_4 g9b0_z g9b1_0 g9b1_1 g9b1_2 g9b1_3 g9b1_4 g9b1_z g9b3_0 g9b3_1 g9b3_2 g9b3_3 g9b3_4 g9b3_z
      obtain ⟨W10, hW⟩ : ∃ W, W = (w9.setCell ⟨w.heap.size + 3, 3, none⟩ (Value.slice AA9 LC9.length cc9)) := ⟨_, rfl⟩
      rw [← hW]
      have H9_ := H9.out
      rw [← hW] at H9_
      replace H9 := Hd.mk H9_; clear H9_ hW
      go_wp2_with fail
      go_roundw
      case rel => exact ⟨k + 1, true, _, _, _, _, _, _, _, by omega, rfl, by go_num, ⟨by rw [HPS2.out]; rw [E6.out, E2.out]⟩, ⟨by rw [E9.out, E3.out, HLC.out]; simp [HCK.out, HCn.out]⟩, H9⟩
      case measure => simp [intOf]; omega
     ·have HPS2 := Hd.mk (show putS j.names s n (k + 1) = (true, (N ++ [s]), src ++ [n]) by
       show putOn s (j.names.getD k ⟨#[]⟩) k (putIn s n (j.names.getD k ⟨#[]⟩) (putS j.names s n k)) = _
       rw [HPS.out, HGD.out]; simp [putIn, putOn, hb, hge])
      have UA := trivial; have UB := trivial
      have v03 : wr.cell? ⟨w.heap.size, 3, none⟩ = some (.slice (some ad3) j.list.length c3) := (H.out.b0).cell 3 rfl
      have v04 : wr.cell? ⟨w.heap.size, 4, none⟩ = some (.slice (some ad4) j.names.length c4) := (H.out.b0).cell 4 rfl
      have v0z := (H.out.b0).frozen
      have v10 : wr.cell? ⟨w.heap.size + 1, 0, none⟩ = some (.int .i64 v.kind) := (H.out.b1).cell 0 rfl
      have v11 : wr.cell? ⟨w.heap.size + 1, 1, none⟩ = some (.int .i64 v.n) := (H.out.b1).cell 1 rfl
      have v12 : wr.cell? ⟨w.heap.size + 1, 2, none⟩ = some (.string v.s) := (H.out.b1).cell 2 rfl
      have v13 : wr.cell? ⟨w.heap.size + 1, 3, none⟩ = some (.slice B3 v.list.length e3) := (H.out.b1).cell 3 rfl
      have v14 : wr.cell? ⟨w.heap.size + 1, 4, none⟩ = some (.slice B4 v.names.length e4) := (H.out.b1).cell 4 rfl
      have v1z := (H.out.b1).frozen
      have v30 : wr.cell? ⟨w.heap.size + 3, 0, none⟩ = some (.int .i64 5) := (H.out.b3).cell 0 rfl
      have v31 : wr.cell? ⟨w.heap.size + 3, 1, none⟩ = some (.int .i64 0) := (H.out.b3).cell 1 rfl
      have v32 : wr.cell? ⟨w.heap.size + 3, 2, none⟩ = some (.string ⟨#[]⟩) := (H.out.b3).cell 2 rfl
      have v33 : wr.cell? ⟨w.heap.size + 3, 3, none⟩ = some (.slice AL LC.length cL) := (H.out.b3).cell 3 rfl
      have v34 : wr.cell? ⟨w.heap.size + 3, 4, none⟩ = some (.slice AN N.length cN) := (H.out.b3).cell 4 rfl
      have v3z := (H.out.b3).frozen
      have xn : wr.cell? (ad4.add k) = some (.string j.names[k]) := cell_below H.out.bl XN.out
      have x0 : wr.cell? (ad3.add (k * 5)) = some (.int .i64 j.list[k].kind) := cell_below H.out.bl XE.out.1
      have x1 : wr.cell? ⟨(ad3.add (k * 5)).block, (ad3.add (k * 5)).off + 1, none⟩ = some (.int .i64 j.list[k].n) := cell_below H.out.bl XE.out.2.1
      have x2 : wr.cell? ⟨(ad3.add (k * 5)).block, (ad3.add (k * 5)).off + 2, none⟩ = some (.string j.list[k].s) := cell_below H.out.bl XE.out.2.2.1
      have x3 : wr.cell? ⟨(ad3.add (k * 5)).block, (ad3.add (k * 5)).off + 3, none⟩ = some (.slice D3 j.list[k].list.length d3) := cell_below H.out.bl XE.out.2.2.2.1
      have x4 : wr.cell? ⟨(ad3.add (k * 5)).block, (ad3.add (k * 5)).off + 4, none⟩ = some (.slice D4 j.list[k].names.length d4) := cell_below H.out.bl XE.out.2.2.2.2
      go_wp2_with (first | (clear UA; at_builtin; refine append_s1 rfl rfl s (by omega) rfl _ _ rfl rfl rfl H.out.rN (by have h1_ := hLN.out; have h2_ := hLL.out; skip; omega) (fun v3 w2 hv3 hf3 => ?_); obtain ⟨m0, m1, m2, m3, _, _⟩ := H.out.frN hf3; have H2 := H.out.name hv3 hf3; obtain ⟨N2, hl_⟩ : ∃ z, z = N ++ [s] := ⟨_, rfl⟩; rw [← hl_] at H2 hv3; have E2 := Hd.mk hl_; clear hl_; obtain ⟨AA2, cc2, he_, _, _⟩ := R_C hv3; subst he_; have H2 := Hd.mk H2; have g2b0_3 : w2.cell? ⟨w.heap.size, 3, none⟩ = some (.slice (some ad3) j.list.length c3) := (m0).cell 3 rfl; have g2b0_4 : w2.cell? ⟨w.heap.size, 4, none⟩ = some (.slice (some ad4) j.names.length c4) := (m0).cell 4 rfl; have g2b0_z := (m0).frozen; have g2b1_0 : w2.cell? ⟨w.heap.size + 1, 0, none⟩ = some (.int .i64 v.kind) := (m1).cell 0 rfl; have g2b1_1 : w2.cell? ⟨w.heap.size + 1, 1, none⟩ = some (.int .i64 v.n) := (m1).cell 1 rfl; have g2b1_2 : w2.cell? ⟨w.heap.size + 1, 2, none⟩ = some (.string v.s) := (m1).cell 2 rfl; have g2b1_3 : w2.cell? ⟨w.heap.size + 1, 3, none⟩ = some (.slice B3 v.list.length e3) := (m1).cell 3 rfl; have g2b1_4 : w2.cell? ⟨w.heap.size + 1, 4, none⟩ = some (.slice B4 v.names.length e4) := (m1).cell 4 rfl; have g2b1_z := (m1).frozen; have g2b3_0 : w2.cell? ⟨w.heap.size + 3, 0, none⟩ = some (.int .i64 5) := (m3).cell 0 rfl; have g2b3_1 : w2.cell? ⟨w.heap.size + 3, 1, none⟩ = some (.int .i64 0) := (m3).cell 1 rfl; have g2b3_2 : w2.cell? ⟨w.heap.size + 3, 2, none⟩ = some (.string ⟨#[]⟩) := (m3).cell 2 rfl; have g2b3_3 : w2.cell? ⟨w.heap.size + 3, 3, none⟩ = some (.slice AL LC.length cL) := (m3).cell 3 rfl; have g2b3_4 : w2.cell? ⟨w.heap.size + 3, 4, none⟩ = some (.slice AN N.length cN) := (m3).cell 4 rfl; have g2b3_z := (m3).frozen; clear hv3 hf3 m0 m1 m2 m3) | (clear UB; at_builtin; refine append_r1 rfl (by simp) [Value.int IntKind.i64 v.kind, .int .i64 v.n, .string v.s, .slice B3 v.list.length e3, .slice B4 v.names.length e4] ⟨rfl, one5 _ _ _ _ _ _ _ _ _⟩ rfl _ _ rfl rfl rfl H2.out.rL (by have h1_ := hLN.out; have h2_ := hLL.out; have lE2 := congrArg List.length E2.out; rw [List.length_append, List.length_singleton] at lE2; omega) (fun v3 w3 hv3 hf3 => ?_); obtain ⟨m0, m1, m2, m3, _, _⟩ := H2.out.frL hf3; have H3 := H2.out.elem hv3 hf3; obtain ⟨LC3, hl_⟩ : ∃ z, z = LC ++ [[Value.int IntKind.i64 v.kind, .int .i64 v.n, .string v.s, .slice B3 v.list.length e3, .slice B4 v.names.length e4]] := ⟨_, rfl⟩; rw [← hl_] at H3 hv3; have E3 := Hd.mk hl_; clear hl_; obtain ⟨AA3, cc3, he_, _, _⟩ := R_C hv3; subst he_; have H3 := Hd.mk H3; have g3b0_3 : w3.cell? ⟨w.heap.size, 3, none⟩ = some (.slice (some ad3) j.list.length c3) := (m0).cell 3 rfl; have g3b0_4 : w3.cell? ⟨w.heap.size, 4, none⟩ = some (.slice (some ad4) j.names.length c4) := (m0).cell 4 rfl; have g3b0_z := (m0).frozen; have g3b1_0 : w3.cell? ⟨w.heap.size + 1, 0, none⟩ = some (.int .i64 v.kind) := (m1).cell 0 rfl; have g3b1_1 : w3.cell? ⟨w.heap.size + 1, 1, none⟩ = some (.int .i64 v.n) := (m1).cell 1 rfl; have g3b1_2 : w3.cell? ⟨w.heap.size + 1, 2, none⟩ = some (.string v.s) := (m1).cell 2 rfl; have g3b1_3 : w3.cell? ⟨w.heap.size + 1, 3, none⟩ = some (.slice B3 v.list.length e3) := (m1).cell 3 rfl; have g3b1_4 : w3.cell? ⟨w.heap.size + 1, 4, none⟩ = some (.slice B4 v.names.length e4) := (m1).cell 4 rfl; have g3b1_z := (m1).frozen; have g3b3_0 : w3.cell? ⟨w.heap.size + 3, 0, none⟩ = some (.int .i64 5) := (m3).cell 0 rfl; have g3b3_1 : w3.cell? ⟨w.heap.size + 3, 1, none⟩ = some (.int .i64 0) := (m3).cell 1 rfl; have g3b3_2 : w3.cell? ⟨w.heap.size + 3, 2, none⟩ = some (.string ⟨#[]⟩) := (m3).cell 2 rfl; have g3b3_3 : w3.cell? ⟨w.heap.size + 3, 3, none⟩ = some (.slice AL LC.length cL) := (m3).cell 3 rfl; have g3b3_4 : w3.cell? ⟨w.heap.size + 3, 4, none⟩ = some (.slice AA2 N2.length cc2) := (m3).cell 4 rfl; have g3b3_z := (m3).frozen; clear hv3 hf3 m0 m1 m2 m3; have g3x : (w3.setCell ⟨w.heap.size + 1 + 1 + 1, 3, none⟩ (Value.slice AA3 LC3.length cc3)).cell? (ad4.add k) = some (.string j.names[k]) := cell_below H3.out.bl XN.out))
      clear v03 v04 v0z v10 v11 v12 v13 v14 v1z v30 v31 v32 v33 v34 v3z g2b0_3 g2b0_4 g2b0_z g2b1_0 g2b1_1 g2b1_2 g2b1_3 g2b1_4 g2b1_z g2b3_0 g2b3_1 g2b3_2 g2b3_3 g2b3_4 g2b3_z g3b0_3 g3b0_4 g3b0_z g3b1_0 g3b1_1 g3b1_2 g3b1_3 g3b1_4 g3b1_z g3b3_0 g3b3_1 g3b3_2 g3b3_3 g3b3_4 g3b3_z g3x xn x0 x1 x2 x3 x4
      go_roundw
      case rel => exact ⟨k + 1, true, _, _, _, _, _, _, _, by omega, rfl, by go_num, ⟨by rw [HPS2.out]; rw [E2.out]⟩, ⟨by rw [E3.out, HLC.out]; simp [HCK.out, HCn.out]⟩, H3⟩
      case measure => simp [intOf]; omega
    ·rw [hge] at hgq
     cases hb : (j.names[k].toList == s.toList)
     ·have HPS2 := Hd.mk (show putS j.names s n (k + 1) = (false, N ++ [j.names[k]], src ++ [k]) by
       show putOn s (j.names.getD k ⟨#[]⟩) k (putIn s n (j.names.getD k ⟨#[]⟩) (putS j.names s n k)) = _
       rw [HPS.out, HGD.out]; simp [putIn, putOn, hb, hge])
      have v03 : wr.cell? ⟨w.heap.size, 3, none⟩ = some (.slice (some ad3) j.list.length c3) := (H.out.b0).cell 3 rfl
      have v04 : wr.cell? ⟨w.heap.size, 4, none⟩ = some (.slice (some ad4) j.names.length c4) := (H.out.b0).cell 4 rfl
      have v0z := (H.out.b0).frozen
      have v10 : wr.cell? ⟨w.heap.size + 1, 0, none⟩ = some (.int .i64 v.kind) := (H.out.b1).cell 0 rfl
      have v11 : wr.cell? ⟨w.heap.size + 1, 1, none⟩ = some (.int .i64 v.n) := (H.out.b1).cell 1 rfl
      have v12 : wr.cell? ⟨w.heap.size + 1, 2, none⟩ = some (.string v.s) := (H.out.b1).cell 2 rfl
      have v13 : wr.cell? ⟨w.heap.size + 1, 3, none⟩ = some (.slice B3 v.list.length e3) := (H.out.b1).cell 3 rfl
      have v14 : wr.cell? ⟨w.heap.size + 1, 4, none⟩ = some (.slice B4 v.names.length e4) := (H.out.b1).cell 4 rfl
      have v1z := (H.out.b1).frozen
      have v30 : wr.cell? ⟨w.heap.size + 3, 0, none⟩ = some (.int .i64 5) := (H.out.b3).cell 0 rfl
      have v31 : wr.cell? ⟨w.heap.size + 3, 1, none⟩ = some (.int .i64 0) := (H.out.b3).cell 1 rfl
      have v32 : wr.cell? ⟨w.heap.size + 3, 2, none⟩ = some (.string ⟨#[]⟩) := (H.out.b3).cell 2 rfl
      have v33 : wr.cell? ⟨w.heap.size + 3, 3, none⟩ = some (.slice AL LC.length cL) := (H.out.b3).cell 3 rfl
      have v34 : wr.cell? ⟨w.heap.size + 3, 4, none⟩ = some (.slice AN N.length cN) := (H.out.b3).cell 4 rfl
      have v3z := (H.out.b3).frozen
      have xn : wr.cell? (ad4.add k) = some (.string j.names[k]) := cell_below H.out.bl XN.out
      have x0 : wr.cell? (ad3.add (k * 5)) = some (.int .i64 j.list[k].kind) := cell_below H.out.bl XE.out.1
      have x1 : wr.cell? ⟨(ad3.add (k * 5)).block, (ad3.add (k * 5)).off + 1, none⟩ = some (.int .i64 j.list[k].n) := cell_below H.out.bl XE.out.2.1
      have x2 : wr.cell? ⟨(ad3.add (k * 5)).block, (ad3.add (k * 5)).off + 2, none⟩ = some (.string j.list[k].s) := cell_below H.out.bl XE.out.2.2.1
      have x3 : wr.cell? ⟨(ad3.add (k * 5)).block, (ad3.add (k * 5)).off + 3, none⟩ = some (.slice D3 j.list[k].list.length d3) := cell_below H.out.bl XE.out.2.2.2.1
      have x4 : wr.cell? ⟨(ad3.add (k * 5)).block, (ad3.add (k * 5)).off + 4, none⟩ = some (.slice D4 j.list[k].names.length d4) := cell_below H.out.bl XE.out.2.2.2.2
      go_wp2_with fail
      clear v03 v04 v0z v10 v11 v12 v13 v14 v1z v30 v31 v32 v33 v34 v3z xn x0 x1 x2 x3 x4
      have v03 : wr.cell? ⟨w.heap.size, 3, none⟩ = some (.slice (some ad3) j.list.length c3) := (H.out.b0).cell 3 rfl
      have v04 : wr.cell? ⟨w.heap.size, 4, none⟩ = some (.slice (some ad4) j.names.length c4) := (H.out.b0).cell 4 rfl
      have v0z := (H.out.b0).frozen
      have v10 : wr.cell? ⟨w.heap.size + 1, 0, none⟩ = some (.int .i64 v.kind) := (H.out.b1).cell 0 rfl
      have v11 : wr.cell? ⟨w.heap.size + 1, 1, none⟩ = some (.int .i64 v.n) := (H.out.b1).cell 1 rfl
      have v12 : wr.cell? ⟨w.heap.size + 1, 2, none⟩ = some (.string v.s) := (H.out.b1).cell 2 rfl
      have v13 : wr.cell? ⟨w.heap.size + 1, 3, none⟩ = some (.slice B3 v.list.length e3) := (H.out.b1).cell 3 rfl
      have v14 : wr.cell? ⟨w.heap.size + 1, 4, none⟩ = some (.slice B4 v.names.length e4) := (H.out.b1).cell 4 rfl
      have v1z := (H.out.b1).frozen
      have v30 : wr.cell? ⟨w.heap.size + 3, 0, none⟩ = some (.int .i64 5) := (H.out.b3).cell 0 rfl
      have v31 : wr.cell? ⟨w.heap.size + 3, 1, none⟩ = some (.int .i64 0) := (H.out.b3).cell 1 rfl
      have v32 : wr.cell? ⟨w.heap.size + 3, 2, none⟩ = some (.string ⟨#[]⟩) := (H.out.b3).cell 2 rfl
      have v33 : wr.cell? ⟨w.heap.size + 3, 3, none⟩ = some (.slice AL LC.length cL) := (H.out.b3).cell 3 rfl
      have v34 : wr.cell? ⟨w.heap.size + 3, 4, none⟩ = some (.slice AN N.length cN) := (H.out.b3).cell 4 rfl
      have v3z := (H.out.b3).frozen
      have xn : wr.cell? (ad4.add k) = some (.string j.names[k]) := cell_below H.out.bl XN.out
      have x0 : wr.cell? (ad3.add (k * 5)) = some (.int .i64 j.list[k].kind) := cell_below H.out.bl XE.out.1
      have x1 : wr.cell? ⟨(ad3.add (k * 5)).block, (ad3.add (k * 5)).off + 1, none⟩ = some (.int .i64 j.list[k].n) := cell_below H.out.bl XE.out.2.1
      have x2 : wr.cell? ⟨(ad3.add (k * 5)).block, (ad3.add (k * 5)).off + 2, none⟩ = some (.string j.list[k].s) := cell_below H.out.bl XE.out.2.2.1
      have x3 : wr.cell? ⟨(ad3.add (k * 5)).block, (ad3.add (k * 5)).off + 3, none⟩ = some (.slice D3 j.list[k].list.length d3) := cell_below H.out.bl XE.out.2.2.2.1
      have x4 : wr.cell? ⟨(ad3.add (k * 5)).block, (ad3.add (k * 5)).off + 4, none⟩ = some (.slice D4 j.list[k].names.length d4) := cell_below H.out.bl XE.out.2.2.2.2
      obtain ⟨rv03, rv04, rv10, rv11, rv12, rv13, rv14⟩ := reg7 v03 v04 v10 v11 v12 v13 v14
      obtain ⟨rv30, rv31, rv32, rv33, rv34, rxn, rx0⟩ := reg7 v30 v31 v32 v33 v34 xn x0
      have rx1 := cell_regrown x1
      have rx2 := cell_regrown x2
      have rx3 := cell_regrown x3
      have rx4 := cell_regrown x4
      refine region_mixT (.p 0 (.q 1 (.p 2 (.q 3 (.p 4 (.q 5 (.q 6 (.b 7 .fin)))))))) [8, 9, 10] (by kernel_rfl) (by kernel_rfl) (fun _ _ _ _ _ h => h) ?_
      refine genT ?_; intro W2 hW
      have hS := Hd.mk (show Below wr.heap.size wr W2 by rw [hW]; exact below_drew (Below.refl _ _)); clear hW
      replace H := Hd.mk (H.out.below hS.out)
      iterate 7 ((first | refine mixT_q rfl ?_ | refine mixT_p rfl ?_); go_big_quiet_want; go_big_quiet_op; go_big_quiet_on; refine wpQuiet_nil ?_)
      refine mixT_b rfl ?_ (by rfl)
      go_wp2_with fail
      refine ⟨cls_below (below_alloc hS.out _), ?_⟩
      refine mixT_fin ?_
      clear hS rv03 rv04 rv10 rv11 rv12 rv13 rv14 rv30 rv31 rv32 rv33 rv34 rxn rx0 rx1 rx2 rx3 rx4
      clear v03 v04 v0z v10 v11 v12 v13 v14 v1z v30 v31 v32 v33 v34 v3z xn x0 x1 x2 x3 x4
      refine tail_b rfl ?_ (by rfl)
      go_wp2_with (at_builtin; refine append_s1 rfl rfl j.names[k] (by omega) rfl _ _ rfl rfl rfl H.out.rN (by have h1_ := hLN.out; have h2_ := hLL.out; skip; omega) (fun v3 w3 hv3 hf3 => ?_); obtain ⟨m0, m1, m2, m3, _, _⟩ := H.out.frN hf3; have H3 := H.out.name hv3 hf3; obtain ⟨N3, hl_⟩ : ∃ z, z = N ++ [j.names[k]] := ⟨_, rfl⟩; rw [← hl_] at H3 hv3; have E3 := Hd.mk hl_; clear hl_; obtain ⟨AA3, cc3, he_, _, _⟩ := R_C hv3; subst he_; have H3 := Hd.mk H3; have g3b0_3 : w3.cell? ⟨w.heap.size, 3, none⟩ = some (.slice (some ad3) j.list.length c3) := (m0).cell 3 rfl; have g3b0_4 : w3.cell? ⟨w.heap.size, 4, none⟩ = some (.slice (some ad4) j.names.length c4) := (m0).cell 4 rfl; have g3b0_z := (m0).frozen; have g3b1_0 : w3.cell? ⟨w.heap.size + 1, 0, none⟩ = some (.int .i64 v.kind) := (m1).cell 0 rfl; have g3b1_1 : w3.cell? ⟨w.heap.size + 1, 1, none⟩ = some (.int .i64 v.n) := (m1).cell 1 rfl; have g3b1_2 : w3.cell? ⟨w.heap.size + 1, 2, none⟩ = some (.string v.s) := (m1).cell 2 rfl; have g3b1_3 : w3.cell? ⟨w.heap.size + 1, 3, none⟩ = some (.slice B3 v.list.length e3) := (m1).cell 3 rfl; have g3b1_4 : w3.cell? ⟨w.heap.size + 1, 4, none⟩ = some (.slice B4 v.names.length e4) := (m1).cell 4 rfl; have g3b1_z := (m1).frozen; have g3b3_0 : w3.cell? ⟨w.heap.size + 3, 0, none⟩ = some (.int .i64 5) := (m3).cell 0 rfl; have g3b3_1 : w3.cell? ⟨w.heap.size + 3, 1, none⟩ = some (.int .i64 0) := (m3).cell 1 rfl; have g3b3_2 : w3.cell? ⟨w.heap.size + 3, 2, none⟩ = some (.string ⟨#[]⟩) := (m3).cell 2 rfl; have g3b3_3 : w3.cell? ⟨w.heap.size + 3, 3, none⟩ = some (.slice AL LC.length cL) := (m3).cell 3 rfl; have g3b3_4 : w3.cell? ⟨w.heap.size + 3, 4, none⟩ = some (.slice AN N.length cN) := (m3).cell 4 rfl; have g3b3_z := (m3).frozen; clear hv3 hf3 m0 m1 m2 m3)
      refine mixQ_n ?_
      refine tail_b rfl ?_ (by rfl)
      go_wp2_with fail
      refine mixQ_n ?_
      refine tail_b rfl ?_ (by rfl)
      go_wp2_with fail
      refine mixQ_n ?_
      refine tail_nil ?_
      clear g3b0_3 g3b0_4 g3b0_z g3b1_0 g3b1_1 g3b1_2 g3b1_3 g3b1_4 g3b1_z g3b3_0 g3b3_1 g3b3_2 g3b3_3 g3b3_4 g3b3_z
      obtain ⟨W4, hW⟩ : ∃ W, W = (w3.setCell ⟨w.heap.size + 3, 4, none⟩ (Value.slice AA3 N3.length cc3)) := ⟨_, rfl⟩
      rw [← hW]
      have H3_ := H3.out
      rw [← hW] at H3_
      replace H3 := Hd.mk H3_; clear H3_ hW
      go_wp2_with fail
      have v03 : W4.cell? ⟨w.heap.size, 3, none⟩ = some (.slice (some ad3) j.list.length c3) := (H3.out.b0).cell 3 rfl
      have v04 : W4.cell? ⟨w.heap.size, 4, none⟩ = some (.slice (some ad4) j.names.length c4) := (H3.out.b0).cell 4 rfl
      have v0z := (H3.out.b0).frozen
      have v10 : W4.cell? ⟨w.heap.size + 1, 0, none⟩ = some (.int .i64 v.kind) := (H3.out.b1).cell 0 rfl
      have v11 : W4.cell? ⟨w.heap.size + 1, 1, none⟩ = some (.int .i64 v.n) := (H3.out.b1).cell 1 rfl
      have v12 : W4.cell? ⟨w.heap.size + 1, 2, none⟩ = some (.string v.s) := (H3.out.b1).cell 2 rfl
      have v13 : W4.cell? ⟨w.heap.size + 1, 3, none⟩ = some (.slice B3 v.list.length e3) := (H3.out.b1).cell 3 rfl
      have v14 : W4.cell? ⟨w.heap.size + 1, 4, none⟩ = some (.slice B4 v.names.length e4) := (H3.out.b1).cell 4 rfl
      have v1z := (H3.out.b1).frozen
      have v30 : W4.cell? ⟨w.heap.size + 3, 0, none⟩ = some (.int .i64 5) := (H3.out.b3).cell 0 rfl
      have v31 : W4.cell? ⟨w.heap.size + 3, 1, none⟩ = some (.int .i64 0) := (H3.out.b3).cell 1 rfl
      have v32 : W4.cell? ⟨w.heap.size + 3, 2, none⟩ = some (.string ⟨#[]⟩) := (H3.out.b3).cell 2 rfl
      have v33 : W4.cell? ⟨w.heap.size + 3, 3, none⟩ = some (.slice AL LC.length cL) := (H3.out.b3).cell 3 rfl
      have v34 : W4.cell? ⟨w.heap.size + 3, 4, none⟩ = some (.slice AA3 N3.length cc3) := (H3.out.b3).cell 4 rfl
      have v3z := (H3.out.b3).frozen
      have xn : W4.cell? (ad4.add k) = some (.string j.names[k]) := cell_below H3.out.bl XN.out
      have x0 : W4.cell? (ad3.add (k * 5)) = some (.int .i64 j.list[k].kind) := cell_below H3.out.bl XE.out.1
      have x1 : W4.cell? ⟨(ad3.add (k * 5)).block, (ad3.add (k * 5)).off + 1, none⟩ = some (.int .i64 j.list[k].n) := cell_below H3.out.bl XE.out.2.1
      have x2 : W4.cell? ⟨(ad3.add (k * 5)).block, (ad3.add (k * 5)).off + 2, none⟩ = some (.string j.list[k].s) := cell_below H3.out.bl XE.out.2.2.1
      have x3 : W4.cell? ⟨(ad3.add (k * 5)).block, (ad3.add (k * 5)).off + 3, none⟩ = some (.slice D3 j.list[k].list.length d3) := cell_below H3.out.bl XE.out.2.2.2.1
      have x4 : W4.cell? ⟨(ad3.add (k * 5)).block, (ad3.add (k * 5)).off + 4, none⟩ = some (.slice D4 j.list[k].names.length d4) := cell_below H3.out.bl XE.out.2.2.2.2
      obtain ⟨rv03, rv04, rv10, rv11, rv12, rv13, rv14⟩ := reg7 v03 v04 v10 v11 v12 v13 v14
      obtain ⟨rv30, rv31, rv32, rv33, rv34, rxn, rx0⟩ := reg7 v30 v31 v32 v33 v34 xn x0
      have rx1 := cell_regrown x1
      have rx2 := cell_regrown x2
      have rx3 := cell_regrown x3
      have rx4 := cell_regrown x4
      refine region_mixT (.p 0 (.q 1 (.p 2 (.q 3 (.p 4 (.q 5 (.q 6 (.b 7 .fin)))))))) [8, 9, 10] (by kernel_rfl) (by kernel_rfl) (fun _ _ _ _ _ h => h) ?_
      refine genT ?_; intro W5 hW
      have hS := Hd.mk (show Below W4.heap.size W4 W5 by rw [hW]; exact below_drew (Below.refl _ _)); clear hW
      replace H3 := Hd.mk (H3.out.below hS.out)
      iterate 7 ((first | refine mixT_q rfl ?_ | refine mixT_p rfl ?_); go_big_quiet_want; go_big_quiet_op; go_big_quiet_on; refine wpQuiet_nil ?_)
      refine mixT_b rfl ?_ (by rfl)
      go_wp2_with fail
      refine ⟨cls_below (below_alloc hS.out _), ?_⟩
      refine mixT_fin ?_
      clear hS rv03 rv04 rv10 rv11 rv12 rv13 rv14 rv30 rv31 rv32 rv33 rv34 rxn rx0 rx1 rx2 rx3 rx4
      clear v03 v04 v0z v10 v11 v12 v13 v14 v1z v30 v31 v32 v33 v34 v3z xn x0 x1 x2 x3 x4
      refine tail_b rfl ?_ (by rfl)
      go_wp2_with (at_builtin; refine append_r1 rfl rfl [Value.int IntKind.i64 j.list[k].kind, .int .i64 j.list[k].n, .string j.list[k].s, .slice D3 j.list[k].list.length d3, .slice D4 j.list[k].names.length d4] ⟨rfl, one5 _ _ _ _ _ _ _ _ _⟩ rfl _ _ rfl rfl rfl H3.out.rL (by have h1_ := hLN.out; have h2_ := hLL.out; have lE3 := congrArg List.length E3.out; rw [List.length_append, List.length_singleton] at lE3; omega) (fun v3 w6 hv3 hf3 => ?_); obtain ⟨m0, m1, m2, m3, _, _⟩ := H3.out.frL hf3; have H6 := H3.out.elem hv3 hf3; obtain ⟨LC6, hl_⟩ : ∃ z, z = LC ++ [[Value.int IntKind.i64 j.list[k].kind, .int .i64 j.list[k].n, .string j.list[k].s, .slice D3 j.list[k].list.length d3, .slice D4 j.list[k].names.length d4]] := ⟨_, rfl⟩; rw [← hl_] at H6 hv3; have E6 := Hd.mk hl_; clear hl_; obtain ⟨AA6, cc6, he_, _, _⟩ := R_C hv3; subst he_; have H6 := Hd.mk H6; have g6b0_3 : w6.cell? ⟨w.heap.size, 3, none⟩ = some (.slice (some ad3) j.list.length c3) := (m0).cell 3 rfl; have g6b0_4 : w6.cell? ⟨w.heap.size, 4, none⟩ = some (.slice (some ad4) j.names.length c4) := (m0).cell 4 rfl; have g6b0_z := (m0).frozen; have g6b1_0 : w6.cell? ⟨w.heap.size + 1, 0, none⟩ = some (.int .i64 v.kind) := (m1).cell 0 rfl; have g6b1_1 : w6.cell? ⟨w.heap.size + 1, 1, none⟩ = some (.int .i64 v.n) := (m1).cell 1 rfl; have g6b1_2 : w6.cell? ⟨w.heap.size + 1, 2, none⟩ = some (.string v.s) := (m1).cell 2 rfl; have g6b1_3 : w6.cell? ⟨w.heap.size + 1, 3, none⟩ = some (.slice B3 v.list.length e3) := (m1).cell 3 rfl; have g6b1_4 : w6.cell? ⟨w.heap.size + 1, 4, none⟩ = some (.slice B4 v.names.length e4) := (m1).cell 4 rfl; have g6b1_z := (m1).frozen; have g6b3_0 : w6.cell? ⟨w.heap.size + 3, 0, none⟩ = some (.int .i64 5) := (m3).cell 0 rfl; have g6b3_1 : w6.cell? ⟨w.heap.size + 3, 1, none⟩ = some (.int .i64 0) := (m3).cell 1 rfl; have g6b3_2 : w6.cell? ⟨w.heap.size + 3, 2, none⟩ = some (.string ⟨#[]⟩) := (m3).cell 2 rfl; have g6b3_3 : w6.cell? ⟨w.heap.size + 3, 3, none⟩ = some (.slice AL LC.length cL) := (m3).cell 3 rfl; have g6b3_4 : w6.cell? ⟨w.heap.size + 3, 4, none⟩ = some (.slice AA3 N3.length cc3) := (m3).cell 4 rfl; have g6b3_z := (m3).frozen; clear hv3 hf3 m0 m1 m2 m3)
      refine mixQ_n ?_
      refine tail_b rfl ?_ (by rfl)
      go_wp2_with fail
      refine mixQ_n ?_
      refine tail_b rfl ?_ (by rfl)
      go_wp2_with fail
      refine mixQ_n ?_
      refine tail_nil ?_
      clear g6b0_3 g6b0_4 g6b0_z g6b1_0 g6b1_1 g6b1_2 g6b1_3 g6b1_4 g6b1_z g6b3_0 g6b3_1 g6b3_2 g6b3_3 g6b3_4 g6b3_z
      obtain ⟨W7, hW⟩ : ∃ W, W = (w6.setCell ⟨w.heap.size + 3, 3, none⟩ (Value.slice AA6 LC6.length cc6)) := ⟨_, rfl⟩
      rw [← hW]
      have H6_ := H6.out
      rw [← hW] at H6_
      replace H6 := Hd.mk H6_; clear H6_ hW
      go_wp2_with fail
      go_roundw
      case rel => exact ⟨k + 1, false, _, _, _, _, _, _, _, by omega, rfl, by go_num, ⟨by rw [HPS2.out]; rw [E3.out]⟩, ⟨by rw [E6.out, HLC.out]; simp [HCK.out, HCn.out]⟩, H6⟩
      case measure => simp [intOf]; omega
     ·have HPS2 := Hd.mk (show putS j.names s n (k + 1) = (false, N, src) by
       show putOn s (j.names.getD k ⟨#[]⟩) k (putIn s n (j.names.getD k ⟨#[]⟩) (putS j.names s n k)) = _
       rw [HPS.out, HGD.out]; simp [putIn, putOn, hb, hge])
      have v03 : wr.cell? ⟨w.heap.size, 3, none⟩ = some (.slice (some ad3) j.list.length c3) := (H.out.b0).cell 3 rfl
      have v04 : wr.cell? ⟨w.heap.size, 4, none⟩ = some (.slice (some ad4) j.names.length c4) := (H.out.b0).cell 4 rfl
      have v0z := (H.out.b0).frozen
      have v10 : wr.cell? ⟨w.heap.size + 1, 0, none⟩ = some (.int .i64 v.kind) := (H.out.b1).cell 0 rfl
      have v11 : wr.cell? ⟨w.heap.size + 1, 1, none⟩ = some (.int .i64 v.n) := (H.out.b1).cell 1 rfl
      have v12 : wr.cell? ⟨w.heap.size + 1, 2, none⟩ = some (.string v.s) := (H.out.b1).cell 2 rfl
      have v13 : wr.cell? ⟨w.heap.size + 1, 3, none⟩ = some (.slice B3 v.list.length e3) := (H.out.b1).cell 3 rfl
      have v14 : wr.cell? ⟨w.heap.size + 1, 4, none⟩ = some (.slice B4 v.names.length e4) := (H.out.b1).cell 4 rfl
      have v1z := (H.out.b1).frozen
      have v30 : wr.cell? ⟨w.heap.size + 3, 0, none⟩ = some (.int .i64 5) := (H.out.b3).cell 0 rfl
      have v31 : wr.cell? ⟨w.heap.size + 3, 1, none⟩ = some (.int .i64 0) := (H.out.b3).cell 1 rfl
      have v32 : wr.cell? ⟨w.heap.size + 3, 2, none⟩ = some (.string ⟨#[]⟩) := (H.out.b3).cell 2 rfl
      have v33 : wr.cell? ⟨w.heap.size + 3, 3, none⟩ = some (.slice AL LC.length cL) := (H.out.b3).cell 3 rfl
      have v34 : wr.cell? ⟨w.heap.size + 3, 4, none⟩ = some (.slice AN N.length cN) := (H.out.b3).cell 4 rfl
      have v3z := (H.out.b3).frozen
      have xn : wr.cell? (ad4.add k) = some (.string j.names[k]) := cell_below H.out.bl XN.out
      have x0 : wr.cell? (ad3.add (k * 5)) = some (.int .i64 j.list[k].kind) := cell_below H.out.bl XE.out.1
      have x1 : wr.cell? ⟨(ad3.add (k * 5)).block, (ad3.add (k * 5)).off + 1, none⟩ = some (.int .i64 j.list[k].n) := cell_below H.out.bl XE.out.2.1
      have x2 : wr.cell? ⟨(ad3.add (k * 5)).block, (ad3.add (k * 5)).off + 2, none⟩ = some (.string j.list[k].s) := cell_below H.out.bl XE.out.2.2.1
      have x3 : wr.cell? ⟨(ad3.add (k * 5)).block, (ad3.add (k * 5)).off + 3, none⟩ = some (.slice D3 j.list[k].list.length d3) := cell_below H.out.bl XE.out.2.2.2.1
      have x4 : wr.cell? ⟨(ad3.add (k * 5)).block, (ad3.add (k * 5)).off + 4, none⟩ = some (.slice D4 j.list[k].names.length d4) := cell_below H.out.bl XE.out.2.2.2.2
      go_wp2_with fail
      clear v03 v04 v0z v10 v11 v12 v13 v14 v1z v30 v31 v32 v33 v34 v3z xn x0 x1 x2 x3 x4
      go_roundw
      case rel => exact ⟨k + 1, false, _, _, _, _, _, _, _, by omega, rfl, by go_num, ⟨by rw [HPS2.out]⟩, ⟨by exact HLC.out⟩, H⟩
      case measure => simp [intOf]; omega
   ·cases hb : (j.names[k].toList == s.toList)
    ·have HPS2 := Hd.mk (show putS j.names s n (k + 1) = (true, N ++ [j.names[k]], src ++ [k]) by
      show putOn s (j.names.getD k ⟨#[]⟩) k (putIn s n (j.names.getD k ⟨#[]⟩) (putS j.names s n k)) = _
      rw [HPS.out, HGD.out]; simp [putIn, putOn, hb])
     have v03 : wr.cell? ⟨w.heap.size, 3, none⟩ = some (.slice (some ad3) j.list.length c3) := (H.out.b0).cell 3 rfl
     have v04 : wr.cell? ⟨w.heap.size, 4, none⟩ = some (.slice (some ad4) j.names.length c4) := (H.out.b0).cell 4 rfl
     have v0z := (H.out.b0).frozen
     have v10 : wr.cell? ⟨w.heap.size + 1, 0, none⟩ = some (.int .i64 v.kind) := (H.out.b1).cell 0 rfl
     have v11 : wr.cell? ⟨w.heap.size + 1, 1, none⟩ = some (.int .i64 v.n) := (H.out.b1).cell 1 rfl
     have v12 : wr.cell? ⟨w.heap.size + 1, 2, none⟩ = some (.string v.s) := (H.out.b1).cell 2 rfl
     have v13 : wr.cell? ⟨w.heap.size + 1, 3, none⟩ = some (.slice B3 v.list.length e3) := (H.out.b1).cell 3 rfl
     have v14 : wr.cell? ⟨w.heap.size + 1, 4, none⟩ = some (.slice B4 v.names.length e4) := (H.out.b1).cell 4 rfl
     have v1z := (H.out.b1).frozen
     have v30 : wr.cell? ⟨w.heap.size + 3, 0, none⟩ = some (.int .i64 5) := (H.out.b3).cell 0 rfl
     have v31 : wr.cell? ⟨w.heap.size + 3, 1, none⟩ = some (.int .i64 0) := (H.out.b3).cell 1 rfl
     have v32 : wr.cell? ⟨w.heap.size + 3, 2, none⟩ = some (.string ⟨#[]⟩) := (H.out.b3).cell 2 rfl
     have v33 : wr.cell? ⟨w.heap.size + 3, 3, none⟩ = some (.slice AL LC.length cL) := (H.out.b3).cell 3 rfl
     have v34 : wr.cell? ⟨w.heap.size + 3, 4, none⟩ = some (.slice AN N.length cN) := (H.out.b3).cell 4 rfl
     have v3z := (H.out.b3).frozen
     have xn : wr.cell? (ad4.add k) = some (.string j.names[k]) := cell_below H.out.bl XN.out
     have x0 : wr.cell? (ad3.add (k * 5)) = some (.int .i64 j.list[k].kind) := cell_below H.out.bl XE.out.1
     have x1 : wr.cell? ⟨(ad3.add (k * 5)).block, (ad3.add (k * 5)).off + 1, none⟩ = some (.int .i64 j.list[k].n) := cell_below H.out.bl XE.out.2.1
     have x2 : wr.cell? ⟨(ad3.add (k * 5)).block, (ad3.add (k * 5)).off + 2, none⟩ = some (.string j.list[k].s) := cell_below H.out.bl XE.out.2.2.1
     have x3 : wr.cell? ⟨(ad3.add (k * 5)).block, (ad3.add (k * 5)).off + 3, none⟩ = some (.slice D3 j.list[k].list.length d3) := cell_below H.out.bl XE.out.2.2.2.1
     have x4 : wr.cell? ⟨(ad3.add (k * 5)).block, (ad3.add (k * 5)).off + 4, none⟩ = some (.slice D4 j.list[k].names.length d4) := cell_below H.out.bl XE.out.2.2.2.2
     go_wp2_with fail
     clear v03 v04 v0z v10 v11 v12 v13 v14 v1z v30 v31 v32 v33 v34 v3z xn x0 x1 x2 x3 x4
     have v03 : wr.cell? ⟨w.heap.size, 3, none⟩ = some (.slice (some ad3) j.list.length c3) := (H.out.b0).cell 3 rfl
     have v04 : wr.cell? ⟨w.heap.size, 4, none⟩ = some (.slice (some ad4) j.names.length c4) := (H.out.b0).cell 4 rfl
     have v0z := (H.out.b0).frozen
     have v10 : wr.cell? ⟨w.heap.size + 1, 0, none⟩ = some (.int .i64 v.kind) := (H.out.b1).cell 0 rfl
     have v11 : wr.cell? ⟨w.heap.size + 1, 1, none⟩ = some (.int .i64 v.n) := (H.out.b1).cell 1 rfl
     have v12 : wr.cell? ⟨w.heap.size + 1, 2, none⟩ = some (.string v.s) := (H.out.b1).cell 2 rfl
     have v13 : wr.cell? ⟨w.heap.size + 1, 3, none⟩ = some (.slice B3 v.list.length e3) := (H.out.b1).cell 3 rfl
     have v14 : wr.cell? ⟨w.heap.size + 1, 4, none⟩ = some (.slice B4 v.names.length e4) := (H.out.b1).cell 4 rfl
     have v1z := (H.out.b1).frozen
     have v30 : wr.cell? ⟨w.heap.size + 3, 0, none⟩ = some (.int .i64 5) := (H.out.b3).cell 0 rfl
     have v31 : wr.cell? ⟨w.heap.size + 3, 1, none⟩ = some (.int .i64 0) := (H.out.b3).cell 1 rfl
     have v32 : wr.cell? ⟨w.heap.size + 3, 2, none⟩ = some (.string ⟨#[]⟩) := (H.out.b3).cell 2 rfl
     have v33 : wr.cell? ⟨w.heap.size + 3, 3, none⟩ = some (.slice AL LC.length cL) := (H.out.b3).cell 3 rfl
     have v34 : wr.cell? ⟨w.heap.size + 3, 4, none⟩ = some (.slice AN N.length cN) := (H.out.b3).cell 4 rfl
     have v3z := (H.out.b3).frozen
     have xn : wr.cell? (ad4.add k) = some (.string j.names[k]) := cell_below H.out.bl XN.out
     have x0 : wr.cell? (ad3.add (k * 5)) = some (.int .i64 j.list[k].kind) := cell_below H.out.bl XE.out.1
     have x1 : wr.cell? ⟨(ad3.add (k * 5)).block, (ad3.add (k * 5)).off + 1, none⟩ = some (.int .i64 j.list[k].n) := cell_below H.out.bl XE.out.2.1
     have x2 : wr.cell? ⟨(ad3.add (k * 5)).block, (ad3.add (k * 5)).off + 2, none⟩ = some (.string j.list[k].s) := cell_below H.out.bl XE.out.2.2.1
     have x3 : wr.cell? ⟨(ad3.add (k * 5)).block, (ad3.add (k * 5)).off + 3, none⟩ = some (.slice D3 j.list[k].list.length d3) := cell_below H.out.bl XE.out.2.2.2.1
     have x4 : wr.cell? ⟨(ad3.add (k * 5)).block, (ad3.add (k * 5)).off + 4, none⟩ = some (.slice D4 j.list[k].names.length d4) := cell_below H.out.bl XE.out.2.2.2.2
     obtain ⟨rv03, rv04, rv10, rv11, rv12, rv13, rv14⟩ := reg7 v03 v04 v10 v11 v12 v13 v14
     obtain ⟨rv30, rv31, rv32, rv33, rv34, rxn, rx0⟩ := reg7 v30 v31 v32 v33 v34 xn x0
     have rx1 := cell_regrown x1
     have rx2 := cell_regrown x2
     have rx3 := cell_regrown x3
     have rx4 := cell_regrown x4
     refine region_mixT (.p 0 (.q 1 (.p 2 (.q 3 (.p 4 (.q 5 (.q 6 (.b 7 .fin)))))))) [8, 9, 10] (by kernel_rfl) (by kernel_rfl) (fun _ _ _ _ _ h => h) ?_
     refine genT ?_; intro W2 hW
     have hS := Hd.mk (show Below wr.heap.size wr W2 by rw [hW]; exact below_drew (Below.refl _ _)); clear hW
     replace H := Hd.mk (H.out.below hS.out)
     iterate 7 ((first | refine mixT_q rfl ?_ | refine mixT_p rfl ?_); go_big_quiet_want; go_big_quiet_op; go_big_quiet_on; refine wpQuiet_nil ?_)
     refine mixT_b rfl ?_ (by rfl)
     go_wp2_with fail
     refine ⟨cls_below (below_alloc hS.out _), ?_⟩
     refine mixT_fin ?_
     clear hS rv03 rv04 rv10 rv11 rv12 rv13 rv14 rv30 rv31 rv32 rv33 rv34 rxn rx0 rx1 rx2 rx3 rx4
     clear v03 v04 v0z v10 v11 v12 v13 v14 v1z v30 v31 v32 v33 v34 v3z xn x0 x1 x2 x3 x4
     refine tail_b rfl ?_ (by rfl)
     go_wp2_with (at_builtin; refine append_s1 rfl rfl j.names[k] (by omega) rfl _ _ rfl rfl rfl H.out.rN (by have h1_ := hLN.out; have h2_ := hLL.out; skip; omega) (fun v3 w3 hv3 hf3 => ?_); obtain ⟨m0, m1, m2, m3, _, _⟩ := H.out.frN hf3; have H3 := H.out.name hv3 hf3; obtain ⟨N3, hl_⟩ : ∃ z, z = N ++ [j.names[k]] := ⟨_, rfl⟩; rw [← hl_] at H3 hv3; have E3 := Hd.mk hl_; clear hl_; obtain ⟨AA3, cc3, he_, _, _⟩ := R_C hv3; subst he_; have H3 := Hd.mk H3; have g3b0_3 : w3.cell? ⟨w.heap.size, 3, none⟩ = some (.slice (some ad3) j.list.length c3) := (m0).cell 3 rfl; have g3b0_4 : w3.cell? ⟨w.heap.size, 4, none⟩ = some (.slice (some ad4) j.names.length c4) := (m0).cell 4 rfl; have g3b0_z := (m0).frozen; have g3b1_0 : w3.cell? ⟨w.heap.size + 1, 0, none⟩ = some (.int .i64 v.kind) := (m1).cell 0 rfl; have g3b1_1 : w3.cell? ⟨w.heap.size + 1, 1, none⟩ = some (.int .i64 v.n) := (m1).cell 1 rfl; have g3b1_2 : w3.cell? ⟨w.heap.size + 1, 2, none⟩ = some (.string v.s) := (m1).cell 2 rfl; have g3b1_3 : w3.cell? ⟨w.heap.size + 1, 3, none⟩ = some (.slice B3 v.list.length e3) := (m1).cell 3 rfl; have g3b1_4 : w3.cell? ⟨w.heap.size + 1, 4, none⟩ = some (.slice B4 v.names.length e4) := (m1).cell 4 rfl; have g3b1_z := (m1).frozen; have g3b3_0 : w3.cell? ⟨w.heap.size + 3, 0, none⟩ = some (.int .i64 5) := (m3).cell 0 rfl; have g3b3_1 : w3.cell? ⟨w.heap.size + 3, 1, none⟩ = some (.int .i64 0) := (m3).cell 1 rfl; have g3b3_2 : w3.cell? ⟨w.heap.size + 3, 2, none⟩ = some (.string ⟨#[]⟩) := (m3).cell 2 rfl; have g3b3_3 : w3.cell? ⟨w.heap.size + 3, 3, none⟩ = some (.slice AL LC.length cL) := (m3).cell 3 rfl; have g3b3_4 : w3.cell? ⟨w.heap.size + 3, 4, none⟩ = some (.slice AN N.length cN) := (m3).cell 4 rfl; have g3b3_z := (m3).frozen; clear hv3 hf3 m0 m1 m2 m3)
     refine mixQ_n ?_
     refine tail_b rfl ?_ (by rfl)
     go_wp2_with fail
     refine mixQ_n ?_
     refine tail_b rfl ?_ (by rfl)
     go_wp2_with fail
     refine mixQ_n ?_
     refine tail_nil ?_
     clear g3b0_3 g3b0_4 g3b0_z g3b1_0 g3b1_1 g3b1_2 g3b1_3 g3b1_4 g3b1_z g3b3_0 g3b3_1 g3b3_2 g3b3_3 g3b3_4 g3b3_z
     obtain ⟨W4, hW⟩ : ∃ W, W = (w3.setCell ⟨w.heap.size + 3, 4, none⟩ (Value.slice AA3 N3.length cc3)) := ⟨_, rfl⟩
     rw [← hW]
     have H3_ := H3.out
     rw [← hW] at H3_
     replace H3 := Hd.mk H3_; clear H3_ hW
     go_wp2_with fail
     have v03 : W4.cell? ⟨w.heap.size, 3, none⟩ = some (.slice (some ad3) j.list.length c3) := (H3.out.b0).cell 3 rfl
     have v04 : W4.cell? ⟨w.heap.size, 4, none⟩ = some (.slice (some ad4) j.names.length c4) := (H3.out.b0).cell 4 rfl
     have v0z := (H3.out.b0).frozen
     have v10 : W4.cell? ⟨w.heap.size + 1, 0, none⟩ = some (.int .i64 v.kind) := (H3.out.b1).cell 0 rfl
     have v11 : W4.cell? ⟨w.heap.size + 1, 1, none⟩ = some (.int .i64 v.n) := (H3.out.b1).cell 1 rfl
     have v12 : W4.cell? ⟨w.heap.size + 1, 2, none⟩ = some (.string v.s) := (H3.out.b1).cell 2 rfl
     have v13 : W4.cell? ⟨w.heap.size + 1, 3, none⟩ = some (.slice B3 v.list.length e3) := (H3.out.b1).cell 3 rfl
     have v14 : W4.cell? ⟨w.heap.size + 1, 4, none⟩ = some (.slice B4 v.names.length e4) := (H3.out.b1).cell 4 rfl
     have v1z := (H3.out.b1).frozen
     have v30 : W4.cell? ⟨w.heap.size + 3, 0, none⟩ = some (.int .i64 5) := (H3.out.b3).cell 0 rfl
     have v31 : W4.cell? ⟨w.heap.size + 3, 1, none⟩ = some (.int .i64 0) := (H3.out.b3).cell 1 rfl
     have v32 : W4.cell? ⟨w.heap.size + 3, 2, none⟩ = some (.string ⟨#[]⟩) := (H3.out.b3).cell 2 rfl
     have v33 : W4.cell? ⟨w.heap.size + 3, 3, none⟩ = some (.slice AL LC.length cL) := (H3.out.b3).cell 3 rfl
     have v34 : W4.cell? ⟨w.heap.size + 3, 4, none⟩ = some (.slice AA3 N3.length cc3) := (H3.out.b3).cell 4 rfl
     have v3z := (H3.out.b3).frozen
     have xn : W4.cell? (ad4.add k) = some (.string j.names[k]) := cell_below H3.out.bl XN.out
     have x0 : W4.cell? (ad3.add (k * 5)) = some (.int .i64 j.list[k].kind) := cell_below H3.out.bl XE.out.1
     have x1 : W4.cell? ⟨(ad3.add (k * 5)).block, (ad3.add (k * 5)).off + 1, none⟩ = some (.int .i64 j.list[k].n) := cell_below H3.out.bl XE.out.2.1
     have x2 : W4.cell? ⟨(ad3.add (k * 5)).block, (ad3.add (k * 5)).off + 2, none⟩ = some (.string j.list[k].s) := cell_below H3.out.bl XE.out.2.2.1
     have x3 : W4.cell? ⟨(ad3.add (k * 5)).block, (ad3.add (k * 5)).off + 3, none⟩ = some (.slice D3 j.list[k].list.length d3) := cell_below H3.out.bl XE.out.2.2.2.1
     have x4 : W4.cell? ⟨(ad3.add (k * 5)).block, (ad3.add (k * 5)).off + 4, none⟩ = some (.slice D4 j.list[k].names.length d4) := cell_below H3.out.bl XE.out.2.2.2.2
     obtain ⟨rv03, rv04, rv10, rv11, rv12, rv13, rv14⟩ := reg7 v03 v04 v10 v11 v12 v13 v14
     obtain ⟨rv30, rv31, rv32, rv33, rv34, rxn, rx0⟩ := reg7 v30 v31 v32 v33 v34 xn x0
     have rx1 := cell_regrown x1
     have rx2 := cell_regrown x2
     have rx3 := cell_regrown x3
     have rx4 := cell_regrown x4
     refine region_mixT (.p 0 (.q 1 (.p 2 (.q 3 (.p 4 (.q 5 (.q 6 (.b 7 .fin)))))))) [8, 9, 10] (by kernel_rfl) (by kernel_rfl) (fun _ _ _ _ _ h => h) ?_
     refine genT ?_; intro W5 hW
     have hS := Hd.mk (show Below W4.heap.size W4 W5 by rw [hW]; exact below_drew (Below.refl _ _)); clear hW
     replace H3 := Hd.mk (H3.out.below hS.out)
     iterate 7 ((first | refine mixT_q rfl ?_ | refine mixT_p rfl ?_); go_big_quiet_want; go_big_quiet_op; go_big_quiet_on; refine wpQuiet_nil ?_)
     refine mixT_b rfl ?_ (by rfl)
     go_wp2_with fail
     refine ⟨cls_below (below_alloc hS.out _), ?_⟩
     refine mixT_fin ?_
     clear hS rv03 rv04 rv10 rv11 rv12 rv13 rv14 rv30 rv31 rv32 rv33 rv34 rxn rx0 rx1 rx2 rx3 rx4
     clear v03 v04 v0z v10 v11 v12 v13 v14 v1z v30 v31 v32 v33 v34 v3z xn x0 x1 x2 x3 x4
     refine tail_b rfl ?_ (by rfl)
     go_wp2_with (at_builtin; refine append_r1 rfl rfl [Value.int IntKind.i64 j.list[k].kind, .int .i64 j.list[k].n, .string j.list[k].s, .slice D3 j.list[k].list.length d3, .slice D4 j.list[k].names.length d4] ⟨rfl, one5 _ _ _ _ _ _ _ _ _⟩ rfl _ _ rfl rfl rfl H3.out.rL (by have h1_ := hLN.out; have h2_ := hLL.out; have lE3 := congrArg List.length E3.out; rw [List.length_append, List.length_singleton] at lE3; omega) (fun v3 w6 hv3 hf3 => ?_); obtain ⟨m0, m1, m2, m3, _, _⟩ := H3.out.frL hf3; have H6 := H3.out.elem hv3 hf3; obtain ⟨LC6, hl_⟩ : ∃ z, z = LC ++ [[Value.int IntKind.i64 j.list[k].kind, .int .i64 j.list[k].n, .string j.list[k].s, .slice D3 j.list[k].list.length d3, .slice D4 j.list[k].names.length d4]] := ⟨_, rfl⟩; rw [← hl_] at H6 hv3; have E6 := Hd.mk hl_; clear hl_; obtain ⟨AA6, cc6, he_, _, _⟩ := R_C hv3; subst he_; have H6 := Hd.mk H6; have g6b0_3 : w6.cell? ⟨w.heap.size, 3, none⟩ = some (.slice (some ad3) j.list.length c3) := (m0).cell 3 rfl; have g6b0_4 : w6.cell? ⟨w.heap.size, 4, none⟩ = some (.slice (some ad4) j.names.length c4) := (m0).cell 4 rfl; have g6b0_z := (m0).frozen; have g6b1_0 : w6.cell? ⟨w.heap.size + 1, 0, none⟩ = some (.int .i64 v.kind) := (m1).cell 0 rfl; have g6b1_1 : w6.cell? ⟨w.heap.size + 1, 1, none⟩ = some (.int .i64 v.n) := (m1).cell 1 rfl; have g6b1_2 : w6.cell? ⟨w.heap.size + 1, 2, none⟩ = some (.string v.s) := (m1).cell 2 rfl; have g6b1_3 : w6.cell? ⟨w.heap.size + 1, 3, none⟩ = some (.slice B3 v.list.length e3) := (m1).cell 3 rfl; have g6b1_4 : w6.cell? ⟨w.heap.size + 1, 4, none⟩ = some (.slice B4 v.names.length e4) := (m1).cell 4 rfl; have g6b1_z := (m1).frozen; have g6b3_0 : w6.cell? ⟨w.heap.size + 3, 0, none⟩ = some (.int .i64 5) := (m3).cell 0 rfl; have g6b3_1 : w6.cell? ⟨w.heap.size + 3, 1, none⟩ = some (.int .i64 0) := (m3).cell 1 rfl; have g6b3_2 : w6.cell? ⟨w.heap.size + 3, 2, none⟩ = some (.string ⟨#[]⟩) := (m3).cell 2 rfl; have g6b3_3 : w6.cell? ⟨w.heap.size + 3, 3, none⟩ = some (.slice AL LC.length cL) := (m3).cell 3 rfl; have g6b3_4 : w6.cell? ⟨w.heap.size + 3, 4, none⟩ = some (.slice AA3 N3.length cc3) := (m3).cell 4 rfl; have g6b3_z := (m3).frozen; clear hv3 hf3 m0 m1 m2 m3)
     refine mixQ_n ?_
     refine tail_b rfl ?_ (by rfl)
     go_wp2_with fail
     refine mixQ_n ?_
     refine tail_b rfl ?_ (by rfl)
     go_wp2_with fail
     refine mixQ_n ?_
     refine tail_nil ?_
     clear g6b0_3 g6b0_4 g6b0_z g6b1_0 g6b1_1 g6b1_2 g6b1_3 g6b1_4 g6b1_z g6b3_0 g6b3_1 g6b3_2 g6b3_3 g6b3_4 g6b3_z
     obtain ⟨W7, hW⟩ : ∃ W, W = (w6.setCell ⟨w.heap.size + 3, 3, none⟩ (Value.slice AA6 LC6.length cc6)) := ⟨_, rfl⟩
     rw [← hW]
     have H6_ := H6.out
     rw [← hW] at H6_
     replace H6 := Hd.mk H6_; clear H6_ hW
     go_wp2_with fail
     go_roundw
     case rel => exact ⟨k + 1, true, _, _, _, _, _, _, _, by omega, rfl, by go_num, ⟨by rw [HPS2.out]; rw [E3.out]⟩, ⟨by rw [E6.out, HLC.out]; simp [HCK.out, HCn.out]⟩, H6⟩
     case measure => simp [intOf]; omega
    ·have HPS2 := Hd.mk (show putS j.names s n (k + 1) = (true, N, src) by
      show putOn s (j.names.getD k ⟨#[]⟩) k (putIn s n (j.names.getD k ⟨#[]⟩) (putS j.names s n k)) = _
      rw [HPS.out, HGD.out]; simp [putIn, putOn, hb])
     have v03 : wr.cell? ⟨w.heap.size, 3, none⟩ = some (.slice (some ad3) j.list.length c3) := (H.out.b0).cell 3 rfl
     have v04 : wr.cell? ⟨w.heap.size, 4, none⟩ = some (.slice (some ad4) j.names.length c4) := (H.out.b0).cell 4 rfl
     have v0z := (H.out.b0).frozen
     have v10 : wr.cell? ⟨w.heap.size + 1, 0, none⟩ = some (.int .i64 v.kind) := (H.out.b1).cell 0 rfl
     have v11 : wr.cell? ⟨w.heap.size + 1, 1, none⟩ = some (.int .i64 v.n) := (H.out.b1).cell 1 rfl
     have v12 : wr.cell? ⟨w.heap.size + 1, 2, none⟩ = some (.string v.s) := (H.out.b1).cell 2 rfl
     have v13 : wr.cell? ⟨w.heap.size + 1, 3, none⟩ = some (.slice B3 v.list.length e3) := (H.out.b1).cell 3 rfl
     have v14 : wr.cell? ⟨w.heap.size + 1, 4, none⟩ = some (.slice B4 v.names.length e4) := (H.out.b1).cell 4 rfl
     have v1z := (H.out.b1).frozen
     have v30 : wr.cell? ⟨w.heap.size + 3, 0, none⟩ = some (.int .i64 5) := (H.out.b3).cell 0 rfl
     have v31 : wr.cell? ⟨w.heap.size + 3, 1, none⟩ = some (.int .i64 0) := (H.out.b3).cell 1 rfl
     have v32 : wr.cell? ⟨w.heap.size + 3, 2, none⟩ = some (.string ⟨#[]⟩) := (H.out.b3).cell 2 rfl
     have v33 : wr.cell? ⟨w.heap.size + 3, 3, none⟩ = some (.slice AL LC.length cL) := (H.out.b3).cell 3 rfl
     have v34 : wr.cell? ⟨w.heap.size + 3, 4, none⟩ = some (.slice AN N.length cN) := (H.out.b3).cell 4 rfl
     have v3z := (H.out.b3).frozen
     have xn : wr.cell? (ad4.add k) = some (.string j.names[k]) := cell_below H.out.bl XN.out
     have x0 : wr.cell? (ad3.add (k * 5)) = some (.int .i64 j.list[k].kind) := cell_below H.out.bl XE.out.1
     have x1 : wr.cell? ⟨(ad3.add (k * 5)).block, (ad3.add (k * 5)).off + 1, none⟩ = some (.int .i64 j.list[k].n) := cell_below H.out.bl XE.out.2.1
     have x2 : wr.cell? ⟨(ad3.add (k * 5)).block, (ad3.add (k * 5)).off + 2, none⟩ = some (.string j.list[k].s) := cell_below H.out.bl XE.out.2.2.1
     have x3 : wr.cell? ⟨(ad3.add (k * 5)).block, (ad3.add (k * 5)).off + 3, none⟩ = some (.slice D3 j.list[k].list.length d3) := cell_below H.out.bl XE.out.2.2.2.1
     have x4 : wr.cell? ⟨(ad3.add (k * 5)).block, (ad3.add (k * 5)).off + 4, none⟩ = some (.slice D4 j.list[k].names.length d4) := cell_below H.out.bl XE.out.2.2.2.2
     go_wp2_with fail
     clear v03 v04 v0z v10 v11 v12 v13 v14 v1z v30 v31 v32 v33 v34 v3z xn x0 x1 x2 x3 x4
     go_roundw
     case rel => exact ⟨k + 1, true, _, _, _, _, _, _, _, by omega, rfl, by go_num, ⟨by rw [HPS2.out]⟩, ⟨by exact HLC.out⟩, H⟩
     case measure => simp [intOf]; omega
  ·obtain rfl : k = j.names.length := by omega
   cases pt
   ·have HPE := Hd.mk (show putE j.names s n = (N ++ [s], src ++ [n]) by unfold putE; simp only [HPS.out]; simp)
    have UA := trivial; have UB := trivial
    have v03 : wr.cell? ⟨w.heap.size, 3, none⟩ = some (.slice A3 j.list.length c3) := (H.out.b0).cell 3 rfl
    have v04 : wr.cell? ⟨w.heap.size, 4, none⟩ = some (.slice A4 j.names.length c4) := (H.out.b0).cell 4 rfl
    have v0z := (H.out.b0).frozen
    have v10 : wr.cell? ⟨w.heap.size + 1, 0, none⟩ = some (.int .i64 v.kind) := (H.out.b1).cell 0 rfl
    have v11 : wr.cell? ⟨w.heap.size + 1, 1, none⟩ = some (.int .i64 v.n) := (H.out.b1).cell 1 rfl
    have v12 : wr.cell? ⟨w.heap.size + 1, 2, none⟩ = some (.string v.s) := (H.out.b1).cell 2 rfl
    have v13 : wr.cell? ⟨w.heap.size + 1, 3, none⟩ = some (.slice B3 v.list.length e3) := (H.out.b1).cell 3 rfl
    have v14 : wr.cell? ⟨w.heap.size + 1, 4, none⟩ = some (.slice B4 v.names.length e4) := (H.out.b1).cell 4 rfl
    have v1z := (H.out.b1).frozen
    have v30 : wr.cell? ⟨w.heap.size + 3, 0, none⟩ = some (.int .i64 5) := (H.out.b3).cell 0 rfl
    have v31 : wr.cell? ⟨w.heap.size + 3, 1, none⟩ = some (.int .i64 0) := (H.out.b3).cell 1 rfl
    have v32 : wr.cell? ⟨w.heap.size + 3, 2, none⟩ = some (.string ⟨#[]⟩) := (H.out.b3).cell 2 rfl
    have v33 : wr.cell? ⟨w.heap.size + 3, 3, none⟩ = some (.slice AL LC.length cL) := (H.out.b3).cell 3 rfl
    have v34 : wr.cell? ⟨w.heap.size + 3, 4, none⟩ = some (.slice AN N.length cN) := (H.out.b3).cell 4 rfl
    have v3z := (H.out.b3).frozen
    have v20 : wr.cell? ⟨w.heap.size + 2, 0, none⟩ = some (.int .i64 0) := (H.out.b2).cell 0 rfl
    have v21 : wr.cell? ⟨w.heap.size + 2, 1, none⟩ = some (.int .i64 0) := (H.out.b2).cell 1 rfl
    have v22 : wr.cell? ⟨w.heap.size + 2, 2, none⟩ = some (.string ⟨#[]⟩) := (H.out.b2).cell 2 rfl
    have v23 : wr.cell? ⟨w.heap.size + 2, 3, none⟩ = some (.slice none 0 0) := (H.out.b2).cell 3 rfl
    have v24 : wr.cell? ⟨w.heap.size + 2, 4, none⟩ = some (.slice none 0 0) := (H.out.b2).cell 4 rfl
    have v2z := (H.out.b2).frozen
    go_wp2_with (first | (clear UA; at_builtin; refine append_s1 rfl rfl s (by omega) rfl _ _ rfl rfl rfl H.out.rN (by have h1_ := hLN.out; have h2_ := hLL.out; skip; omega) (fun v3 w2 hv3 hf3 => ?_); obtain ⟨m0, m1, m2, m3, _, _⟩ := H.out.frN hf3; have H2 := H.out.name hv3 hf3; obtain ⟨N2, hl_⟩ : ∃ z, z = N ++ [s] := ⟨_, rfl⟩; rw [← hl_] at H2 hv3; have E2 := Hd.mk hl_; clear hl_; obtain ⟨AA2, cc2, he_, _, _⟩ := R_C hv3; subst he_; have H2 := Hd.mk H2; have g2b0_3 : w2.cell? ⟨w.heap.size, 3, none⟩ = some (.slice A3 j.list.length c3) := (m0).cell 3 rfl; have g2b0_4 : w2.cell? ⟨w.heap.size, 4, none⟩ = some (.slice A4 j.names.length c4) := (m0).cell 4 rfl; have g2b0_z := (m0).frozen; have g2b1_0 : w2.cell? ⟨w.heap.size + 1, 0, none⟩ = some (.int .i64 v.kind) := (m1).cell 0 rfl; have g2b1_1 : w2.cell? ⟨w.heap.size + 1, 1, none⟩ = some (.int .i64 v.n) := (m1).cell 1 rfl; have g2b1_2 : w2.cell? ⟨w.heap.size + 1, 2, none⟩ = some (.string v.s) := (m1).cell 2 rfl; have g2b1_3 : w2.cell? ⟨w.heap.size + 1, 3, none⟩ = some (.slice B3 v.list.length e3) := (m1).cell 3 rfl; have g2b1_4 : w2.cell? ⟨w.heap.size + 1, 4, none⟩ = some (.slice B4 v.names.length e4) := (m1).cell 4 rfl; have g2b1_z := (m1).frozen; have g2b3_0 : w2.cell? ⟨w.heap.size + 3, 0, none⟩ = some (.int .i64 5) := (m3).cell 0 rfl; have g2b3_1 : w2.cell? ⟨w.heap.size + 3, 1, none⟩ = some (.int .i64 0) := (m3).cell 1 rfl; have g2b3_2 : w2.cell? ⟨w.heap.size + 3, 2, none⟩ = some (.string ⟨#[]⟩) := (m3).cell 2 rfl; have g2b3_3 : w2.cell? ⟨w.heap.size + 3, 3, none⟩ = some (.slice AL LC.length cL) := (m3).cell 3 rfl; have g2b3_4 : w2.cell? ⟨w.heap.size + 3, 4, none⟩ = some (.slice AN N.length cN) := (m3).cell 4 rfl; have g2b3_z := (m3).frozen; have g2b2_0 : w2.cell? ⟨w.heap.size + 2, 0, none⟩ = some (.int .i64 0) := (m2).cell 0 rfl; have g2b2_1 : w2.cell? ⟨w.heap.size + 2, 1, none⟩ = some (.int .i64 0) := (m2).cell 1 rfl; have g2b2_2 : w2.cell? ⟨w.heap.size + 2, 2, none⟩ = some (.string ⟨#[]⟩) := (m2).cell 2 rfl; have g2b2_3 : w2.cell? ⟨w.heap.size + 2, 3, none⟩ = some (.slice none 0 0) := (m2).cell 3 rfl; have g2b2_4 : w2.cell? ⟨w.heap.size + 2, 4, none⟩ = some (.slice none 0 0) := (m2).cell 4 rfl; have g2b2_z := (m2).frozen; clear hv3 hf3 m0 m1 m2 m3) | (clear UB; at_builtin; refine append_r1 rfl (by simp) [Value.int IntKind.i64 v.kind, .int .i64 v.n, .string v.s, .slice B3 v.list.length e3, .slice B4 v.names.length e4] ⟨rfl, one5 _ _ _ _ _ _ _ _ _⟩ rfl _ _ rfl rfl rfl H2.out.rL (by have h1_ := hLN.out; have h2_ := hLL.out; have lE2 := congrArg List.length E2.out; rw [List.length_append, List.length_singleton] at lE2; omega) (fun v3 w3 hv3 hf3 => ?_); obtain ⟨m0, m1, m2, m3, _, _⟩ := H2.out.frL hf3; have H3 := H2.out.elem hv3 hf3; obtain ⟨LC3, hl_⟩ : ∃ z, z = LC ++ [[Value.int IntKind.i64 v.kind, .int .i64 v.n, .string v.s, .slice B3 v.list.length e3, .slice B4 v.names.length e4]] := ⟨_, rfl⟩; rw [← hl_] at H3 hv3; have E3 := Hd.mk hl_; clear hl_; obtain ⟨AA3, cc3, he_, _, _⟩ := R_C hv3; subst he_; have H3 := Hd.mk H3; have g3b0_3 : w3.cell? ⟨w.heap.size, 3, none⟩ = some (.slice A3 j.list.length c3) := (m0).cell 3 rfl; have g3b0_4 : w3.cell? ⟨w.heap.size, 4, none⟩ = some (.slice A4 j.names.length c4) := (m0).cell 4 rfl; have g3b0_z := (m0).frozen; have g3b1_0 : w3.cell? ⟨w.heap.size + 1, 0, none⟩ = some (.int .i64 v.kind) := (m1).cell 0 rfl; have g3b1_1 : w3.cell? ⟨w.heap.size + 1, 1, none⟩ = some (.int .i64 v.n) := (m1).cell 1 rfl; have g3b1_2 : w3.cell? ⟨w.heap.size + 1, 2, none⟩ = some (.string v.s) := (m1).cell 2 rfl; have g3b1_3 : w3.cell? ⟨w.heap.size + 1, 3, none⟩ = some (.slice B3 v.list.length e3) := (m1).cell 3 rfl; have g3b1_4 : w3.cell? ⟨w.heap.size + 1, 4, none⟩ = some (.slice B4 v.names.length e4) := (m1).cell 4 rfl; have g3b1_z := (m1).frozen; have g3b3_0 : w3.cell? ⟨w.heap.size + 3, 0, none⟩ = some (.int .i64 5) := (m3).cell 0 rfl; have g3b3_1 : w3.cell? ⟨w.heap.size + 3, 1, none⟩ = some (.int .i64 0) := (m3).cell 1 rfl; have g3b3_2 : w3.cell? ⟨w.heap.size + 3, 2, none⟩ = some (.string ⟨#[]⟩) := (m3).cell 2 rfl; have g3b3_3 : w3.cell? ⟨w.heap.size + 3, 3, none⟩ = some (.slice AL LC.length cL) := (m3).cell 3 rfl; have g3b3_4 : w3.cell? ⟨w.heap.size + 3, 4, none⟩ = some (.slice AA2 N2.length cc2) := (m3).cell 4 rfl; have g3b3_z := (m3).frozen; have g3b2_0 : w3.cell? ⟨w.heap.size + 2, 0, none⟩ = some (.int .i64 0) := (m2).cell 0 rfl; have g3b2_1 : w3.cell? ⟨w.heap.size + 2, 1, none⟩ = some (.int .i64 0) := (m2).cell 1 rfl; have g3b2_2 : w3.cell? ⟨w.heap.size + 2, 2, none⟩ = some (.string ⟨#[]⟩) := (m2).cell 2 rfl; have g3b2_3 : w3.cell? ⟨w.heap.size + 2, 3, none⟩ = some (.slice none 0 0) := (m2).cell 3 rfl; have g3b2_4 : w3.cell? ⟨w.heap.size + 2, 4, none⟩ = some (.slice none 0 0) := (m2).cell 4 rfl; have g3b2_z := (m2).frozen; clear hv3 hf3 m0 m1 m2 m3))
    refine bodyPost_retW (v := .agg #[.int .i64 5, .int .i64 0, .string ⟨#[]⟩, .slice AA3 LC3.length cc3, .slice AA2 N2.length cc2]) (by simp [results, Tryd.results60, go_sem, v03, v04, v0z, v10, v11, v12, v13, v14, v1z, v30, v31, v32, v33, v34, v3z, v20, v21, v22, v23, v24, v2z, g2b0_3, g2b0_4, g2b0_z, g2b1_0, g2b1_1, g2b1_2, g2b1_3, g2b1_4, g2b1_z, g2b3_0, g2b3_1, g2b3_2, g2b3_3, g2b3_4, g2b3_z, g2b2_0, g2b2_1, g2b2_2, g2b2_3, g2b2_4, g2b2_z, g3b0_3, g3b0_4, g3b0_z, g3b1_0, g3b1_1, g3b1_2, g3b1_3, g3b1_4, g3b1_z, g3b3_0, g3b3_1, g3b3_2, g3b3_3, g3b3_4, g3b3_z, g3b2_0, g3b2_1, g3b2_2, g3b2_3, g3b2_4, g3b2_z]) rfl ?_
    intro W hW
    clear v03 v04 v0z v10 v11 v12 v13 v14 v1z v30 v31 v32 v33 v34 v3z v20 v21 v22 v23 v24 v2z g2b0_3 g2b0_4 g2b0_z g2b1_0 g2b1_1 g2b1_2 g2b1_3 g2b1_4 g2b1_z g2b3_0 g2b3_1 g2b3_2 g2b3_3 g2b3_4 g2b3_z g2b2_0 g2b2_1 g2b2_2 g2b2_3 g2b2_4 g2b2_z g3b0_3 g3b0_4 g3b0_z g3b1_0 g3b1_1 g3b1_2 g3b1_3 g3b1_4 g3b1_z g3b3_0 g3b3_1 g3b3_2 g3b3_3 g3b3_4 g3b3_z g3b2_0 g3b2_1 g3b2_2 g3b2_3 g3b2_4 g3b2_z
    have hF : Fr (w3.setCell ⟨w.heap.size + 3, 3, none⟩ (Value.slice AA3 LC3.length cc3)) W (fun k => k = w.heap.size + 2) := by rw [hW]; (iterate 5 (with_reducible refine Fr.setCell ?_ _ (fun _ => by simp) _)); exact Fr.refl _ _
    have hD := put_done (m := m) (v := v) (s := s) (src := src ++ [n]) (C := C') H3.out (by rw [E3.out, HLC.out]; simp [HCn.out]) (by rw [← Hn.out]; rw [E2.out]; exact HPE.out) HLEN.out HTS.out hF
    exact ⟨_, rfl, hD.1, hD.2⟩
   ·have HPE := Hd.mk (show putE j.names s n = (N, src) by unfold putE; simp only [HPS.out]; simp)
    have v03 : wr.cell? ⟨w.heap.size, 3, none⟩ = some (.slice A3 j.list.length c3) := (H.out.b0).cell 3 rfl
    have v04 : wr.cell? ⟨w.heap.size, 4, none⟩ = some (.slice A4 j.names.length c4) := (H.out.b0).cell 4 rfl
    have v0z := (H.out.b0).frozen
    have v10 : wr.cell? ⟨w.heap.size + 1, 0, none⟩ = some (.int .i64 v.kind) := (H.out.b1).cell 0 rfl
    have v11 : wr.cell? ⟨w.heap.size + 1, 1, none⟩ = some (.int .i64 v.n) := (H.out.b1).cell 1 rfl
    have v12 : wr.cell? ⟨w.heap.size + 1, 2, none⟩ = some (.string v.s) := (H.out.b1).cell 2 rfl
    have v13 : wr.cell? ⟨w.heap.size + 1, 3, none⟩ = some (.slice B3 v.list.length e3) := (H.out.b1).cell 3 rfl
    have v14 : wr.cell? ⟨w.heap.size + 1, 4, none⟩ = some (.slice B4 v.names.length e4) := (H.out.b1).cell 4 rfl
    have v1z := (H.out.b1).frozen
    have v30 : wr.cell? ⟨w.heap.size + 3, 0, none⟩ = some (.int .i64 5) := (H.out.b3).cell 0 rfl
    have v31 : wr.cell? ⟨w.heap.size + 3, 1, none⟩ = some (.int .i64 0) := (H.out.b3).cell 1 rfl
    have v32 : wr.cell? ⟨w.heap.size + 3, 2, none⟩ = some (.string ⟨#[]⟩) := (H.out.b3).cell 2 rfl
    have v33 : wr.cell? ⟨w.heap.size + 3, 3, none⟩ = some (.slice AL LC.length cL) := (H.out.b3).cell 3 rfl
    have v34 : wr.cell? ⟨w.heap.size + 3, 4, none⟩ = some (.slice AN N.length cN) := (H.out.b3).cell 4 rfl
    have v3z := (H.out.b3).frozen
    have v20 : wr.cell? ⟨w.heap.size + 2, 0, none⟩ = some (.int .i64 0) := (H.out.b2).cell 0 rfl
    have v21 : wr.cell? ⟨w.heap.size + 2, 1, none⟩ = some (.int .i64 0) := (H.out.b2).cell 1 rfl
    have v22 : wr.cell? ⟨w.heap.size + 2, 2, none⟩ = some (.string ⟨#[]⟩) := (H.out.b2).cell 2 rfl
    have v23 : wr.cell? ⟨w.heap.size + 2, 3, none⟩ = some (.slice none 0 0) := (H.out.b2).cell 3 rfl
    have v24 : wr.cell? ⟨w.heap.size + 2, 4, none⟩ = some (.slice none 0 0) := (H.out.b2).cell 4 rfl
    have v2z := (H.out.b2).frozen
    go_wp2_with fail
    refine bodyPost_retW (v := .agg #[.int .i64 5, .int .i64 0, .string ⟨#[]⟩, .slice AL LC.length cL, .slice AN N.length cN]) (by simp [results, Tryd.results60, go_sem, v03, v04, v0z, v10, v11, v12, v13, v14, v1z, v30, v31, v32, v33, v34, v3z, v20, v21, v22, v23, v24, v2z]) rfl ?_
    intro W hW
    clear v03 v04 v0z v10 v11 v12 v13 v14 v1z v30 v31 v32 v33 v34 v3z v20 v21 v22 v23 v24 v2z
    have hF : Fr wr W (fun k => k = w.heap.size + 2) := by rw [hW]; (iterate 5 (with_reducible refine Fr.setCell ?_ _ (fun _ => by simp) _)); exact Fr.refl _ _
    have hD := put_done (m := m) (v := v) (s := s) (src := src) (C := C') H.out (by exact HLC.out) (by rw [← Hn.out]; exact HPE.out) HLEN.out HTS.out hF
    exact ⟨_, rfl, hD.1, hD.2⟩
def DrG : Nat → J → Prop
 | 0, _ => False
 | d + 1, j => j.list.length ≤ 4 ∧ j.names.length ≤ 4 ∧ j.s.size ≤ 60 ∧ (∀ s ∈ j.names, s.size ≤ 60) ∧ (∀ x ∈ j.list, DrG d x) ∧ (j.kind = 5 → j.names.length = j.list.length)
def drB : Nat → Nat
 | 0 => 0
 | d + 1 => 310 + 4 * drB d
theorem bulkL_le4 {α : Type} (f : α → Nat) (B : Nat) : ∀ l : List α, (∀ x ∈ l, f x ≤ B) → bulkL f l ≤ l.length * B
 | [], _ => by simp [bulkL]
 | x :: l, h => by
  have h1 := bulkL_le4 f B l (fun y hy => h y (by simp [hy]))
  have h2 := h x (by simp)
  simp only [bulkL, List.length_cons, Nat.add_mul]
  omega
theorem DrG_bulk : ∀ (d m : Nat) (j : J), DrG d j → bulkJ m j ≤ drB d
 | 0, _, _, h => h.elim
 | d + 1, 0, j, h => Nat.zero_le _
 | d + 1, m + 1, j, h => by
  obtain ⟨h1, h2, h3, h4, h5, _⟩ := h
  have h6 := bulkL_le4 (bulkJ m) (drB d) j.list (fun x hx => DrG_bulk d m x (h5 x hx))
  have h7 := bulkL_le4 ByteArray.size 60 j.names h4
  have h8 : j.list.length * drB d ≤ 4 * drB d := Nat.mul_le_mul_right _ h1
  simp only [bulkJ, bulkStringS, drB]
  omega
theorem DrG_null (d : Nat) : DrG (d + 1) J.null := ⟨by simp [J.null], by simp [J.null], by simp [J.null], by simp [J.null], by simp [J.null], by simp [J.null]⟩
theorem putE_facts (l : List ByteArray) (s : ByteArray) (n : Nat) (hn : l.length ≤ n) : (putE l s n).1.length = (putE l s n).2.length ∧ (putE l s n).2.length ≤ l.length + 1 ∧ (∀ i ∈ (putE l s n).2, i < l.length ∨ i = n) ∧ ∀ x ∈ (putE l s n).1, x ∈ l ∨ x = s := by
 obtain ⟨h1, h2, h3, h4, h5, h6⟩ := putS_inv l s n l.length (Nat.le_refl _) hn
 unfold putE
 by_cases hc : (putS l s n l.length).1 = true
 ·simp only [if_pos hc]
  exact ⟨h1, h2, fun i hi => (h5 i hi).imp id (fun h => h.1), h6⟩
 ·simp only [if_neg hc]
  have h7 := h3 (by simpa using hc)
  refine ⟨by simp; omega, by simp; omega, fun i hi => ?_, fun x hx => ?_⟩
  ·rcases List.mem_append.1 hi with h | h
   ·exact (h5 i h).imp id (fun h => h.1)
   ·exact .inr (List.mem_singleton.1 h)
  ·rcases List.mem_append.1 hx with h | h
   ·exact h6 x h
   ·exact .inr (List.mem_singleton.1 h)
theorem DrG_put {d : Nat} {j v : J} {s : ByteArray} (hj : DrG (d + 1) j) (h5 : j.kind = 5) (hv : DrG d v) (hs : s.size ≤ 60) (hl : j.list.length ≤ 3) : DrG (d + 1) (putJ j v s) ∧ (putJ j v s).kind = 5 ∧ (putJ j v s).list.length ≤ j.list.length + 1 := by
 obtain ⟨g1, g2, g3, g4, g5, g6⟩ := hj
 have hn := g6 h5
 obtain ⟨e1, e2, e3, e4⟩ := putE_facts j.names s j.list.length (by omega)
 have hle : (putJ j v s).list.length ≤ j.list.length + 1 := by
  show ((putE j.names s j.list.length).2.map (putSrc j v)).length ≤ _
  rw [List.length_map]; omega
 refine ⟨⟨by omega, ?_, ?_, fun x hx => ?_, fun x hx => ?_, fun _ => ?_⟩, rfl, hle⟩
 ·show (putE j.names s j.list.length).1.length ≤ 4
  omega
 ·show (⟨#[]⟩ : ByteArray).size ≤ 60
  decide
 ·rcases e4 x hx with h | h
  ·exact g4 x h
  ·rw [h]; exact hs
 ·obtain ⟨i, hi, rfl⟩ := List.mem_map.1 hx
  unfold putSrc
  by_cases hc : i = j.list.length
  ·rw [if_pos hc]; exact hv
  ·rw [if_neg hc]
   have hi2 : i < j.list.length := by
    rcases e3 i hi with h | h
    ·omega
    ·exact absurd h hc
   rw [List.getD_eq_getElem?_getD, List.getElem?_eq_getElem hi2]
   exact g5 _ (List.getElem_mem _)
 ·show (putE j.names s j.list.length).1.length = ((putE j.names s j.list.length).2.map (putSrc j v)).length
  rw [List.length_map]; exact e1
def nameAt (l : List ByteArray) (s : ByteArray) : Int := idxF (fun x => s.toList == x.toList) l
def field (j : J) (s : ByteArray) : J := if jsonOk j && decide (0 ≤ nameAt j.names s) then j.list.getD (nameAt j.names s).toNat J.null else J.null
def hasField (j : J) (s : ByteArray) : Bool := jsonOk j && decide (0 ≤ nameAt j.names s)
theorem idxF_cases2 {α : Type} (p : α → Bool) (l : List α) : idxF p l = -1 ∨ (idxF p l = (l.findIdx p : Int) ∧ l.findIdx p < l.length) := by
 unfold idxF
 by_cases h : l.findIdx p < l.length
 ·exact .inr ⟨if_pos h, h⟩
 ·exact .inl (if_neg h)
set_option maxRecDepth 100000 in
theorem slices_Index_str (A : Option Addr) (c : Nat) (l : List ByteArray) (s : ByteArray) (w : World) (hr : str.C w A l) :
  Calls Tryd.prog 42 #[.slice A l.length c, .string s] w fun e w' => e = .returned (.int .i64 (nameAt l s)) ∧ Below w.heap.size w w' := by
 have hm := hr.1
 have HC := Hd.mk hr; clear hr
 go_enter Tryd.func42, Tryd.ntmps42
 go_wp2
 go_loop [8] (fun i => ∃ k : Nat, k ≤ l.length ∧ i = .int .i64 k ∧ Hd ((l.take k).all (fun x => !(s.toList == x.toList)) = true)) (fun i => l.length - (intOf i).toNat)
 case atStart => exact ⟨0, Nat.zero_le _, rfl, ⟨rfl⟩⟩
 case round =>
  obtain ⟨k, hk, rfl, HA⟩ := hrel
  by_cases hlt : k < l.length
  ·obtain ⟨ad, rfl, x0, hsz⟩ := C_str_at HC.out (Below.refl _ _) k hlt
   have HA2 := Hd.mk (all_take (fun x => !(s.toList == x.toList)) l k hlt HA.out)
   cases hb : (s.toList == l[k].toList)
   ·have Hb := Hd.mk hb
    go_wp2_with fail
    go_round
    case rel => exact ⟨k + 1, by omega, by go_num, ⟨by rw [HA2.out]; simp [Hb.out]⟩⟩
    case measure => simp [intOf]; omega
   ·have Hb := Hd.mk (idxF_found _ l k hlt HA.out hb)
    go_wp2_with fail
    go_ret
    exact ⟨by rw [show nameAt l s = k from Hb.out]; rfl, Below.refl _ _⟩
  ·obtain rfl : k = l.length := by omega
   go_wp2_with fail
   go_ret
   have := HA.out
   rw [List.take_length] at this
   exact ⟨by rw [show nameAt l s = -1 from idxF_none _ l this]; rfl, Below.refl _ _⟩
theorem nameAt_lt (l : List ByteArray) (s : ByteArray) (q : Nat) (h : nameAt l s = q) : q < l.length := by
 rcases idxF_cases2 (fun x : ByteArray => s.toList == x.toList) l with h1 | ⟨h1, h2⟩
 ·unfold nameAt at h; omega
 ·unfold nameAt at h; omega
theorem jsonOk_own (x : J) (h : jsonOk x = true) : ownB x = true := by
 unfold jsonOk at h
 have h := of_decide_eq_true h
 unfold sizeN at h
 cases hb : ownB x
 ·rw [hb] at h; simp at h
 ·rfl
set_option maxRecDepth 100000 in
theorem spec_l1At {m : Nat} (x : J) (cs : List Value) (s : ByteArray) (w : World) (hk : (tJ (m + 1)).K w x cs) :
  Calls Tryd.prog 44 #[.agg cs.toArray, .string s] w fun e w' => e = .returned (.int .i64 (nameAt x.names s)) ∧ Below w.heap.size w w' := by
 obtain ⟨A1, c1, A2, c2, rfl, hs, ⟨hc1, hr1⟩, hc2, hr2⟩ := tJ_K.1 hk
 have hm := hr2.1
 have HC := Hd.mk hr2; clear hr1 hr2 hk
 have hB := Hd.mk (Below.refl w.heap.size w)
 go_enter Tryd.func44, Tryd.ntmps44
 go_wp2_with fail
 go_loopw [5] (fun i wr => ∃ k : Nat, k ≤ x.names.length ∧ i = .int .i64 k ∧ Hd ((x.names.take k).all (fun y => !(s.toList == y.toList)) = true) ∧ Hd (Blk wr w.heap.size #[.int .i64 x.kind, .int .i64 x.n, .string x.s, .slice A1 x.list.length c1, .slice A2 x.names.length c2] 27) ∧ Hd (Below w.heap.size w wr)) (fun i _ => x.names.length - (intOf i).toNat)
 case atStart => exact ⟨0, Nat.zero_le _, rfl, ⟨rfl⟩, ⟨Blk.new _ _ _⟩, ⟨below_alloc (Below.refl _ _) _⟩⟩
 case round =>
  obtain ⟨k, hk, rfl, HA, b0, hB⟩ := hrel
  obtain ⟨f0, f1, f2, f3, f4, -⟩ := blk5 b0.out
  by_cases hlt : k < x.names.length
  ·obtain ⟨ad, rfl, x0, hsz⟩ := C_str_at HC.out hB.out k hlt
   have HA2 := Hd.mk (all_take (fun y => !(s.toList == y.toList)) x.names k hlt HA.out)
   cases hb : (x.names[k].toList == s.toList)
   ·have Hb := Hd.mk (show (s.toList == x.names[k].toList) = false by rw [BEq.comm]; exact hb)
    go_wp2_with fail
    go_roundw
    case rel => exact ⟨k + 1, by omega, by go_num, ⟨by rw [HA2.out]; simp [Hb.out]⟩, b0, hB⟩
    case measure => simp [intOf]; omega
   ·have Hb := Hd.mk (idxF_found (fun y => s.toList == y.toList) x.names k hlt HA.out (by rw [BEq.comm]; exact hb))
    go_wp2_with fail
    go_ret
    exact ⟨by rw [show nameAt x.names s = k from Hb.out]; rfl, hB.out⟩
  ·obtain rfl : k = x.names.length := by omega
   go_wp2_with fail
   go_ret
   have := HA.out
   rw [List.take_length] at this
   exact ⟨by rw [show nameAt x.names s = -1 from idxF_none _ _ this]; rfl, hB.out⟩
theorem ownB_names (x : J) (h : ownB x = true) : (x.kind = 5 ∧ x.names.length = x.list.length) ∨ x.names.length = 0 := by
 rcases Nat.eq_zero_or_pos x.names.length with h0 | hn
 ·exact .inr h0
 ·left
  unfold ownB at h
  split at h
  ·cases h
  ·split at h
   ·cases h
   ·rename_i h1 h2
    have hk : x.kind = 5 := by simpa [hn] using h2
    refine ⟨hk, ?_⟩
    rw [hk] at h
    split at h
    ·cases h
    ·split at h
     ·cases h
     ·simp at h
      omega
theorem jsonOk_names (x : J) (h : jsonOk x = true) {q : Nat} (hq : q < x.names.length) : q < x.list.length := by
 rcases ownB_names x (jsonOk_own x h) with ⟨_, h1⟩ | h1 <;> omega
theorem nameAt_none (x : J) (s : ByteArray) (h : jsonOk x = true) (hk : (x.kind != 5) = true) : nameAt x.names s = -1 := by
 rcases ownB_names x (jsonOk_own x h) with ⟨h1, _⟩ | h1
 ·rw [h1] at hk; simp at hk
 ·rw [List.eq_nil_of_length_eq_zero h1]; rfl
theorem bulkL_congr {α : Type} (b c : α → Nat) (l : List α) (h : ∀ x ∈ l, b x = c x) : bulkL b l = bulkL c l := by
 induction l with
 | nil => rfl
 | cons x l ih => simp only [bulkL]; rw [h x (by simp), ih (fun y hy => h y (by simp [hy]))]
theorem C_all {α : Type} {d : Ty α} {w : World} {A : Option Addr} {l : List α} (h : d.C w A l) {x : α} (hx : x ∈ l) : ∃ cs, d.K w x cs := by
 obtain ⟨i, hi⟩ := List.mem_iff_getElem?.1 hx
 obtain ⟨ad, cs, _, hk, _⟩ := h.2 i x hi
 exact ⟨cs, hk⟩
theorem bulkJ_fuel : ∀ (m : Nat) (w : World) (x : J) (cs : List Value), (tJ m).K w x cs → bulkJ (m + 1) x = bulkJ m x
 | 0, _, _, _, hk => hk.elim
 | m + 1, w, x, cs, hk => by
  obtain ⟨A1, c1, A2, c2, rfl, _, ⟨_, hC⟩, _⟩ := tJ_K.1 hk
  have h : bulkL (bulkJ (m + 1)) x.list = bulkL (bulkJ m) x.list := bulkL_congr _ _ _ (fun y hy => by
   obtain ⟨cs', hk'⟩ := C_all hC hy
   exact bulkJ_fuel m w y cs' hk')
  show x.s.size + (x.list.length + bulkL (bulkJ (m + 1)) x.list) + _ = x.s.size + (x.list.length + bulkL (bulkJ m) x.list) + _
  rw [h]
theorem bulk_field {m : Nat} {w : World} {j : J} {cs : List Value} (hk : (tJ (m + 1)).K w j cs) (s : ByteArray) : bulkJ (m + 1) (field j s) ≤ bulkJ (m + 1) j := by
 unfold field
 split
 ·obtain ⟨A1, c1, A2, c2, rfl, _, ⟨_, hC⟩, _⟩ := tJ_K.1 hk
  rcases Nat.lt_or_ge (nameAt j.names s).toNat j.list.length with h | h
  ·have e : j.list.getD (nameAt j.names s).toNat J.null = j.list[(nameAt j.names s).toNat] := by
    rw [List.getD_eq_getElem?_getD, List.getElem?_eq_getElem h]; rfl
   rw [e]
   have hx := List.getElem_mem h
   obtain ⟨cs', hk'⟩ := C_all hC hx
   rw [bulkJ_fuel m w _ cs' hk']
   have := bulkL_mem (bulkJ m) hx
   show _ ≤ j.s.size + (j.list.length + bulkL (bulkJ m) j.list) + _
   omega
  ·have e : j.list.getD (nameAt j.names s).toNat J.null = J.null := by
    rw [List.getD_eq_getElem?_getD, List.getElem?_eq_none h]; rfl
   rw [e]
   show 0 + (0 + 0) + (0 + 0) ≤ _
   omega
 ·show 0 + (0 + 0) + (0 + 0) ≤ _
  omega
def drawTexts : List ByteArray := [⟨#[]⟩, ⟨#[120]⟩, ⟨#[97, 34, 98]⟩, ⟨#[97, 92, 92, 98]⟩, ⟨#[104, 101, 108, 108, 111, 32, 116, 104, 101, 114, 101]⟩, ⟨#[126, 49]⟩]
theorem O_flat0 {m : Nat} {w : World} {S : Nat → Prop} (k n : Int) (s : ByteArray) (hs : s.size ≤ 1000) : (tJ (m + 1)).O w S ⟨k, n, s, [], []⟩ [.int .i64 k, .int .i64 n, .string s, .slice none 0 0, .slice none 0 0] :=
 tJ_O.2 ⟨_, _, fun _ => False, fun _ => False, rfl, by show s.size ≤ _; omega, R_nil, R_nil, fun _ h => h.elim, fun _ h => h.elim, fun _ h => h.elim⟩
theorem DrG_flat {d : Nat} (k n : Int) (s : ByteArray) (hs : s.size ≤ 60) : DrG (d + 1) ⟨k, n, s, [], []⟩ := ⟨by simp, by simp, hs, by simp, by simp, by simp⟩
def DrawR (d : Nat) : Prop := ∀ (W0 w : World) (g : Nat), Cur W0 w g → Calls Tryd.prog 62 #[.pointer (some ⟨g, 0, none⟩), .int .i64 ((d : Int) + 1)] w fun e w' => ∃ (j : J) (cs : List Value), e = .returned (.agg cs.toArray) ∧ DrG (d + 1) j ∧ (tJ (d + 1)).O w' (fun k => w.heap.size ≤ k) j cs ∧ Cur W0 w' g ∧ Fr w w' (fun k => k = g)
set_option maxHeartbeats 8000000 in
set_option maxRecDepth 100000 in
theorem spec_l1DrawRight_0 : DrawR 0 := by
 intro W0 w g hc
 obtain ⟨n, hn⟩ : ∃ n : Int, n = ((0 : Nat) : Int) + 1 := ⟨_, rfl⟩
 rw [← hn]
 have hn1 : n ≤ 1 := by omega
 have hn0 : 0 ≤ n := by omega
 clear hn
 have hg := Hd.mk hc.lt
 have hC := Hd.mk hc; clear hc
 have hB := Hd.mk (Fr.refl w (fun k => k = g))
 go_enter Tryd.func62, Tryd.ntmps62
 go_wp2_with fail
 apply calls_gen; intro W1 hW
 have hz_ : w.heap.size + 1 ≤ W1.heap.size := by rw [hW]; simp
 have hE : Below w.heap.size w W1 := by rw [hW]; (repeat (first | with_reducible refine below_alloc ?_ _ | with_reducible refine below_drew ?_)); exact Below.refl _ _
 have hB := Hd.mk (hB.out.trans (Fr.of_below hE _))
 have hC := Hd.mk (hC.out.below hE)
 have b0 := Hd.mk (show Blk W1 (w.heap.size) #[.int .i64 0, .int .i64 0, .string ⟨#[]⟩, .slice none 0 0, .slice none 0 0] 27 by rw [hW]; first | exact (Blk.new _ _ _) | (simpa using (Blk.new _ _ _)))
 clear hW hE
 have z1 := Hd.mk hz_; clear hz_
 refine (spec_l1Below 8 W0 _ g hC.out).mono ?_
 rintro e w2 ⟨y, rfl, y0, y1, _, hC1, hX⟩
 have hC := Hd.mk hC1; clear hC1
 have hSz0 := hB.out.size
 have hg_ := hg.out
 have z1_ := z1.out
 have b0 := Hd.mk (b0.out.fr hX (fun h => by skip; (try simp only at h); omega))
 have hB := Hd.mk (hB.out.trans hX)
 have hz_ := hX.size
 clear hSz0 hg_ hX
 have z2 := Hd.mk hz_; clear hz_
 replace y1 := y1 (by omega)
 obtain ⟨v00, v01, v02, v03, v04, v0z⟩ := blk5 b0.out
 go_wp2_with fail
 clear v00 v01 v02 v03 v04 v0z
 clear y0 y1
 refine (spec_l1Below 5 W0 _ g hC.out).mono ?_
 rintro e w3 ⟨y, rfl, y0, y1, _, hC1, hX⟩
 have hC := Hd.mk hC1; clear hC1
 have hSz0 := hB.out.size
 have hg_ := hg.out
 have z1_ := z1.out; have z2_ := z2.out
 have b0 := Hd.mk (b0.out.fr hX (fun h => by skip; (try simp only at h); omega))
 have hB := Hd.mk (hB.out.trans hX)
 have hz_ := hX.size
 clear hSz0 hg_ hX
 have z3 := Hd.mk hz_; clear hz_
 replace y1 := y1 (by omega)
 have hy : y = 0 ∨ y = 1 ∨ y = 2 ∨ y = 3 ∨ y = 4 := by omega
 clear y0 y1
 rcases hy with rfl | rfl | rfl | rfl | rfl
 ·have v00 : w3.cell? ⟨w.heap.size, 0, none⟩ = some (.int .i64 0) := b0.out.cell 0 rfl
  have v01 : w3.cell? ⟨w.heap.size, 1, none⟩ = some (.int .i64 0) := b0.out.cell 1 rfl
  have v02 : w3.cell? ⟨w.heap.size, 2, none⟩ = some (.string ⟨#[]⟩) := b0.out.cell 2 rfl
  have v03 : w3.cell? ⟨w.heap.size, 3, none⟩ = some (.slice none 0 0) := b0.out.cell 3 rfl
  have v04 : w3.cell? ⟨w.heap.size, 4, none⟩ = some (.slice none 0 0) := b0.out.cell 4 rfl
  have v0z := b0.out.frozen
  clear v00 v01 v02 v03 v04 v0z
  obtain ⟨v00, v01, v02, v03, v04, v0z⟩ := blk5 b0.out
  go_wp2_with fail
  refine bodyPost_retW (v := .agg #[.int .i64 0, .int .i64 0, .string ⟨#[]⟩, .slice none 0 0, .slice none 0 0]) (by simp [results, Tryd.results62, go_sem, v00, v01, v02, v03, v04, v0z]) rfl ?_
  intro W hW
  clear v00 v01 v02 v03 v04 v0z
  have hz_ : w3.heap.size ≤ W.heap.size := by rw [hW]; simp
  have eF : Fr w3 W (fun k => k = w.heap.size ∨ w3.heap.size ≤ k) := by rw [hW]; (repeat (first | with_reducible refine Fr.setCell ?_ _ (fun _ => by simp <;> omega) _ | with_reducible refine Fr.alloc ?_ _ | with_reducible refine Fr.drew ?_)); exact Fr.refl _ _
  have z1_ := z1.out; have z2_ := z2.out; have z3_ := z3.out
  have hC := Hd.mk (hC.out.fr eF (fun h => by have hg_ := hg.out; have hlt_ := hC.out.lt; (try simp only [rng] at h); (try simp only at h); omega) (fun k h => by have hg_ := hg.out; have hge_ := hC.out.ge; (try simp only [rng] at h); (try simp only at h); omega))
  have hB := Hd.mk (hB.out.then_ eF (fun k h hl => by (try simp only [rng] at h); (try simp only at h); omega))
  have b0 := Hd.mk (show Blk W (w.heap.size) #[.int .i64 0, .int .i64 0, .string ⟨#[]⟩, .slice none 0 0, .slice none 0 0] 27 by rw [hW]; exact (Blk.all b0.out [Value.int IntKind.i64 0, .int .i64 0, .string ⟨#[]⟩, .slice none 0 0, .slice none 0 0] rfl))
  clear hW eF
  have z4 := Hd.mk hz_; clear hz_
  exact ⟨⟨0, 0, ⟨#[]⟩, [], []⟩, [Value.int IntKind.i64 0, .int .i64 0, .string ⟨#[]⟩, .slice none 0 0, .slice none 0 0], rfl, DrG_flat _ _ _ (by decide), O_flat0 _ _ _ (by have h60_ : ByteArray.size ⟨#[]⟩ ≤ 60 := (by decide); omega), hC.out, hB.out⟩
 ·have v00 : w3.cell? ⟨w.heap.size, 0, none⟩ = some (.int .i64 0) := b0.out.cell 0 rfl
  have v01 : w3.cell? ⟨w.heap.size, 1, none⟩ = some (.int .i64 0) := b0.out.cell 1 rfl
  have v02 : w3.cell? ⟨w.heap.size, 2, none⟩ = some (.string ⟨#[]⟩) := b0.out.cell 2 rfl
  have v03 : w3.cell? ⟨w.heap.size, 3, none⟩ = some (.slice none 0 0) := b0.out.cell 3 rfl
  have v04 : w3.cell? ⟨w.heap.size, 4, none⟩ = some (.slice none 0 0) := b0.out.cell 4 rfl
  have v0z := b0.out.frozen
  go_wp2_with fail
  clear v00 v01 v02 v03 v04 v0z
  refine (spec_l1Below 2 W0 _ g hC.out).mono ?_
  rintro e w4 ⟨u, rfl, u0, u1, _, hC1, hX⟩
  have hC := Hd.mk hC1; clear hC1
  have hSz0 := hB.out.size
  have hg_ := hg.out
  have z1_ := z1.out; have z2_ := z2.out; have z3_ := z3.out
  have b0 := Hd.mk (b0.out.fr hX (fun h => by skip; (try simp only at h); omega))
  have hB := Hd.mk (hB.out.trans hX)
  have hz_ := hX.size
  clear hSz0 hg_ hX
  have z4 := Hd.mk hz_; clear hz_
  obtain ⟨v00, v01, v02, v03, v04, v0z⟩ := blk5 b0.out
  go_wp2_with fail
  refine bodyPost_retW (v := .agg #[.int .i64 1, .int .i64 u, .string ⟨#[]⟩, .slice none 0 0, .slice none 0 0]) (by simp [results, Tryd.results62, go_sem, v00, v01, v02, v03, v04, v0z]) rfl ?_
  intro W hW
  clear v00 v01 v02 v03 v04 v0z
  have hz_ : w4.heap.size ≤ W.heap.size := by rw [hW]; simp
  have eF : Fr w4 W (fun k => k = w.heap.size ∨ w4.heap.size ≤ k) := by rw [hW]; (repeat (first | with_reducible refine Fr.setCell ?_ _ (fun _ => by simp <;> omega) _ | with_reducible refine Fr.alloc ?_ _ | with_reducible refine Fr.drew ?_)); exact Fr.refl _ _
  have z1_ := z1.out; have z2_ := z2.out; have z3_ := z3.out; have z4_ := z4.out
  have hC := Hd.mk (hC.out.fr eF (fun h => by have hg_ := hg.out; have hlt_ := hC.out.lt; (try simp only [rng] at h); (try simp only at h); omega) (fun k h => by have hg_ := hg.out; have hge_ := hC.out.ge; (try simp only [rng] at h); (try simp only at h); omega))
  have hB := Hd.mk (hB.out.then_ eF (fun k h hl => by (try simp only [rng] at h); (try simp only at h); omega))
  have b0 := Hd.mk (show Blk W (w.heap.size) #[.int .i64 1, .int .i64 u, .string ⟨#[]⟩, .slice none 0 0, .slice none 0 0] 27 by rw [hW]; exact (Blk.all b0.out [Value.int IntKind.i64 1, .int .i64 u, .string ⟨#[]⟩, .slice none 0 0, .slice none 0 0] rfl))
  clear hW eF
  have z5 := Hd.mk hz_; clear hz_
  exact ⟨⟨1, u, ⟨#[]⟩, [], []⟩, [Value.int IntKind.i64 1, .int .i64 u, .string ⟨#[]⟩, .slice none 0 0, .slice none 0 0], rfl, DrG_flat _ _ _ (by decide), O_flat0 _ _ _ (by have h60_ : ByteArray.size ⟨#[]⟩ ≤ 60 := (by decide); omega), hC.out, hB.out⟩
 ·have v00 : w3.cell? ⟨w.heap.size, 0, none⟩ = some (.int .i64 0) := b0.out.cell 0 rfl
  have v01 : w3.cell? ⟨w.heap.size, 1, none⟩ = some (.int .i64 0) := b0.out.cell 1 rfl
  have v02 : w3.cell? ⟨w.heap.size, 2, none⟩ = some (.string ⟨#[]⟩) := b0.out.cell 2 rfl
  have v03 : w3.cell? ⟨w.heap.size, 3, none⟩ = some (.slice none 0 0) := b0.out.cell 3 rfl
  have v04 : w3.cell? ⟨w.heap.size, 4, none⟩ = some (.slice none 0 0) := b0.out.cell 4 rfl
  have v0z := b0.out.frozen
  go_wp2_with fail
  clear v00 v01 v02 v03 v04 v0z
  apply calls_gen; intro W4 hW
  have hE0 := Hd.mk (show str.R 9 W4 (fun k => k = w3.heap.size) (.slice (some ⟨w3.heap.size, 0, none⟩) 6 6) drawTexts by rw [hW]; exact R_strs (W0 := w3) drawTexts (by decide) (by decide))
  have hz_ : w3.heap.size + 1 ≤ W4.heap.size := by rw [hW]; simp
  have hE : Below w3.heap.size w3 W4 := by rw [hW]; (repeat (first | with_reducible refine below_alloc ?_ _ | with_reducible refine below_drew ?_)); exact Below.refl _ _
  have hB := Hd.mk (hB.out.trans (Fr.of_below hE _))
  have hC := Hd.mk (hC.out.below hE)
  have b0 := b0.dn hE
  clear hW hE
  have z4 := Hd.mk hz_; clear hz_
  have hEg := Hd.mk (show ¬ (fun k => k = w3.heap.size) g by have hg_ := hg.out; have hSz_ := hB.out.size; have z1_ := z1.out; have z2_ := z2.out; have z3_ := z3.out; have z4_ := z4.out; (try simp only); omega)
  refine (spec_l1Pick _ _ _ drawTexts W0 _ g hE0.out hEg.out rfl (by decide) (by decide) hC.out).mono ?_
  rintro e w5 ⟨z, rfl, hz, hC1, hX⟩
  have hC := Hd.mk hC1; clear hC1
  have hSz0 := hB.out.size
  have hg_ := hg.out
  have z1_ := z1.out; have z2_ := z2.out; have z3_ := z3.out; have z4_ := z4.out
  have b0 := Hd.mk (b0.out.fr hX (fun h => by skip; (try simp only at h); omega))
  have hB := Hd.mk (hB.out.trans hX)
  have hz_ := hX.size
  clear hSz0 hg_ hX
  have z5 := Hd.mk hz_; clear hz_
  clear hE0 hEg
  have hz6 : z.size ≤ 60 := (show ∀ s ∈ drawTexts, s.size ≤ 60 by decide) z hz
  clear hz
  obtain ⟨v00, v01, v02, v03, v04, v0z⟩ := blk5 b0.out
  go_wp2_with fail
  refine bodyPost_retW (v := .agg #[.int .i64 3, .int .i64 0, .string z, .slice none 0 0, .slice none 0 0]) (by simp [results, Tryd.results62, go_sem, v00, v01, v02, v03, v04, v0z]) rfl ?_
  intro W hW
  clear v00 v01 v02 v03 v04 v0z
  have hz_ : w5.heap.size ≤ W.heap.size := by rw [hW]; simp
  have eF : Fr w5 W (fun k => k = w.heap.size ∨ w5.heap.size ≤ k) := by rw [hW]; (repeat (first | with_reducible refine Fr.setCell ?_ _ (fun _ => by simp <;> omega) _ | with_reducible refine Fr.alloc ?_ _ | with_reducible refine Fr.drew ?_)); exact Fr.refl _ _
  have z1_ := z1.out; have z2_ := z2.out; have z3_ := z3.out; have z4_ := z4.out; have z5_ := z5.out
  have hC := Hd.mk (hC.out.fr eF (fun h => by have hg_ := hg.out; have hlt_ := hC.out.lt; (try simp only [rng] at h); (try simp only at h); omega) (fun k h => by have hg_ := hg.out; have hge_ := hC.out.ge; (try simp only [rng] at h); (try simp only at h); omega))
  have hB := Hd.mk (hB.out.then_ eF (fun k h hl => by (try simp only [rng] at h); (try simp only at h); omega))
  have b0 := Hd.mk (show Blk W (w.heap.size) #[.int .i64 3, .int .i64 0, .string z, .slice none 0 0, .slice none 0 0] 27 by rw [hW]; exact (Blk.all b0.out [Value.int IntKind.i64 3, .int .i64 0, .string z, .slice none 0 0, .slice none 0 0] rfl))
  clear hW eF
  have z6 := Hd.mk hz_; clear hz_
  exact ⟨⟨3, 0, z, [], []⟩, [Value.int IntKind.i64 3, .int .i64 0, .string z, .slice none 0 0, .slice none 0 0], rfl, DrG_flat _ _ _ (hz6), O_flat0 _ _ _ (by have h60_ : ByteArray.size z ≤ 60 := (hz6); omega), hC.out, hB.out⟩
 ·have v00 : w3.cell? ⟨w.heap.size, 0, none⟩ = some (.int .i64 0) := b0.out.cell 0 rfl
  have v01 : w3.cell? ⟨w.heap.size, 1, none⟩ = some (.int .i64 0) := b0.out.cell 1 rfl
  have v02 : w3.cell? ⟨w.heap.size, 2, none⟩ = some (.string ⟨#[]⟩) := b0.out.cell 2 rfl
  have v03 : w3.cell? ⟨w.heap.size, 3, none⟩ = some (.slice none 0 0) := b0.out.cell 3 rfl
  have v04 : w3.cell? ⟨w.heap.size, 4, none⟩ = some (.slice none 0 0) := b0.out.cell 4 rfl
  have v0z := b0.out.frozen
  go_wp2_with fail
  clear v00 v01 v02 v03 v04 v0z
  apply calls_gen; intro W4 hW
  have hE0 := Hd.mk (show int.R 3 W4 (fun k => k = w3.heap.size) (.slice (some ⟨w3.heap.size, 0, none⟩) 6 6) [0, 1, -5, 77, 1000000000, -1000000000] by rw [hW]; exact R_ints (W0 := w3) [0, 1, -5, 77, 1000000000, -1000000000] (by decide))
  have hz_ : w3.heap.size + 1 ≤ W4.heap.size := by rw [hW]; simp
  have hE : Below w3.heap.size w3 W4 := by rw [hW]; (repeat (first | with_reducible refine below_alloc ?_ _ | with_reducible refine below_drew ?_)); exact Below.refl _ _
  have hB := Hd.mk (hB.out.trans (Fr.of_below hE _))
  have hC := Hd.mk (hC.out.below hE)
  have b0 := b0.dn hE
  clear hW hE
  have z4 := Hd.mk hz_; clear hz_
  have hEg := Hd.mk (show ¬ (fun k => k = w3.heap.size) g by have hg_ := hg.out; have hSz_ := hB.out.size; have z1_ := z1.out; have z2_ := z2.out; have z3_ := z3.out; have z4_ := z4.out; (try simp only); omega)
  refine (spec_l1PickInt _ _ _ [0, 1, -5, 77, 1000000000, -1000000000] W0 _ g hE0.out hEg.out rfl (by decide) (by decide) hC.out).mono ?_
  rintro e w5 ⟨z, rfl, hz, hC1, hX⟩
  have hC := Hd.mk hC1; clear hC1
  have hSz0 := hB.out.size
  have hg_ := hg.out
  have z1_ := z1.out; have z2_ := z2.out; have z3_ := z3.out; have z4_ := z4.out
  have b0 := Hd.mk (b0.out.fr hX (fun h => by skip; (try simp only at h); omega))
  have hB := Hd.mk (hB.out.trans hX)
  have hz_ := hX.size
  clear hSz0 hg_ hX
  have z5 := Hd.mk hz_; clear hz_
  clear hE0 hEg
  obtain ⟨v00, v01, v02, v03, v04, v0z⟩ := blk5 b0.out
  go_wp2_with fail
  refine bodyPost_retW (v := .agg #[.int .i64 2, .int .i64 z, .string ⟨#[]⟩, .slice none 0 0, .slice none 0 0]) (by simp [results, Tryd.results62, go_sem, v00, v01, v02, v03, v04, v0z]) rfl ?_
  intro W hW
  clear v00 v01 v02 v03 v04 v0z
  have hz_ : w5.heap.size ≤ W.heap.size := by rw [hW]; simp
  have eF : Fr w5 W (fun k => k = w.heap.size ∨ w5.heap.size ≤ k) := by rw [hW]; (repeat (first | with_reducible refine Fr.setCell ?_ _ (fun _ => by simp <;> omega) _ | with_reducible refine Fr.alloc ?_ _ | with_reducible refine Fr.drew ?_)); exact Fr.refl _ _
  have z1_ := z1.out; have z2_ := z2.out; have z3_ := z3.out; have z4_ := z4.out; have z5_ := z5.out
  have hC := Hd.mk (hC.out.fr eF (fun h => by have hg_ := hg.out; have hlt_ := hC.out.lt; (try simp only [rng] at h); (try simp only at h); omega) (fun k h => by have hg_ := hg.out; have hge_ := hC.out.ge; (try simp only [rng] at h); (try simp only at h); omega))
  have hB := Hd.mk (hB.out.then_ eF (fun k h hl => by (try simp only [rng] at h); (try simp only at h); omega))
  have b0 := Hd.mk (show Blk W (w.heap.size) #[.int .i64 2, .int .i64 z, .string ⟨#[]⟩, .slice none 0 0, .slice none 0 0] 27 by rw [hW]; exact (Blk.all b0.out [Value.int IntKind.i64 2, .int .i64 z, .string ⟨#[]⟩, .slice none 0 0, .slice none 0 0] rfl))
  clear hW eF
  have z6 := Hd.mk hz_; clear hz_
  exact ⟨⟨2, z, ⟨#[]⟩, [], []⟩, [Value.int IntKind.i64 2, .int .i64 z, .string ⟨#[]⟩, .slice none 0 0, .slice none 0 0], rfl, DrG_flat _ _ _ (by decide), O_flat0 _ _ _ (by have h60_ : ByteArray.size ⟨#[]⟩ ≤ 60 := (by decide); omega), hC.out, hB.out⟩
 ·have v00 : w3.cell? ⟨w.heap.size, 0, none⟩ = some (.int .i64 0) := b0.out.cell 0 rfl
  have v01 : w3.cell? ⟨w.heap.size, 1, none⟩ = some (.int .i64 0) := b0.out.cell 1 rfl
  have v02 : w3.cell? ⟨w.heap.size, 2, none⟩ = some (.string ⟨#[]⟩) := b0.out.cell 2 rfl
  have v03 : w3.cell? ⟨w.heap.size, 3, none⟩ = some (.slice none 0 0) := b0.out.cell 3 rfl
  have v04 : w3.cell? ⟨w.heap.size, 4, none⟩ = some (.slice none 0 0) := b0.out.cell 4 rfl
  have v0z := b0.out.frozen
  go_wp2_with fail
  clear v00 v01 v02 v03 v04 v0z
  apply calls_gen; intro W4 hW
  have hE0 := Hd.mk (show int.R 3 W4 (fun k => k = w3.heap.size) (.slice (some ⟨w3.heap.size, 0, none⟩) 6 6) [0, 1, -5, 77, 1000000000, -1000000000] by rw [hW]; exact R_ints (W0 := w3) [0, 1, -5, 77, 1000000000, -1000000000] (by decide))
  have hz_ : w3.heap.size + 1 ≤ W4.heap.size := by rw [hW]; simp
  have hE : Below w3.heap.size w3 W4 := by rw [hW]; (repeat (first | with_reducible refine below_alloc ?_ _ | with_reducible refine below_drew ?_)); exact Below.refl _ _
  have hB := Hd.mk (hB.out.trans (Fr.of_below hE _))
  have hC := Hd.mk (hC.out.below hE)
  have b0 := b0.dn hE
  clear hW hE
  have z4 := Hd.mk hz_; clear hz_
  have hEg := Hd.mk (show ¬ (fun k => k = w3.heap.size) g by have hg_ := hg.out; have hSz_ := hB.out.size; have z1_ := z1.out; have z2_ := z2.out; have z3_ := z3.out; have z4_ := z4.out; (try simp only); omega)
  refine (spec_l1PickInt _ _ _ [0, 1, -5, 77, 1000000000, -1000000000] W0 _ g hE0.out hEg.out rfl (by decide) (by decide) hC.out).mono ?_
  rintro e w5 ⟨z, rfl, hz, hC1, hX⟩
  have hC := Hd.mk hC1; clear hC1
  have hSz0 := hB.out.size
  have hg_ := hg.out
  have z1_ := z1.out; have z2_ := z2.out; have z3_ := z3.out; have z4_ := z4.out
  have b0 := Hd.mk (b0.out.fr hX (fun h => by skip; (try simp only at h); omega))
  have hB := Hd.mk (hB.out.trans hX)
  have hz_ := hX.size
  clear hSz0 hg_ hX
  have z5 := Hd.mk hz_; clear hz_
  clear hE0 hEg
  obtain ⟨v00, v01, v02, v03, v04, v0z⟩ := blk5 b0.out
  go_wp2_with fail
  refine bodyPost_retW (v := .agg #[.int .i64 2, .int .i64 z, .string ⟨#[]⟩, .slice none 0 0, .slice none 0 0]) (by simp [results, Tryd.results62, go_sem, v00, v01, v02, v03, v04, v0z]) rfl ?_
  intro W hW
  clear v00 v01 v02 v03 v04 v0z
  have hz_ : w5.heap.size ≤ W.heap.size := by rw [hW]; simp
  have eF : Fr w5 W (fun k => k = w.heap.size ∨ w5.heap.size ≤ k) := by rw [hW]; (repeat (first | with_reducible refine Fr.setCell ?_ _ (fun _ => by simp <;> omega) _ | with_reducible refine Fr.alloc ?_ _ | with_reducible refine Fr.drew ?_)); exact Fr.refl _ _
  have z1_ := z1.out; have z2_ := z2.out; have z3_ := z3.out; have z4_ := z4.out; have z5_ := z5.out
  have hC := Hd.mk (hC.out.fr eF (fun h => by have hg_ := hg.out; have hlt_ := hC.out.lt; (try simp only [rng] at h); (try simp only at h); omega) (fun k h => by have hg_ := hg.out; have hge_ := hC.out.ge; (try simp only [rng] at h); (try simp only at h); omega))
  have hB := Hd.mk (hB.out.then_ eF (fun k h hl => by (try simp only [rng] at h); (try simp only at h); omega))
  have b0 := Hd.mk (show Blk W (w.heap.size) #[.int .i64 2, .int .i64 z, .string ⟨#[]⟩, .slice none 0 0, .slice none 0 0] 27 by rw [hW]; exact (Blk.all b0.out [Value.int IntKind.i64 2, .int .i64 z, .string ⟨#[]⟩, .slice none 0 0, .slice none 0 0] rfl))
  clear hW eF
  have z6 := Hd.mk hz_; clear hz_
  exact ⟨⟨2, z, ⟨#[]⟩, [], []⟩, [Value.int IntKind.i64 2, .int .i64 z, .string ⟨#[]⟩, .slice none 0 0, .slice none 0 0], rfl, DrG_flat _ _ _ (by decide), O_flat0 _ _ _ (by have h60_ : ByteArray.size ⟨#[]⟩ ≤ 60 := (by decide); omega), hC.out, hB.out⟩
set_option maxHeartbeats 8000000 in
set_option maxRecDepth 100000 in
theorem spec_l1DrawRight_s {d : Nat} (hd : d ≤ 100) (ih : DrawR d) : DrawR (d + 1) := by
 intro W0 w g hc
 obtain ⟨n, hn⟩ : ∃ n : Int, n = ((d + 1 : Nat) : Int) + 1 := ⟨_, rfl⟩
 rw [← hn]
 have hn1 : ¬ n ≤ 1 := by omega
 have hnu : n ≤ 1000 := by omega
 have HN1 := Hd.mk (show n - 1 = (d : Int) + 1 by omega)
 clear hn
 have hg := Hd.mk hc.lt
 have hC := Hd.mk hc; clear hc
 have hB := Hd.mk (Fr.refl w (fun k => k = g))
 go_enter Tryd.func62, Tryd.ntmps62
 go_wp2_with fail
 apply calls_gen; intro W1 hW
 have hz_ : w.heap.size + 1 ≤ W1.heap.size := by rw [hW]; simp
 have hE : Below w.heap.size w W1 := by rw [hW]; (repeat (first | with_reducible refine below_alloc ?_ _ | with_reducible refine below_drew ?_)); exact Below.refl _ _
 have hB := Hd.mk (hB.out.trans (Fr.of_below hE _))
 have hC := Hd.mk (hC.out.below hE)
 have b0 := Hd.mk (show Blk W1 (w.heap.size) #[.int .i64 0, .int .i64 0, .string ⟨#[]⟩, .slice none 0 0, .slice none 0 0] 27 by rw [hW]; first | exact (Blk.new _ _ _) | (simpa using (Blk.new _ _ _)))
 clear hW hE
 have z1 := Hd.mk hz_; clear hz_
 refine (spec_l1Below 8 W0 _ g hC.out).mono ?_
 rintro e w2 ⟨y, rfl, y0, y1, _, hC1, hX⟩
 have hC := Hd.mk hC1; clear hC1
 have hSz0 := hB.out.size
 have hg_ := hg.out
 have z1_ := z1.out
 have b0 := Hd.mk (b0.out.fr hX (fun h => by skip; (try simp only at h); omega))
 have hB := Hd.mk (hB.out.trans hX)
 have hz_ := hX.size
 clear hSz0 hg_ hX
 have z2 := Hd.mk hz_; clear hz_
 replace y1 := y1 (by omega)
 have hy : y = 0 ∨ y = 1 ∨ y = 2 ∨ y = 3 ∨ y = 4 ∨ y = 5 ∨ y = 6 ∨ y = 7 := by omega
 clear y0 y1
 rcases hy with rfl | rfl | rfl | rfl | rfl | rfl | rfl | rfl
 ·have v00 : w2.cell? ⟨w.heap.size, 0, none⟩ = some (.int .i64 0) := b0.out.cell 0 rfl
  have v01 : w2.cell? ⟨w.heap.size, 1, none⟩ = some (.int .i64 0) := b0.out.cell 1 rfl
  have v02 : w2.cell? ⟨w.heap.size, 2, none⟩ = some (.string ⟨#[]⟩) := b0.out.cell 2 rfl
  have v03 : w2.cell? ⟨w.heap.size, 3, none⟩ = some (.slice none 0 0) := b0.out.cell 3 rfl
  have v04 : w2.cell? ⟨w.heap.size, 4, none⟩ = some (.slice none 0 0) := b0.out.cell 4 rfl
  have v0z := b0.out.frozen
  clear v00 v01 v02 v03 v04 v0z
  obtain ⟨v00, v01, v02, v03, v04, v0z⟩ := blk5 b0.out
  go_wp2_with fail
  refine bodyPost_retW (v := .agg #[.int .i64 0, .int .i64 0, .string ⟨#[]⟩, .slice none 0 0, .slice none 0 0]) (by simp [results, Tryd.results62, go_sem, v00, v01, v02, v03, v04, v0z]) rfl ?_
  intro W hW
  clear v00 v01 v02 v03 v04 v0z
  have hz_ : w2.heap.size ≤ W.heap.size := by rw [hW]; simp
  have eF : Fr w2 W (fun k => k = w.heap.size ∨ w2.heap.size ≤ k) := by rw [hW]; (repeat (first | with_reducible refine Fr.setCell ?_ _ (fun _ => by simp <;> omega) _ | with_reducible refine Fr.alloc ?_ _ | with_reducible refine Fr.drew ?_)); exact Fr.refl _ _
  have z1_ := z1.out; have z2_ := z2.out
  have hC := Hd.mk (hC.out.fr eF (fun h => by have hg_ := hg.out; have hlt_ := hC.out.lt; (try simp only [rng] at h); (try simp only at h); omega) (fun k h => by have hg_ := hg.out; have hge_ := hC.out.ge; (try simp only [rng] at h); (try simp only at h); omega))
  have hB := Hd.mk (hB.out.then_ eF (fun k h hl => by (try simp only [rng] at h); (try simp only at h); omega))
  have b0 := Hd.mk (show Blk W (w.heap.size) #[.int .i64 0, .int .i64 0, .string ⟨#[]⟩, .slice none 0 0, .slice none 0 0] 27 by rw [hW]; exact (Blk.all b0.out [Value.int IntKind.i64 0, .int .i64 0, .string ⟨#[]⟩, .slice none 0 0, .slice none 0 0] rfl))
  clear hW eF
  have z3 := Hd.mk hz_; clear hz_
  exact ⟨⟨0, 0, ⟨#[]⟩, [], []⟩, [Value.int IntKind.i64 0, .int .i64 0, .string ⟨#[]⟩, .slice none 0 0, .slice none 0 0], rfl, DrG_flat _ _ _ (by decide), O_flat0 _ _ _ (by have h60_ : ByteArray.size ⟨#[]⟩ ≤ 60 := (by decide); omega), hC.out, hB.out⟩
 ·have v00 : w2.cell? ⟨w.heap.size, 0, none⟩ = some (.int .i64 0) := b0.out.cell 0 rfl
  have v01 : w2.cell? ⟨w.heap.size, 1, none⟩ = some (.int .i64 0) := b0.out.cell 1 rfl
  have v02 : w2.cell? ⟨w.heap.size, 2, none⟩ = some (.string ⟨#[]⟩) := b0.out.cell 2 rfl
  have v03 : w2.cell? ⟨w.heap.size, 3, none⟩ = some (.slice none 0 0) := b0.out.cell 3 rfl
  have v04 : w2.cell? ⟨w.heap.size, 4, none⟩ = some (.slice none 0 0) := b0.out.cell 4 rfl
  have v0z := b0.out.frozen
  go_wp2_with fail
  clear v00 v01 v02 v03 v04 v0z
  refine (spec_l1Below 2 W0 _ g hC.out).mono ?_
  rintro e w3 ⟨u, rfl, u0, u1, _, hC1, hX⟩
  have hC := Hd.mk hC1; clear hC1
  have hSz0 := hB.out.size
  have hg_ := hg.out
  have z1_ := z1.out; have z2_ := z2.out
  have b0 := Hd.mk (b0.out.fr hX (fun h => by skip; (try simp only at h); omega))
  have hB := Hd.mk (hB.out.trans hX)
  have hz_ := hX.size
  clear hSz0 hg_ hX
  have z3 := Hd.mk hz_; clear hz_
  obtain ⟨v00, v01, v02, v03, v04, v0z⟩ := blk5 b0.out
  go_wp2_with fail
  refine bodyPost_retW (v := .agg #[.int .i64 1, .int .i64 u, .string ⟨#[]⟩, .slice none 0 0, .slice none 0 0]) (by simp [results, Tryd.results62, go_sem, v00, v01, v02, v03, v04, v0z]) rfl ?_
  intro W hW
  clear v00 v01 v02 v03 v04 v0z
  have hz_ : w3.heap.size ≤ W.heap.size := by rw [hW]; simp
  have eF : Fr w3 W (fun k => k = w.heap.size ∨ w3.heap.size ≤ k) := by rw [hW]; (repeat (first | with_reducible refine Fr.setCell ?_ _ (fun _ => by simp <;> omega) _ | with_reducible refine Fr.alloc ?_ _ | with_reducible refine Fr.drew ?_)); exact Fr.refl _ _
  have z1_ := z1.out; have z2_ := z2.out; have z3_ := z3.out
  have hC := Hd.mk (hC.out.fr eF (fun h => by have hg_ := hg.out; have hlt_ := hC.out.lt; (try simp only [rng] at h); (try simp only at h); omega) (fun k h => by have hg_ := hg.out; have hge_ := hC.out.ge; (try simp only [rng] at h); (try simp only at h); omega))
  have hB := Hd.mk (hB.out.then_ eF (fun k h hl => by (try simp only [rng] at h); (try simp only at h); omega))
  have b0 := Hd.mk (show Blk W (w.heap.size) #[.int .i64 1, .int .i64 u, .string ⟨#[]⟩, .slice none 0 0, .slice none 0 0] 27 by rw [hW]; exact (Blk.all b0.out [Value.int IntKind.i64 1, .int .i64 u, .string ⟨#[]⟩, .slice none 0 0, .slice none 0 0] rfl))
  clear hW eF
  have z4 := Hd.mk hz_; clear hz_
  exact ⟨⟨1, u, ⟨#[]⟩, [], []⟩, [Value.int IntKind.i64 1, .int .i64 u, .string ⟨#[]⟩, .slice none 0 0, .slice none 0 0], rfl, DrG_flat _ _ _ (by decide), O_flat0 _ _ _ (by have h60_ : ByteArray.size ⟨#[]⟩ ≤ 60 := (by decide); omega), hC.out, hB.out⟩
 ·have v00 : w2.cell? ⟨w.heap.size, 0, none⟩ = some (.int .i64 0) := b0.out.cell 0 rfl
  have v01 : w2.cell? ⟨w.heap.size, 1, none⟩ = some (.int .i64 0) := b0.out.cell 1 rfl
  have v02 : w2.cell? ⟨w.heap.size, 2, none⟩ = some (.string ⟨#[]⟩) := b0.out.cell 2 rfl
  have v03 : w2.cell? ⟨w.heap.size, 3, none⟩ = some (.slice none 0 0) := b0.out.cell 3 rfl
  have v04 : w2.cell? ⟨w.heap.size, 4, none⟩ = some (.slice none 0 0) := b0.out.cell 4 rfl
  have v0z := b0.out.frozen
  go_wp2_with fail
  clear v00 v01 v02 v03 v04 v0z
  apply calls_gen; intro W3 hW
  have hE0 := Hd.mk (show str.R 9 W3 (fun k => k = w2.heap.size) (.slice (some ⟨w2.heap.size, 0, none⟩) 6 6) drawTexts by rw [hW]; exact R_strs (W0 := w2) drawTexts (by decide) (by decide))
  have hz_ : w2.heap.size + 1 ≤ W3.heap.size := by rw [hW]; simp
  have hE : Below w2.heap.size w2 W3 := by rw [hW]; (repeat (first | with_reducible refine below_alloc ?_ _ | with_reducible refine below_drew ?_)); exact Below.refl _ _
  have hB := Hd.mk (hB.out.trans (Fr.of_below hE _))
  have hC := Hd.mk (hC.out.below hE)
  have b0 := b0.dn hE
  clear hW hE
  have z3 := Hd.mk hz_; clear hz_
  have hEg := Hd.mk (show ¬ (fun k => k = w2.heap.size) g by have hg_ := hg.out; have hSz_ := hB.out.size; have z1_ := z1.out; have z2_ := z2.out; have z3_ := z3.out; (try simp only); omega)
  refine (spec_l1Pick _ _ _ drawTexts W0 _ g hE0.out hEg.out rfl (by decide) (by decide) hC.out).mono ?_
  rintro e w4 ⟨z, rfl, hz, hC1, hX⟩
  have hC := Hd.mk hC1; clear hC1
  have hSz0 := hB.out.size
  have hg_ := hg.out
  have z1_ := z1.out; have z2_ := z2.out; have z3_ := z3.out
  have b0 := Hd.mk (b0.out.fr hX (fun h => by skip; (try simp only at h); omega))
  have hB := Hd.mk (hB.out.trans hX)
  have hz_ := hX.size
  clear hSz0 hg_ hX
  have z4 := Hd.mk hz_; clear hz_
  clear hE0 hEg
  have hz6 : z.size ≤ 60 := (show ∀ s ∈ drawTexts, s.size ≤ 60 by decide) z hz
  clear hz
  obtain ⟨v00, v01, v02, v03, v04, v0z⟩ := blk5 b0.out
  go_wp2_with fail
  refine bodyPost_retW (v := .agg #[.int .i64 3, .int .i64 0, .string z, .slice none 0 0, .slice none 0 0]) (by simp [results, Tryd.results62, go_sem, v00, v01, v02, v03, v04, v0z]) rfl ?_
  intro W hW
  clear v00 v01 v02 v03 v04 v0z
  have hz_ : w4.heap.size ≤ W.heap.size := by rw [hW]; simp
  have eF : Fr w4 W (fun k => k = w.heap.size ∨ w4.heap.size ≤ k) := by rw [hW]; (repeat (first | with_reducible refine Fr.setCell ?_ _ (fun _ => by simp <;> omega) _ | with_reducible refine Fr.alloc ?_ _ | with_reducible refine Fr.drew ?_)); exact Fr.refl _ _
  have z1_ := z1.out; have z2_ := z2.out; have z3_ := z3.out; have z4_ := z4.out
  have hC := Hd.mk (hC.out.fr eF (fun h => by have hg_ := hg.out; have hlt_ := hC.out.lt; (try simp only [rng] at h); (try simp only at h); omega) (fun k h => by have hg_ := hg.out; have hge_ := hC.out.ge; (try simp only [rng] at h); (try simp only at h); omega))
  have hB := Hd.mk (hB.out.then_ eF (fun k h hl => by (try simp only [rng] at h); (try simp only at h); omega))
  have b0 := Hd.mk (show Blk W (w.heap.size) #[.int .i64 3, .int .i64 0, .string z, .slice none 0 0, .slice none 0 0] 27 by rw [hW]; exact (Blk.all b0.out [Value.int IntKind.i64 3, .int .i64 0, .string z, .slice none 0 0, .slice none 0 0] rfl))
  clear hW eF
  have z5 := Hd.mk hz_; clear hz_
  exact ⟨⟨3, 0, z, [], []⟩, [Value.int IntKind.i64 3, .int .i64 0, .string z, .slice none 0 0, .slice none 0 0], rfl, DrG_flat _ _ _ (hz6), O_flat0 _ _ _ (by have h60_ : ByteArray.size z ≤ 60 := (hz6); omega), hC.out, hB.out⟩
 ·have v00 : w2.cell? ⟨w.heap.size, 0, none⟩ = some (.int .i64 0) := b0.out.cell 0 rfl
  have v01 : w2.cell? ⟨w.heap.size, 1, none⟩ = some (.int .i64 0) := b0.out.cell 1 rfl
  have v02 : w2.cell? ⟨w.heap.size, 2, none⟩ = some (.string ⟨#[]⟩) := b0.out.cell 2 rfl
  have v03 : w2.cell? ⟨w.heap.size, 3, none⟩ = some (.slice none 0 0) := b0.out.cell 3 rfl
  have v04 : w2.cell? ⟨w.heap.size, 4, none⟩ = some (.slice none 0 0) := b0.out.cell 4 rfl
  have v0z := b0.out.frozen
  go_wp2_with fail
  clear v00 v01 v02 v03 v04 v0z
  apply calls_gen; intro W3 hW
  have hE0 := Hd.mk (show int.R 3 W3 (fun k => k = w2.heap.size) (.slice (some ⟨w2.heap.size, 0, none⟩) 6 6) [0, 1, -5, 77, 1000000000, -1000000000] by rw [hW]; exact R_ints (W0 := w2) [0, 1, -5, 77, 1000000000, -1000000000] (by decide))
  have hz_ : w2.heap.size + 1 ≤ W3.heap.size := by rw [hW]; simp
  have hE : Below w2.heap.size w2 W3 := by rw [hW]; (repeat (first | with_reducible refine below_alloc ?_ _ | with_reducible refine below_drew ?_)); exact Below.refl _ _
  have hB := Hd.mk (hB.out.trans (Fr.of_below hE _))
  have hC := Hd.mk (hC.out.below hE)
  have b0 := b0.dn hE
  clear hW hE
  have z3 := Hd.mk hz_; clear hz_
  have hEg := Hd.mk (show ¬ (fun k => k = w2.heap.size) g by have hg_ := hg.out; have hSz_ := hB.out.size; have z1_ := z1.out; have z2_ := z2.out; have z3_ := z3.out; (try simp only); omega)
  refine (spec_l1PickInt _ _ _ [0, 1, -5, 77, 1000000000, -1000000000] W0 _ g hE0.out hEg.out rfl (by decide) (by decide) hC.out).mono ?_
  rintro e w4 ⟨z, rfl, hz, hC1, hX⟩
  have hC := Hd.mk hC1; clear hC1
  have hSz0 := hB.out.size
  have hg_ := hg.out
  have z1_ := z1.out; have z2_ := z2.out; have z3_ := z3.out
  have b0 := Hd.mk (b0.out.fr hX (fun h => by skip; (try simp only at h); omega))
  have hB := Hd.mk (hB.out.trans hX)
  have hz_ := hX.size
  clear hSz0 hg_ hX
  have z4 := Hd.mk hz_; clear hz_
  clear hE0 hEg
  obtain ⟨v00, v01, v02, v03, v04, v0z⟩ := blk5 b0.out
  go_wp2_with fail
  refine bodyPost_retW (v := .agg #[.int .i64 2, .int .i64 z, .string ⟨#[]⟩, .slice none 0 0, .slice none 0 0]) (by simp [results, Tryd.results62, go_sem, v00, v01, v02, v03, v04, v0z]) rfl ?_
  intro W hW
  clear v00 v01 v02 v03 v04 v0z
  have hz_ : w4.heap.size ≤ W.heap.size := by rw [hW]; simp
  have eF : Fr w4 W (fun k => k = w.heap.size ∨ w4.heap.size ≤ k) := by rw [hW]; (repeat (first | with_reducible refine Fr.setCell ?_ _ (fun _ => by simp <;> omega) _ | with_reducible refine Fr.alloc ?_ _ | with_reducible refine Fr.drew ?_)); exact Fr.refl _ _
  have z1_ := z1.out; have z2_ := z2.out; have z3_ := z3.out; have z4_ := z4.out
  have hC := Hd.mk (hC.out.fr eF (fun h => by have hg_ := hg.out; have hlt_ := hC.out.lt; (try simp only [rng] at h); (try simp only at h); omega) (fun k h => by have hg_ := hg.out; have hge_ := hC.out.ge; (try simp only [rng] at h); (try simp only at h); omega))
  have hB := Hd.mk (hB.out.then_ eF (fun k h hl => by (try simp only [rng] at h); (try simp only at h); omega))
  have b0 := Hd.mk (show Blk W (w.heap.size) #[.int .i64 2, .int .i64 z, .string ⟨#[]⟩, .slice none 0 0, .slice none 0 0] 27 by rw [hW]; exact (Blk.all b0.out [Value.int IntKind.i64 2, .int .i64 z, .string ⟨#[]⟩, .slice none 0 0, .slice none 0 0] rfl))
  clear hW eF
  have z5 := Hd.mk hz_; clear hz_
  exact ⟨⟨2, z, ⟨#[]⟩, [], []⟩, [Value.int IntKind.i64 2, .int .i64 z, .string ⟨#[]⟩, .slice none 0 0, .slice none 0 0], rfl, DrG_flat _ _ _ (by decide), O_flat0 _ _ _ (by have h60_ : ByteArray.size ⟨#[]⟩ ≤ 60 := (by decide); omega), hC.out, hB.out⟩
 ·have v00 : w2.cell? ⟨w.heap.size, 0, none⟩ = some (.int .i64 0) := b0.out.cell 0 rfl
  have v01 : w2.cell? ⟨w.heap.size, 1, none⟩ = some (.int .i64 0) := b0.out.cell 1 rfl
  have v02 : w2.cell? ⟨w.heap.size, 2, none⟩ = some (.string ⟨#[]⟩) := b0.out.cell 2 rfl
  have v03 : w2.cell? ⟨w.heap.size, 3, none⟩ = some (.slice none 0 0) := b0.out.cell 3 rfl
  have v04 : w2.cell? ⟨w.heap.size, 4, none⟩ = some (.slice none 0 0) := b0.out.cell 4 rfl
  have v0z := b0.out.frozen
  go_wp2_with fail
  clear v00 v01 v02 v03 v04 v0z
  apply calls_gen; intro W3 hW
  have hE0 := Hd.mk (show int.R 3 W3 (fun k => k = w2.heap.size) (.slice (some ⟨w2.heap.size, 0, none⟩) 6 6) [0, 1, -5, 77, 1000000000, -1000000000] by rw [hW]; exact R_ints (W0 := w2) [0, 1, -5, 77, 1000000000, -1000000000] (by decide))
  have hz_ : w2.heap.size + 1 ≤ W3.heap.size := by rw [hW]; simp
  have hE : Below w2.heap.size w2 W3 := by rw [hW]; (repeat (first | with_reducible refine below_alloc ?_ _ | with_reducible refine below_drew ?_)); exact Below.refl _ _
  have hB := Hd.mk (hB.out.trans (Fr.of_below hE _))
  have hC := Hd.mk (hC.out.below hE)
  have b0 := b0.dn hE
  clear hW hE
  have z3 := Hd.mk hz_; clear hz_
  have hEg := Hd.mk (show ¬ (fun k => k = w2.heap.size) g by have hg_ := hg.out; have hSz_ := hB.out.size; have z1_ := z1.out; have z2_ := z2.out; have z3_ := z3.out; (try simp only); omega)
  refine (spec_l1PickInt _ _ _ [0, 1, -5, 77, 1000000000, -1000000000] W0 _ g hE0.out hEg.out rfl (by decide) (by decide) hC.out).mono ?_
  rintro e w4 ⟨z, rfl, hz, hC1, hX⟩
  have hC := Hd.mk hC1; clear hC1
  have hSz0 := hB.out.size
  have hg_ := hg.out
  have z1_ := z1.out; have z2_ := z2.out; have z3_ := z3.out
  have b0 := Hd.mk (b0.out.fr hX (fun h => by skip; (try simp only at h); omega))
  have hB := Hd.mk (hB.out.trans hX)
  have hz_ := hX.size
  clear hSz0 hg_ hX
  have z4 := Hd.mk hz_; clear hz_
  clear hE0 hEg
  obtain ⟨v00, v01, v02, v03, v04, v0z⟩ := blk5 b0.out
  go_wp2_with fail
  refine bodyPost_retW (v := .agg #[.int .i64 2, .int .i64 z, .string ⟨#[]⟩, .slice none 0 0, .slice none 0 0]) (by simp [results, Tryd.results62, go_sem, v00, v01, v02, v03, v04, v0z]) rfl ?_
  intro W hW
  clear v00 v01 v02 v03 v04 v0z
  have hz_ : w4.heap.size ≤ W.heap.size := by rw [hW]; simp
  have eF : Fr w4 W (fun k => k = w.heap.size ∨ w4.heap.size ≤ k) := by rw [hW]; (repeat (first | with_reducible refine Fr.setCell ?_ _ (fun _ => by simp <;> omega) _ | with_reducible refine Fr.alloc ?_ _ | with_reducible refine Fr.drew ?_)); exact Fr.refl _ _
  have z1_ := z1.out; have z2_ := z2.out; have z3_ := z3.out; have z4_ := z4.out
  have hC := Hd.mk (hC.out.fr eF (fun h => by have hg_ := hg.out; have hlt_ := hC.out.lt; (try simp only [rng] at h); (try simp only at h); omega) (fun k h => by have hg_ := hg.out; have hge_ := hC.out.ge; (try simp only [rng] at h); (try simp only at h); omega))
  have hB := Hd.mk (hB.out.then_ eF (fun k h hl => by (try simp only [rng] at h); (try simp only at h); omega))
  have b0 := Hd.mk (show Blk W (w.heap.size) #[.int .i64 2, .int .i64 z, .string ⟨#[]⟩, .slice none 0 0, .slice none 0 0] 27 by rw [hW]; exact (Blk.all b0.out [Value.int IntKind.i64 2, .int .i64 z, .string ⟨#[]⟩, .slice none 0 0, .slice none 0 0] rfl))
  clear hW eF
  have z5 := Hd.mk hz_; clear hz_
  exact ⟨⟨2, z, ⟨#[]⟩, [], []⟩, [Value.int IntKind.i64 2, .int .i64 z, .string ⟨#[]⟩, .slice none 0 0, .slice none 0 0], rfl, DrG_flat _ _ _ (by decide), O_flat0 _ _ _ (by have h60_ : ByteArray.size ⟨#[]⟩ ≤ 60 := (by decide); omega), hC.out, hB.out⟩
 ·have v00 : w2.cell? ⟨w.heap.size, 0, none⟩ = some (.int .i64 0) := b0.out.cell 0 rfl
  have v01 : w2.cell? ⟨w.heap.size, 1, none⟩ = some (.int .i64 0) := b0.out.cell 1 rfl
  have v02 : w2.cell? ⟨w.heap.size, 2, none⟩ = some (.string ⟨#[]⟩) := b0.out.cell 2 rfl
  have v03 : w2.cell? ⟨w.heap.size, 3, none⟩ = some (.slice none 0 0) := b0.out.cell 3 rfl
  have v04 : w2.cell? ⟨w.heap.size, 4, none⟩ = some (.slice none 0 0) := b0.out.cell 4 rfl
  have v0z := b0.out.frozen
  go_wp2_with fail
  clear v00 v01 v02 v03 v04 v0z
  have z1_ := z1.out; have z2_ := z2.out
  have hPW := Hd.mk (show w.heap.size < w2.heap.size by omega)
  clear z1_ z2_
  go_loopw [7] (fun i wr => ∃ (k : Nat) (v : Value) (l : List J), i = .int .i64 k ∧ k ≤ 4 ∧ Hd (l.length = k) ∧ Hd (∀ x ∈ l, DrG (d + 1) x) ∧ Hd (Blk wr w.heap.size #[.int .i64 0, .int .i64 0, .string ⟨#[]⟩, .slice none 0 0, .slice none 0 0] 27) ∧ Hd (Blk wr w2.heap.size #[.int .i64 4, .int .i64 0, .string ⟨#[]⟩, v, .slice none 0 0] 27) ∧ Hd ((tJ (d + 1)).R 27 wr (fun q => w.heap.size ≤ q ∧ q ≠ w.heap.size ∧ q ≠ w2.heap.size) v l) ∧ Hd (Cur W0 wr g) ∧ Hd (Fr w wr (fun k => k = g)) ∧ Hd (w2.heap.size < wr.heap.size)) (fun i _ => 4 - (intOf i).toNat)
  case atStart => exact ⟨0, .slice none 0 0, [], rfl, Nat.zero_le _, ⟨rfl⟩, ⟨by simp⟩, ⟨b0.out.alloc _⟩, ⟨Blk.new _ _ _⟩, ⟨R_nil⟩, ⟨hC.out.below (below_alloc (Below.refl _ _) _)⟩, ⟨hB.out.alloc _⟩, ⟨by simp⟩⟩
  case round =>
   clear b0 hB hC
   obtain ⟨k, v, l, rfl, hk4, hl, hDL, b0, b1, hL, hC, hB, hzw⟩ := hrel
   go_wp2_with fail
   refine (spec_l1Below 5 W0 _ g hC.out).mono ?_
   rintro e w3 ⟨y, rfl, y0, y1, _, hC1, hX⟩
   have hC := Hd.mk hC1; clear hC1
   have hSz0 := hB.out.size
   have hg_ := hg.out
   have z1_ := z1.out; have z2_ := z2.out; have hzw_ := hzw.out
   have b0 := Hd.mk (b0.out.fr hX (fun h => by skip; (try simp only at h); omega))
   have b1 := Hd.mk (b1.out.fr hX (fun h => by skip; (try simp only at h); omega))
   have hL := Hd.mk (R_fr hL.out hX (fun k hk hl h => by have q_ := hk.1; have hg_ := hg.out; (try simp only [rng] at hk); (try simp only at hk); (try simp only at h); omega))
   have hB := Hd.mk (hB.out.trans hX)
   have hz_ := hX.size
   clear hSz0 hg_ hX
   have z3 := Hd.mk hz_; clear hz_
   replace y1 := y1 (by omega)
   obtain ⟨AL, cL, hvL, hcL, _⟩ := R_C hL.out
   subst hvL
   by_cases hlt : (k : Int) < y
   ·have hk3 : k ≤ 3 := by omega
    rw [hl.out] at hcL
    have hL0 := hL.out; have b10 := b1.out
    rw [hl.out] at hL0 b10
    replace hL := Hd.mk (R_bound hL0); replace b1 := Hd.mk b10; clear hL0 b10
    have z1_ := z1.out; have z2_ := z2.out; have hzw_ := hzw.out; have z3_ := z3.out
    have hWl := Hd.mk (show w.heap.size ≤ w3.heap.size by omega)
    clear z1_ z2_ hzw_ z3_
    obtain ⟨v00, v01, v02, v03, v04, v0z⟩ := blk5 b0.out
    obtain ⟨v10, v11, v12, v13, v14, v1z⟩ := blk5 b1.out
    go_wp2_with fail
    clear v00 v01 v02 v03 v04 v0z v10 v11 v12 v13 v14 v1z
    have sb0 := Hd.mk b0.out
    have sb1 := Hd.mk b1.out
    refine region_mixC (fun w2 => Fr w3 w2 (fun k => k = g)) (.p 0 (.q 1 (.p 2 (.p 3 (.p 4 (.b 5 (.b 6 .fin))))))) [7, 8, 9] (by kernel_rfl) (Fr.drew (Fr.refl _ _)) (by kernel_rfl) (fun _ _ _ _ _ h => h) ?_
    refine genT ?_
    intro W4 hW
    have hS := Hd.mk (show Fr w3 W4 (fun k => k = g) by rw [hW]; exact Fr.drew (Fr.refl _ _))
    have hz_ : w3.heap.size ≤ W4.heap.size := by rw [hW]; simp
    have hE : Below w3.heap.size w3 W4 := by rw [hW]; (repeat (first | with_reducible refine below_alloc ?_ _ | with_reducible refine below_drew ?_)); exact Below.refl _ _
    have hB := Hd.mk (hB.out.trans (Fr.of_below hE _))
    have hC := Hd.mk (hC.out.below hE)
    have b0 := b0.dn hE
    have b1 := b1.dn hE
    have hL := Hd.mk (R_below hL.out hE)
    clear hW hE
    have z4 := Hd.mk hz_; clear hz_
    refine mixT_p rfl ?_
    go_big_quiet_want; go_big_quiet_op; go_big_quiet_on; refine wpQuiet_nil ?_
    refine mixT_see rfl (by rfl) (Value.slice AL k cL) (fun w_ hw_ => by have z1_ := z1.out; have z2_ := z2.out; have hzw_ := hzw.out; have z3_ := z3.out; have z4_ := z4.out; have f0_ := (sb1.out.fr hw_ (fun h => by have hg_ := hg.out; skip; have hlt_ := sb1.out.lt; (try simp only at h); omega)).cell 3 rfl; simp [execOp, go_sem, f0_]) hS.out ?_
    obtain ⟨v00, v01, v02, v03, v04, v0z⟩ := blk5 b0.out
    obtain ⟨v10, v11, v12, v13, v14, v1z⟩ := blk5 b1.out
    go_wp2_with fail
    refine mixQ_n ?_
    clear v00 v01 v02 v03 v04 v0z v10 v11 v12 v13 v14 v1z
    iterate 3 (refine mixT_p rfl ?_; go_big_quiet_want; go_big_quiet_op; go_big_quiet_on; refine wpQuiet_nil ?_)
    refine mixT_b rfl ?_ (by rfl)
    go_wp2_with fail
    apply calls_gen; intro W5 hW
    have hz_ : W4.heap.size ≤ W5.heap.size := by rw [hW]; simp
    have hE : Below W4.heap.size W4 W5 := by rw [hW]; (repeat (first | with_reducible refine below_alloc ?_ _ | with_reducible refine below_drew ?_)); exact Below.refl _ _
    have hB := Hd.mk (hB.out.trans (Fr.of_below hE _))
    have hC := Hd.mk (hC.out.below hE)
    replace hS := Hd.mk (hS.out.trans (Fr.of_below hE _))
    have b0 := b0.dn hE
    have b1 := b1.dn hE
    have hL := Hd.mk (R_below hL.out hE)
    clear hW hE
    have z5 := Hd.mk hz_; clear hz_
    rw [HN1.out]
    refine (ih W0 _ g hC.out).mono ?_
    rintro e w6 ⟨x, csx, rfl, hDX, hOX, hC1, hX⟩
    have hC := Hd.mk hC1; clear hC1
    have hSz0 := hB.out.size
    have hg_ := hg.out
    have z1_ := z1.out; have z2_ := z2.out; have hzw_ := hzw.out; have z3_ := z3.out; have z4_ := z4.out; have z5_ := z5.out
    have b0 := Hd.mk (b0.out.fr hX (fun h => by skip; (try simp only at h); omega))
    have b1 := Hd.mk (b1.out.fr hX (fun h => by skip; (try simp only at h); omega))
    have hL := Hd.mk (R_fr hL.out hX (fun k hk hl h => by have q_ := hk.1.1; have hg_ := hg.out; (try simp only [rng] at hk); (try simp only at hk); (try simp only at h); omega))
    have hB := Hd.mk (hB.out.trans hX)
    replace hS := Hd.mk (hS.out.trans hX)
    have hz_ := hX.size
    clear hSz0 hg_ hX
    have z6 := Hd.mk hz_; clear hz_
    obtain ⟨xv3, xv4, _, _, rfl, _, xr3, xr4, _⟩ := tJ_O.1 hOX
    obtain ⟨xD3, xd3, rfl, _, _⟩ := R_C xr3
    obtain ⟨xD4, xd4, rfl, _, _⟩ := R_C xr4
    clear xr3 xr4
    have hOX := Hd.mk (Ty.O_bound _ hOX)
    replace hDX := Hd.mk hDX
    go_wp2_with fail
    refine ⟨hS.out, ?_⟩
    refine mixT_b rfl ?_ (by rfl)
    go_wp2_with fail
    refine ⟨hS.out.alloc _, ?_⟩
    refine mixT_fin ?_
    clear hS
    obtain ⟨v00, v01, v02, v03, v04, v0z⟩ := blk5 b0.out
    obtain ⟨v10, v11, v12, v13, v14, v1z⟩ := blk5 b1.out
    refine tail_b rfl ?_ (by rfl)
    clear v00 v01 v02 v03 v04 v0z v10 v11 v12 v13 v14 v1z
    have z1_ := z1.out; have z2_ := z2.out; have hzw_ := hzw.out; have z3_ := z3.out; have z4_ := z4.out; have z5_ := z5.out; have z6_ := z6.out
    have hWl_ := hWl.out
    have hPW_ := hPW.out
    go_wp2_with (at_builtin; refine append_one (tJ (d + 1)) rfl _ _ 24 27 (.agg #[.int .i64 0, .int .i64 0, .string ByteArray.empty, .slice none 0 0, .slice none 0 0]) 80 rfl Tryd.underlying24 info_JsonS rfl (by rw [tJ_sz]; omega) (by decide) (S := fun q => (fun q => w.heap.size ≤ q ∧ q ≠ w.heap.size ∧ q ≠ w2.heap.size) q ∧ q < w3.heap.size) (T := fun q => W5.heap.size ≤ q ∧ q < w6.heap.size) (S' := (fun q => w.heap.size ≤ q ∧ q ≠ w.heap.size ∧ q ≠ w2.heap.size)) (v := .slice AL k cL) (xs := l) x [Value.int IntKind.i64 x.kind, .int .i64 x.n, .string x.s, .slice xD3 x.list.length xd3, .slice xD4 x.names.length xd4] rfl rfl hL.out hOX.out (fun k h1 hl h2 => by have h5 := h2.2; have h6 := h1.1; omega) (fun k h => h.1) (fun k h => by have h6 := h.1; exact ⟨by omega, by omega, by omega⟩) (fun k h => by exact ⟨by omega, by omega, by omega⟩) (by have := hl.out; omega) (fun v2 w7 hv2 hX => ?_))
    clear hOX hL
    have hL2 := Hd.mk hv2; clear hv2
    have z1_ := z1.out; have z2_ := z2.out; have hzw_ := hzw.out; have z3_ := z3.out; have z4_ := z4.out; have z5_ := z5.out; have z6_ := z6.out
    have hSz := hB.out.size
    have b0 := Hd.mk (b0.out.fr hX (fun h => by have hlt_ := b0.out.lt; have hh_ := h.1; (try simp only [rng] at h); (try simp only at h); omega))
    have b1 := Hd.mk (b1.out.fr hX (fun h => by have hlt_ := b1.out.lt; have hh_ := h.1; (try simp only [rng] at h); (try simp only at h); omega))
    have hC := Hd.mk (hC.out.fr hX (fun h => by have hg_ := hg.out; have hlt_ := hC.out.lt; have hh_ := h.1; (try simp only [rng] at h); (try simp only at h); omega) (fun k h => by have hg_ := hg.out; have hge_ := hC.out.ge; have hh_ := h.1; (try simp only [rng] at h); (try simp only at h); omega))
    have hB := Hd.mk (hB.out.then_ hX (fun k h hl => by have hh_ := h.1; (try simp only [rng] at h); (try simp only at h); omega))
    have hz_ := hX.size
    clear hX
    have z7 := Hd.mk hz_; clear hz_
    obtain ⟨A2, c2, hv2, hc2, _⟩ := R_C hL2.out
    subst hv2
    have hl2_ : (l ++ [x]).length = k + 1 := by rw [List.length_append, hl.out]; rfl
    rw [hl2_] at hc2 ⊢
    have hl2 := Hd.mk hl2_; clear hl2_
    obtain ⟨v00, v01, v02, v03, v04, v0z⟩ := blk5 b0.out
    obtain ⟨v10, v11, v12, v13, v14, v1z⟩ := blk5 b1.out
    refine mixQ_n ?_
    refine tail_b rfl ?_ (by rfl)
    go_wp2_with fail
    refine mixQ_n ?_
    refine tail_b rfl ?_ (by rfl)
    go_wp2_with fail
    refine mixQ_n ?_
    refine tail_nil ?_
    go_wp2_with fail
    clear v00 v01 v02 v03 v04 v0z v10 v11 v12 v13 v14 v1z
    go_roundw
    case rel =>
     have z1_ := z1.out
     have z2_ := z2.out
     have hzw_ := hzw.out
     have z3_ := z3.out
     have z4_ := z4.out
     have z5_ := z5.out
     have z6_ := z6.out
     have z7_ := z7.out
     have hPW_ := hPW.out
     refine ⟨k + 1, _, l ++ [x], by go_num, by omega, hl2, ⟨fun z hz => by rcases List.mem_append.1 hz with hz | hz; exact hDL.out z hz; rw [List.mem_singleton.1 hz]; exact hDX.out⟩, ⟨b0.out.other _ (by (try simp only); omega) _⟩, ⟨b1.out.set 3 _⟩, ⟨R_setCell (by have h5 := hL2.out; rw [hl2.out] at h5; exact h5) (fun h => h.2.2 rfl) _⟩, ⟨hC.out.fr (Fr.setCell (S := fun k => k = w2.heap.size) (Fr.refl _ _) _ (fun _ => rfl) _) (fun h => by have := hg.out; (try simp only at h); omega) (fun k h => by have := hg.out; have := hC.out.ge; (try simp only at h); omega)⟩, ⟨hB.out.then_ (Fr.setCell (S := fun k => k = w2.heap.size) (Fr.refl _ _) _ (fun _ => rfl) _) (fun k h hl => by (try simp only at h); omega)⟩, ⟨by simp; omega⟩⟩
    case measure => simp [intOf]; omega
   ·have z1_ := z1.out; have z2_ := z2.out; have hzw_ := hzw.out; have z3_ := z3.out
    have hPW_ := hPW.out
    obtain ⟨v00, v01, v02, v03, v04, v0z⟩ := blk5 b0.out
    obtain ⟨v10, v11, v12, v13, v14, v1z⟩ := blk5 b1.out
    go_wp2_with fail
    refine bodyPost_retW (v := .agg #[.int .i64 4, .int .i64 0, .string ⟨#[]⟩, .slice AL l.length cL, .slice none 0 0]) (by simp [results, Tryd.results62, go_sem, v00, v01, v02, v03, v04, v0z, v10, v11, v12, v13, v14, v1z]) rfl ?_
    intro W hW
    clear v00 v01 v02 v03 v04 v0z v10 v11 v12 v13 v14 v1z
    have eF : Fr w3 W (fun k => k = w.heap.size) := by rw [hW]; (repeat (first | with_reducible refine Fr.setCell (S := fun k => k = w.heap.size) ?_ _ (fun _ => rfl) _)); exact Fr.refl _ _
    refine ⟨⟨4, 0, ⟨#[]⟩, l, []⟩, [Value.int IntKind.i64 4, .int .i64 0, .string ⟨#[]⟩, .slice AL l.length cL, .slice none 0 0], rfl, ⟨by have := hl.out; show l.length ≤ 4; omega, by simp, (show (⟨#[]⟩ : ByteArray).size ≤ 60 by decide), by simp, hDL.out, by simp⟩, tJ_O.2 ⟨_, _, (fun q => w.heap.size ≤ q ∧ q ≠ w.heap.size ∧ q ≠ w2.heap.size), fun _ => False, rfl, (show (⟨#[]⟩ : ByteArray).size ≤ 9223372036854775807 by decide), R_fr hL.out eF (fun k hk _ h => hk.2.1 h), R_nil, fun k h => h.1, fun k h => h.elim, fun k _ h => h⟩, hC.out.fr eF (fun h => by have := hg.out; (try simp only at h); omega) (fun k h => by have := hg.out; have := hC.out.ge; (try simp only at h); omega), hB.out.then_ eF (fun k h hl => by (try simp only at h); omega)⟩
 ·have v00 : w2.cell? ⟨w.heap.size, 0, none⟩ = some (.int .i64 0) := b0.out.cell 0 rfl
  have v01 : w2.cell? ⟨w.heap.size, 1, none⟩ = some (.int .i64 0) := b0.out.cell 1 rfl
  have v02 : w2.cell? ⟨w.heap.size, 2, none⟩ = some (.string ⟨#[]⟩) := b0.out.cell 2 rfl
  have v03 : w2.cell? ⟨w.heap.size, 3, none⟩ = some (.slice none 0 0) := b0.out.cell 3 rfl
  have v04 : w2.cell? ⟨w.heap.size, 4, none⟩ = some (.slice none 0 0) := b0.out.cell 4 rfl
  have v0z := b0.out.frozen
  go_wp2_with fail
  clear v00 v01 v02 v03 v04 v0z
  have z1_ := z1.out; have z2_ := z2.out
  have hPW := Hd.mk (show w.heap.size < w2.heap.size by omega)
  clear z1_ z2_
  go_loopw [7] (fun i wr => ∃ (k : Nat) (v : Value) (l : List J), i = .int .i64 k ∧ k ≤ 4 ∧ Hd (l.length = k) ∧ Hd (∀ x ∈ l, DrG (d + 1) x) ∧ Hd (Blk wr w.heap.size #[.int .i64 0, .int .i64 0, .string ⟨#[]⟩, .slice none 0 0, .slice none 0 0] 27) ∧ Hd (Blk wr w2.heap.size #[.int .i64 4, .int .i64 0, .string ⟨#[]⟩, v, .slice none 0 0] 27) ∧ Hd ((tJ (d + 1)).R 27 wr (fun q => w.heap.size ≤ q ∧ q ≠ w.heap.size ∧ q ≠ w2.heap.size) v l) ∧ Hd (Cur W0 wr g) ∧ Hd (Fr w wr (fun k => k = g)) ∧ Hd (w2.heap.size < wr.heap.size)) (fun i _ => 4 - (intOf i).toNat)
  case atStart => exact ⟨0, .slice none 0 0, [], rfl, Nat.zero_le _, ⟨rfl⟩, ⟨by simp⟩, ⟨b0.out.alloc _⟩, ⟨Blk.new _ _ _⟩, ⟨R_nil⟩, ⟨hC.out.below (below_alloc (Below.refl _ _) _)⟩, ⟨hB.out.alloc _⟩, ⟨by simp⟩⟩
  case round =>
   clear b0 hB hC
   obtain ⟨k, v, l, rfl, hk4, hl, hDL, b0, b1, hL, hC, hB, hzw⟩ := hrel
   go_wp2_with fail
   refine (spec_l1Below 5 W0 _ g hC.out).mono ?_
   rintro e w3 ⟨y, rfl, y0, y1, _, hC1, hX⟩
   have hC := Hd.mk hC1; clear hC1
   have hSz0 := hB.out.size
   have hg_ := hg.out
   have z1_ := z1.out; have z2_ := z2.out; have hzw_ := hzw.out
   have b0 := Hd.mk (b0.out.fr hX (fun h => by skip; (try simp only at h); omega))
   have b1 := Hd.mk (b1.out.fr hX (fun h => by skip; (try simp only at h); omega))
   have hL := Hd.mk (R_fr hL.out hX (fun k hk hl h => by have q_ := hk.1; have hg_ := hg.out; (try simp only [rng] at hk); (try simp only at hk); (try simp only at h); omega))
   have hB := Hd.mk (hB.out.trans hX)
   have hz_ := hX.size
   clear hSz0 hg_ hX
   have z3 := Hd.mk hz_; clear hz_
   replace y1 := y1 (by omega)
   obtain ⟨AL, cL, hvL, hcL, _⟩ := R_C hL.out
   subst hvL
   by_cases hlt : (k : Int) < y
   ·have hk3 : k ≤ 3 := by omega
    rw [hl.out] at hcL
    have hL0 := hL.out; have b10 := b1.out
    rw [hl.out] at hL0 b10
    replace hL := Hd.mk (R_bound hL0); replace b1 := Hd.mk b10; clear hL0 b10
    have z1_ := z1.out; have z2_ := z2.out; have hzw_ := hzw.out; have z3_ := z3.out
    have hWl := Hd.mk (show w.heap.size ≤ w3.heap.size by omega)
    clear z1_ z2_ hzw_ z3_
    obtain ⟨v00, v01, v02, v03, v04, v0z⟩ := blk5 b0.out
    obtain ⟨v10, v11, v12, v13, v14, v1z⟩ := blk5 b1.out
    go_wp2_with fail
    clear v00 v01 v02 v03 v04 v0z v10 v11 v12 v13 v14 v1z
    have sb0 := Hd.mk b0.out
    have sb1 := Hd.mk b1.out
    refine region_mixC (fun w2 => Fr w3 w2 (fun k => k = g)) (.p 0 (.q 1 (.p 2 (.p 3 (.p 4 (.b 5 (.b 6 .fin))))))) [7, 8, 9] (by kernel_rfl) (Fr.drew (Fr.refl _ _)) (by kernel_rfl) (fun _ _ _ _ _ h => h) ?_
    refine genT ?_
    intro W4 hW
    have hS := Hd.mk (show Fr w3 W4 (fun k => k = g) by rw [hW]; exact Fr.drew (Fr.refl _ _))
    have hz_ : w3.heap.size ≤ W4.heap.size := by rw [hW]; simp
    have hE : Below w3.heap.size w3 W4 := by rw [hW]; (repeat (first | with_reducible refine below_alloc ?_ _ | with_reducible refine below_drew ?_)); exact Below.refl _ _
    have hB := Hd.mk (hB.out.trans (Fr.of_below hE _))
    have hC := Hd.mk (hC.out.below hE)
    have b0 := b0.dn hE
    have b1 := b1.dn hE
    have hL := Hd.mk (R_below hL.out hE)
    clear hW hE
    have z4 := Hd.mk hz_; clear hz_
    refine mixT_p rfl ?_
    go_big_quiet_want; go_big_quiet_op; go_big_quiet_on; refine wpQuiet_nil ?_
    refine mixT_see rfl (by rfl) (Value.slice AL k cL) (fun w_ hw_ => by have z1_ := z1.out; have z2_ := z2.out; have hzw_ := hzw.out; have z3_ := z3.out; have z4_ := z4.out; have f0_ := (sb1.out.fr hw_ (fun h => by have hg_ := hg.out; skip; have hlt_ := sb1.out.lt; (try simp only at h); omega)).cell 3 rfl; simp [execOp, go_sem, f0_]) hS.out ?_
    obtain ⟨v00, v01, v02, v03, v04, v0z⟩ := blk5 b0.out
    obtain ⟨v10, v11, v12, v13, v14, v1z⟩ := blk5 b1.out
    go_wp2_with fail
    refine mixQ_n ?_
    clear v00 v01 v02 v03 v04 v0z v10 v11 v12 v13 v14 v1z
    iterate 3 (refine mixT_p rfl ?_; go_big_quiet_want; go_big_quiet_op; go_big_quiet_on; refine wpQuiet_nil ?_)
    refine mixT_b rfl ?_ (by rfl)
    go_wp2_with fail
    apply calls_gen; intro W5 hW
    have hz_ : W4.heap.size ≤ W5.heap.size := by rw [hW]; simp
    have hE : Below W4.heap.size W4 W5 := by rw [hW]; (repeat (first | with_reducible refine below_alloc ?_ _ | with_reducible refine below_drew ?_)); exact Below.refl _ _
    have hB := Hd.mk (hB.out.trans (Fr.of_below hE _))
    have hC := Hd.mk (hC.out.below hE)
    replace hS := Hd.mk (hS.out.trans (Fr.of_below hE _))
    have b0 := b0.dn hE
    have b1 := b1.dn hE
    have hL := Hd.mk (R_below hL.out hE)
    clear hW hE
    have z5 := Hd.mk hz_; clear hz_
    rw [HN1.out]
    refine (ih W0 _ g hC.out).mono ?_
    rintro e w6 ⟨x, csx, rfl, hDX, hOX, hC1, hX⟩
    have hC := Hd.mk hC1; clear hC1
    have hSz0 := hB.out.size
    have hg_ := hg.out
    have z1_ := z1.out; have z2_ := z2.out; have hzw_ := hzw.out; have z3_ := z3.out; have z4_ := z4.out; have z5_ := z5.out
    have b0 := Hd.mk (b0.out.fr hX (fun h => by skip; (try simp only at h); omega))
    have b1 := Hd.mk (b1.out.fr hX (fun h => by skip; (try simp only at h); omega))
    have hL := Hd.mk (R_fr hL.out hX (fun k hk hl h => by have q_ := hk.1.1; have hg_ := hg.out; (try simp only [rng] at hk); (try simp only at hk); (try simp only at h); omega))
    have hB := Hd.mk (hB.out.trans hX)
    replace hS := Hd.mk (hS.out.trans hX)
    have hz_ := hX.size
    clear hSz0 hg_ hX
    have z6 := Hd.mk hz_; clear hz_
    obtain ⟨xv3, xv4, _, _, rfl, _, xr3, xr4, _⟩ := tJ_O.1 hOX
    obtain ⟨xD3, xd3, rfl, _, _⟩ := R_C xr3
    obtain ⟨xD4, xd4, rfl, _, _⟩ := R_C xr4
    clear xr3 xr4
    have hOX := Hd.mk (Ty.O_bound _ hOX)
    replace hDX := Hd.mk hDX
    go_wp2_with fail
    refine ⟨hS.out, ?_⟩
    refine mixT_b rfl ?_ (by rfl)
    go_wp2_with fail
    refine ⟨hS.out.alloc _, ?_⟩
    refine mixT_fin ?_
    clear hS
    obtain ⟨v00, v01, v02, v03, v04, v0z⟩ := blk5 b0.out
    obtain ⟨v10, v11, v12, v13, v14, v1z⟩ := blk5 b1.out
    refine tail_b rfl ?_ (by rfl)
    clear v00 v01 v02 v03 v04 v0z v10 v11 v12 v13 v14 v1z
    have z1_ := z1.out; have z2_ := z2.out; have hzw_ := hzw.out; have z3_ := z3.out; have z4_ := z4.out; have z5_ := z5.out; have z6_ := z6.out
    have hWl_ := hWl.out
    have hPW_ := hPW.out
    go_wp2_with (at_builtin; refine append_one (tJ (d + 1)) rfl _ _ 24 27 (.agg #[.int .i64 0, .int .i64 0, .string ByteArray.empty, .slice none 0 0, .slice none 0 0]) 80 rfl Tryd.underlying24 info_JsonS rfl (by rw [tJ_sz]; omega) (by decide) (S := fun q => (fun q => w.heap.size ≤ q ∧ q ≠ w.heap.size ∧ q ≠ w2.heap.size) q ∧ q < w3.heap.size) (T := fun q => W5.heap.size ≤ q ∧ q < w6.heap.size) (S' := (fun q => w.heap.size ≤ q ∧ q ≠ w.heap.size ∧ q ≠ w2.heap.size)) (v := .slice AL k cL) (xs := l) x [Value.int IntKind.i64 x.kind, .int .i64 x.n, .string x.s, .slice xD3 x.list.length xd3, .slice xD4 x.names.length xd4] rfl rfl hL.out hOX.out (fun k h1 hl h2 => by have h5 := h2.2; have h6 := h1.1; omega) (fun k h => h.1) (fun k h => by have h6 := h.1; exact ⟨by omega, by omega, by omega⟩) (fun k h => by exact ⟨by omega, by omega, by omega⟩) (by have := hl.out; omega) (fun v2 w7 hv2 hX => ?_))
    clear hOX hL
    have hL2 := Hd.mk hv2; clear hv2
    have z1_ := z1.out; have z2_ := z2.out; have hzw_ := hzw.out; have z3_ := z3.out; have z4_ := z4.out; have z5_ := z5.out; have z6_ := z6.out
    have hSz := hB.out.size
    have b0 := Hd.mk (b0.out.fr hX (fun h => by have hlt_ := b0.out.lt; have hh_ := h.1; (try simp only [rng] at h); (try simp only at h); omega))
    have b1 := Hd.mk (b1.out.fr hX (fun h => by have hlt_ := b1.out.lt; have hh_ := h.1; (try simp only [rng] at h); (try simp only at h); omega))
    have hC := Hd.mk (hC.out.fr hX (fun h => by have hg_ := hg.out; have hlt_ := hC.out.lt; have hh_ := h.1; (try simp only [rng] at h); (try simp only at h); omega) (fun k h => by have hg_ := hg.out; have hge_ := hC.out.ge; have hh_ := h.1; (try simp only [rng] at h); (try simp only at h); omega))
    have hB := Hd.mk (hB.out.then_ hX (fun k h hl => by have hh_ := h.1; (try simp only [rng] at h); (try simp only at h); omega))
    have hz_ := hX.size
    clear hX
    have z7 := Hd.mk hz_; clear hz_
    obtain ⟨A2, c2, hv2, hc2, _⟩ := R_C hL2.out
    subst hv2
    have hl2_ : (l ++ [x]).length = k + 1 := by rw [List.length_append, hl.out]; rfl
    rw [hl2_] at hc2 ⊢
    have hl2 := Hd.mk hl2_; clear hl2_
    obtain ⟨v00, v01, v02, v03, v04, v0z⟩ := blk5 b0.out
    obtain ⟨v10, v11, v12, v13, v14, v1z⟩ := blk5 b1.out
    refine mixQ_n ?_
    refine tail_b rfl ?_ (by rfl)
    go_wp2_with fail
    refine mixQ_n ?_
    refine tail_b rfl ?_ (by rfl)
    go_wp2_with fail
    refine mixQ_n ?_
    refine tail_nil ?_
    go_wp2_with fail
    clear v00 v01 v02 v03 v04 v0z v10 v11 v12 v13 v14 v1z
    go_roundw
    case rel =>
     have z1_ := z1.out
     have z2_ := z2.out
     have hzw_ := hzw.out
     have z3_ := z3.out
     have z4_ := z4.out
     have z5_ := z5.out
     have z6_ := z6.out
     have z7_ := z7.out
     have hPW_ := hPW.out
     refine ⟨k + 1, _, l ++ [x], by go_num, by omega, hl2, ⟨fun z hz => by rcases List.mem_append.1 hz with hz | hz; exact hDL.out z hz; rw [List.mem_singleton.1 hz]; exact hDX.out⟩, ⟨b0.out.other _ (by (try simp only); omega) _⟩, ⟨b1.out.set 3 _⟩, ⟨R_setCell (by have h5 := hL2.out; rw [hl2.out] at h5; exact h5) (fun h => h.2.2 rfl) _⟩, ⟨hC.out.fr (Fr.setCell (S := fun k => k = w2.heap.size) (Fr.refl _ _) _ (fun _ => rfl) _) (fun h => by have := hg.out; (try simp only at h); omega) (fun k h => by have := hg.out; have := hC.out.ge; (try simp only at h); omega)⟩, ⟨hB.out.then_ (Fr.setCell (S := fun k => k = w2.heap.size) (Fr.refl _ _) _ (fun _ => rfl) _) (fun k h hl => by (try simp only at h); omega)⟩, ⟨by simp; omega⟩⟩
    case measure => simp [intOf]; omega
   ·have z1_ := z1.out; have z2_ := z2.out; have hzw_ := hzw.out; have z3_ := z3.out
    have hPW_ := hPW.out
    obtain ⟨v00, v01, v02, v03, v04, v0z⟩ := blk5 b0.out
    obtain ⟨v10, v11, v12, v13, v14, v1z⟩ := blk5 b1.out
    go_wp2_with fail
    refine bodyPost_retW (v := .agg #[.int .i64 4, .int .i64 0, .string ⟨#[]⟩, .slice AL l.length cL, .slice none 0 0]) (by simp [results, Tryd.results62, go_sem, v00, v01, v02, v03, v04, v0z, v10, v11, v12, v13, v14, v1z]) rfl ?_
    intro W hW
    clear v00 v01 v02 v03 v04 v0z v10 v11 v12 v13 v14 v1z
    have eF : Fr w3 W (fun k => k = w.heap.size) := by rw [hW]; (repeat (first | with_reducible refine Fr.setCell (S := fun k => k = w.heap.size) ?_ _ (fun _ => rfl) _)); exact Fr.refl _ _
    refine ⟨⟨4, 0, ⟨#[]⟩, l, []⟩, [Value.int IntKind.i64 4, .int .i64 0, .string ⟨#[]⟩, .slice AL l.length cL, .slice none 0 0], rfl, ⟨by have := hl.out; show l.length ≤ 4; omega, by simp, (show (⟨#[]⟩ : ByteArray).size ≤ 60 by decide), by simp, hDL.out, by simp⟩, tJ_O.2 ⟨_, _, (fun q => w.heap.size ≤ q ∧ q ≠ w.heap.size ∧ q ≠ w2.heap.size), fun _ => False, rfl, (show (⟨#[]⟩ : ByteArray).size ≤ 9223372036854775807 by decide), R_fr hL.out eF (fun k hk _ h => hk.2.1 h), R_nil, fun k h => h.1, fun k h => h.elim, fun k _ h => h⟩, hC.out.fr eF (fun h => by have := hg.out; (try simp only at h); omega) (fun k h => by have := hg.out; have := hC.out.ge; (try simp only at h); omega), hB.out.then_ eF (fun k h hl => by (try simp only at h); omega)⟩
 ·have v00 : w2.cell? ⟨w.heap.size, 0, none⟩ = some (.int .i64 0) := b0.out.cell 0 rfl
  have v01 : w2.cell? ⟨w.heap.size, 1, none⟩ = some (.int .i64 0) := b0.out.cell 1 rfl
  have v02 : w2.cell? ⟨w.heap.size, 2, none⟩ = some (.string ⟨#[]⟩) := b0.out.cell 2 rfl
  have v03 : w2.cell? ⟨w.heap.size, 3, none⟩ = some (.slice none 0 0) := b0.out.cell 3 rfl
  have v04 : w2.cell? ⟨w.heap.size, 4, none⟩ = some (.slice none 0 0) := b0.out.cell 4 rfl
  have v0z := b0.out.frozen
  go_wp2_with fail
  clear v00 v01 v02 v03 v04 v0z
  have z1_ := z1.out; have z2_ := z2.out
  have hPW := Hd.mk (show w.heap.size < w2.heap.size by omega)
  clear z1_ z2_
  go_loopw [9, 10] (fun i nm wr => ∃ (k : Nat) (j : J) (A3 A4 : Option Addr) (c3 c4 : Nat), i = .int .i64 k ∧ k ≤ 4 ∧ Hd (j.kind = 5 ∧ j.list.length ≤ k) ∧ Hd (DrG (d + 2) j) ∧ Hd (Blk wr w.heap.size #[.int .i64 0, .int .i64 0, .string ⟨#[]⟩, .slice none 0 0, .slice none 0 0] 27) ∧ Hd (Blk wr w2.heap.size #[.int .i64 j.kind, .int .i64 j.n, .string j.s, .slice A3 j.list.length c3, .slice A4 j.names.length c4] 27) ∧ Hd ((tJ (d + 2)).O wr (fun q => w.heap.size ≤ q ∧ q ≠ w.heap.size ∧ q ≠ w2.heap.size) j [Value.int IntKind.i64 j.kind, .int .i64 j.n, .string j.s, .slice A3 j.list.length c3, .slice A4 j.names.length c4]) ∧ Hd (Cur W0 wr g) ∧ Hd (Fr w wr (fun k => k = g)) ∧ Hd (w2.heap.size < wr.heap.size)) (fun i _ _ => 4 - (intOf i).toNat)
  case atStart => exact ⟨0, ⟨5, 0, ⟨#[]⟩, [], []⟩, none, none, 0, 0, rfl, Nat.zero_le _, ⟨rfl, Nat.le_refl _⟩, ⟨DrG_flat _ _ _ (by decide)⟩, ⟨b0.out.alloc _⟩, ⟨Blk.new _ _ _⟩, ⟨O_flat0 _ _ _ (by decide)⟩, ⟨hC.out.below (below_alloc (Below.refl _ _) _)⟩, ⟨hB.out.alloc _⟩, ⟨by simp⟩⟩
  case round =>
   clear b0 hB hC
   obtain ⟨k, j, A3, A4, c3, c4, rfl, hk4, hj5, hDJ, b0, b1, hO, hC, hB, hzw⟩ := hrel
   go_wp2_with fail
   refine (spec_l1Below 5 W0 _ g hC.out).mono ?_
   rintro e w3 ⟨y, rfl, y0, y1, _, hC1, hX⟩
   have hC := Hd.mk hC1; clear hC1
   have hSz0 := hB.out.size
   have hg_ := hg.out
   have z1_ := z1.out; have z2_ := z2.out; have hzw_ := hzw.out
   have b0 := Hd.mk (b0.out.fr hX (fun h => by skip; (try simp only at h); omega))
   have b1 := Hd.mk (b1.out.fr hX (fun h => by skip; (try simp only at h); omega))
   have hO := Hd.mk (Ty.O_fr hO.out hX (fun k hk hl h => by have q_ := hk.1; have hg_ := hg.out; (try simp only [rng] at hk); (try simp only at hk); (try simp only at h); omega))
   have hB := Hd.mk (hB.out.trans hX)
   have hz_ := hX.size
   clear hSz0 hg_ hX
   have z3 := Hd.mk hz_; clear hz_
   replace y1 := y1 (by omega)
   by_cases hlt : (k : Int) < y
   ·have hk3 : k ≤ 3 := by omega
    obtain ⟨v00, v01, v02, v03, v04, v0z⟩ := blk5 b0.out
    obtain ⟨v10, v11, v12, v13, v14, v1z⟩ := blk5 b1.out
    go_wp2_with fail
    clear v00 v01 v02 v03 v04 v0z v10 v11 v12 v13 v14 v1z
    refine (spec_l1DrawName W0 _ g hC.out).mono ?_
    rintro e w4 ⟨s, rfl, hs, hC1, hX⟩
    have hC := Hd.mk hC1; clear hC1
    have hSz0 := hB.out.size
    have hg_ := hg.out
    have z1_ := z1.out; have z2_ := z2.out; have hzw_ := hzw.out; have z3_ := z3.out
    have b0 := Hd.mk (b0.out.fr hX (fun h => by skip; (try simp only at h); omega))
    have b1 := Hd.mk (b1.out.fr hX (fun h => by skip; (try simp only at h); omega))
    have hO := Hd.mk (Ty.O_fr hO.out hX (fun k hk hl h => by have q_ := hk.1; have hg_ := hg.out; (try simp only [rng] at hk); (try simp only at hk); (try simp only at h); omega))
    have hB := Hd.mk (hB.out.trans hX)
    have hz_ := hX.size
    clear hSz0 hg_ hX
    have z4 := Hd.mk hz_; clear hz_
    have hs6 : s.size ≤ 60 := (show ∀ s ∈ drawNames, s.size ≤ 60 by decide) s hs
    clear hs
    obtain ⟨v00, v01, v02, v03, v04, v0z⟩ := blk5 b0.out
    obtain ⟨v10, v11, v12, v13, v14, v1z⟩ := blk5 b1.out
    go_wp2_with fail
    clear v00 v01 v02 v03 v04 v0z v10 v11 v12 v13 v14 v1z
    refine (spec_l1At j [Value.int IntKind.i64 j.kind, .int .i64 j.n, .string j.s, .slice A3 j.list.length c3, .slice A4 j.names.length c4] s _ (Ty.O_K _ hO.out)).mono ?_
    rintro e w5 ⟨rfl, hX⟩
    have b0 := b0.dn hX
    have b1 := b1.dn hX
    have hO := hO.ob hX
    have hB := Hd.mk (hB.out.trans (Fr.of_below hX _))
    have hC := Hd.mk (hC.out.below hX)
    have hz_ := hX.size
    clear hX
    have z5 := Hd.mk hz_; clear hz_
    obtain ⟨at_, hat⟩ : ∃ z, z = nameAt j.names s := ⟨_, rfl⟩
    rw [← hat]
    clear hat
    by_cases hneg : at_ < 0
    ·have z1_ := z1.out; have z2_ := z2.out; have hzw_ := hzw.out; have z3_ := z3.out; have z4_ := z4.out; have z5_ := z5.out
     have hWl := Hd.mk (show w.heap.size ≤ w5.heap.size by omega)
     clear z1_ z2_ hzw_ z3_ z4_ z5_
     replace hO := Hd.mk (show (tJ (d + 2)).O w5 (fun q => (fun q => w.heap.size ≤ q ∧ q ≠ w.heap.size ∧ q ≠ w2.heap.size) q ∧ q < w5.heap.size) j _ from Ty.O_bound _ hO.out)
     obtain ⟨v00, v01, v02, v03, v04, v0z⟩ := blk5 b0.out
     obtain ⟨v10, v11, v12, v13, v14, v1z⟩ := blk5 b1.out
     go_wp2_with fail
     clear v00 v01 v02 v03 v04 v0z v10 v11 v12 v13 v14 v1z
     have sb0 := Hd.mk b0.out
     have sb1 := Hd.mk b1.out
     refine region_mixC (fun w2 => Fr w5 w2 (fun k => k = g)) (.q 0 (.p 1 (.p 2 (.p 3 (.p 4 (.b 5 (.b 6 .fin))))))) [7] (by kernel_rfl) (Fr.drew (Fr.refl _ _)) (by kernel_rfl) (fun _ _ _ _ _ h => h) ?_
     refine genT ?_
     intro W6 hW
     have hS := Hd.mk (show Fr w5 W6 (fun k => k = g) by rw [hW]; exact Fr.drew (Fr.refl _ _))
     have hz_ : w5.heap.size ≤ W6.heap.size := by rw [hW]; simp
     have hE : Below w5.heap.size w5 W6 := by rw [hW]; (repeat (first | with_reducible refine below_alloc ?_ _ | with_reducible refine below_drew ?_)); exact Below.refl _ _
     have hB := Hd.mk (hB.out.trans (Fr.of_below hE _))
     have hC := Hd.mk (hC.out.below hE)
     have b0 := b0.dn hE
     have b1 := b1.dn hE
     have hO := hO.ob hE
     clear hW hE
     have z6 := Hd.mk hz_; clear hz_
     refine mixT_see rfl (by rfl) (Value.agg #[.int .i64 j.kind, .int .i64 j.n, .string j.s, .slice A3 j.list.length c3, .slice A4 j.names.length c4]) (fun w_ hw_ => by have z1_ := z1.out; have z2_ := z2.out; have hzw_ := hzw.out; have z3_ := z3.out; have z4_ := z4.out; have z5_ := z5.out; have z6_ := z6.out; have f0_ := (sb1.out.fr hw_ (fun h => by have hg_ := hg.out; skip; have hlt_ := sb1.out.lt; (try simp only at h); omega)).cell 0 rfl; have f1_ := (sb1.out.fr hw_ (fun h => by have hg_ := hg.out; skip; have hlt_ := sb1.out.lt; (try simp only at h); omega)).cell 1 rfl; have f2_ := (sb1.out.fr hw_ (fun h => by have hg_ := hg.out; skip; have hlt_ := sb1.out.lt; (try simp only at h); omega)).cell 2 rfl; have f3_ := (sb1.out.fr hw_ (fun h => by have hg_ := hg.out; skip; have hlt_ := sb1.out.lt; (try simp only at h); omega)).cell 3 rfl; have f4_ := (sb1.out.fr hw_ (fun h => by have hg_ := hg.out; skip; have hlt_ := sb1.out.lt; (try simp only at h); omega)).cell 4 rfl; simp [execOp, go_sem, f0_, f1_, f2_, f3_, f4_]) hS.out ?_
     obtain ⟨v00, v01, v02, v03, v04, v0z⟩ := blk5 b0.out
     obtain ⟨v10, v11, v12, v13, v14, v1z⟩ := blk5 b1.out
     go_wp2_with fail
     refine mixQ_n ?_
     clear v00 v01 v02 v03 v04 v0z v10 v11 v12 v13 v14 v1z
     iterate 4 (refine mixT_p rfl ?_; go_big_quiet_want; go_big_quiet_op; go_big_quiet_on; refine wpQuiet_nil ?_)
     refine mixT_b rfl ?_ (by rfl)
     go_wp2_with fail
     apply calls_gen; intro W7 hW
     have hz_ : W6.heap.size ≤ W7.heap.size := by rw [hW]; simp
     have hE : Below W6.heap.size W6 W7 := by rw [hW]; (repeat (first | with_reducible refine below_alloc ?_ _ | with_reducible refine below_drew ?_)); exact Below.refl _ _
     have hB := Hd.mk (hB.out.trans (Fr.of_below hE _))
     have hC := Hd.mk (hC.out.below hE)
     replace hS := Hd.mk (hS.out.trans (Fr.of_below hE _))
     have b0 := b0.dn hE
     have b1 := b1.dn hE
     have hO := hO.ob hE
     clear hW hE
     have z7 := Hd.mk hz_; clear hz_
     rw [HN1.out]
     refine (ih W0 _ g hC.out).mono ?_
     rintro e w8 ⟨x, csx, rfl, hDX, hOX, hC1, hX⟩
     have hC := Hd.mk hC1; clear hC1
     have hSz0 := hB.out.size
     have hg_ := hg.out
     have z1_ := z1.out; have z2_ := z2.out; have hzw_ := hzw.out; have z3_ := z3.out; have z4_ := z4.out; have z5_ := z5.out; have z6_ := z6.out; have z7_ := z7.out
     have b0 := Hd.mk (b0.out.fr hX (fun h => by skip; (try simp only at h); omega))
     have b1 := Hd.mk (b1.out.fr hX (fun h => by skip; (try simp only at h); omega))
     have hO := Hd.mk (Ty.O_fr hO.out hX (fun k hk hl h => by have q_ := hk.1.1; have hg_ := hg.out; (try simp only [rng] at hk); (try simp only at hk); (try simp only at h); omega))
     have hB := Hd.mk (hB.out.trans hX)
     replace hS := Hd.mk (hS.out.trans hX)
     have hz_ := hX.size
     clear hSz0 hg_ hX
     have z8 := Hd.mk hz_; clear hz_
     obtain ⟨xv3, xv4, _, _, rfl, _, xr3, xr4, _⟩ := tJ_O.1 hOX
     obtain ⟨xD3, xd3, rfl, _, _⟩ := R_C xr3
     obtain ⟨xD4, xd4, rfl, _, _⟩ := R_C xr4
     clear xr3 xr4
     have hOX := Hd.mk (show (tJ (d + 1)).O w8 (rng W7.heap.size w8.heap.size) x _ from Ty.O_bound _ hOX)
     replace hDX := Hd.mk hDX
     go_wp2_with fail
     refine ⟨hS.out, ?_⟩
     refine mixT_b rfl ?_ (by rfl)
     go_wp2_with fail
     apply calls_gen; intro W9 hW
     have hz_ : w8.heap.size ≤ W9.heap.size := by rw [hW]; simp
     have hE : Below w8.heap.size w8 W9 := by rw [hW]; (repeat (first | with_reducible refine below_alloc ?_ _ | with_reducible refine below_drew ?_)); exact Below.refl _ _
     have hB := Hd.mk (hB.out.trans (Fr.of_below hE _))
     have hC := Hd.mk (hC.out.below hE)
     replace hS := Hd.mk (hS.out.trans (Fr.of_below hE _))
     have b0 := b0.dn hE
     have b1 := b1.dn hE
     have hO := hO.ob hE
     have hOX := hOX.ob hE
     clear hW hE
     have z9 := Hd.mk hz_; clear hz_
     have hDP := DrG_put hDJ.out hj5.out.1 hDX.out hs6 (by have := hj5.out.2; omega)
     have z1_ := z1.out; have z2_ := z2.out; have hzw_ := hzw.out; have z3_ := z3.out; have z4_ := z4.out; have z5_ := z5.out; have z6_ := z6.out; have z7_ := z7.out; have z8_ := z8.out; have z9_ := z9.out
     have hWl_ := hWl.out
     have hPW_ := hPW.out
     have hlen_ : j.names.length = j.list.length := hDJ.out.2.2.2.2.2 hj5.out.1
     have hl4_ := hj5.out.2
     have hPut := spec_l1Put j x s [Value.int IntKind.i64 j.kind, .int .i64 j.n, .string j.s, .slice A3 j.list.length c3, .slice A4 j.names.length c4] [Value.int IntKind.i64 x.kind, .int .i64 x.n, .string x.s, .slice xD3 x.list.length xd3, .slice xD4 x.names.length xd4] _ hO.out hOX.out (fun q h1 h2 => by have h5 := h1.2; have h6 := h2.1; omega) (by omega) hlen_ (by omega)
     obtain ⟨z, hz⟩ : ∃ z, z = putJ j x s := ⟨_, rfl⟩
     rw [← hz] at hPut hDP
     clear hz hlen_ hl4_
     have HDP := Hd.mk hDP; clear hDP
     refine (hPut).mono ?_
     rintro e w10 ⟨csz, rfl, hOZ, hX⟩
     have b0 := b0.dn hX
     have b1 := b1.dn hX
     have hB := Hd.mk (hB.out.trans (Fr.of_below hX _))
     have hC := Hd.mk (hC.out.below hX)
     replace hS := Hd.mk (hS.out.trans (Fr.of_below hX _))
     have hz_ := hX.size
     clear hX
     have z10 := Hd.mk hz_; clear hz_
     obtain ⟨zv3, zv4, _, _, rfl, _, zr3, zr4, _⟩ := tJ_O.1 hOZ
     obtain ⟨zD3, zd3, rfl, _, _⟩ := R_C zr3
     obtain ⟨zD4, zd4, rfl, _, _⟩ := R_C zr4
     clear zr3 zr4
     have hOZ := Hd.mk (show (tJ (d + 2)).O w10 (fun q => w.heap.size ≤ q ∧ q ≠ w.heap.size ∧ q ≠ w2.heap.size) z _ from Ty.O_mono _ (fun q h => by rcases h with h | h | h; exact ⟨by omega, by omega, by omega⟩; exact h.1; have h6 := h.1; exact ⟨by omega, by omega, by omega⟩) hOZ)
     clear hPut hO hOX
     go_wp2_with fail
     refine ⟨hS.out, ?_⟩
     refine mixT_fin ?_
     clear hS
     obtain ⟨v00, v01, v02, v03, v04, v0z⟩ := blk5 b0.out
     obtain ⟨v10, v11, v12, v13, v14, v1z⟩ := blk5 b1.out
     refine tail_b rfl ?_ (by rfl)
     go_wp2_with fail
     refine mixQ_n ?_
     refine tail_nil ?_
     clear v00 v01 v02 v03 v04 v0z v10 v11 v12 v13 v14 v1z
     refine exit_gen ?_; intro W11 hW
     have z1_ := z1.out; have z2_ := z2.out; have hzw_ := hzw.out; have z3_ := z3.out; have z4_ := z4.out; have z5_ := z5.out; have z6_ := z6.out; have z7_ := z7.out; have z8_ := z8.out; have z9_ := z9.out; have z10_ := z10.out
     have hPW_ := hPW.out
     have hz_ : w10.heap.size ≤ W11.heap.size := by rw [hW]; simp
     have eF : Fr w10 W11 (fun k => k = w2.heap.size ∨ w10.heap.size ≤ k) := by rw [hW]; (repeat (first | with_reducible refine Fr.setCell ?_ _ (fun _ => by simp <;> omega) _ | with_reducible refine Fr.alloc ?_ _ | with_reducible refine Fr.drew ?_)); exact Fr.refl _ _
     have z1_ := z1.out; have z2_ := z2.out; have hzw_ := hzw.out; have z3_ := z3.out; have z4_ := z4.out; have z5_ := z5.out; have z6_ := z6.out; have z7_ := z7.out; have z8_ := z8.out; have z9_ := z9.out; have z10_ := z10.out
     have hC := Hd.mk (hC.out.fr eF (fun h => by have hg_ := hg.out; have hlt_ := hC.out.lt; (try simp only [rng] at h); (try simp only at h); omega) (fun k h => by have hg_ := hg.out; have hge_ := hC.out.ge; (try simp only [rng] at h); (try simp only at h); omega))
     have hB := Hd.mk (hB.out.then_ eF (fun k h hl => by (try simp only [rng] at h); (try simp only at h); omega))
     have b0 := Hd.mk (b0.out.fr eF (fun h => by have hlt_ := b0.out.lt; (try simp only at h); omega))
     have b1 := Hd.mk (show Blk W11 (w2.heap.size) #[.int .i64 z.kind, .int .i64 z.n, .string z.s, .slice zD3 z.list.length zd3, .slice zD4 z.names.length zd4] 27 by rw [hW]; exact (Blk.all b1.out [Value.int IntKind.i64 z.kind, .int .i64 z.n, .string z.s, .slice zD3 z.list.length zd3, .slice zD4 z.names.length zd4] rfl))
     have hOZ := Hd.mk (Ty.O_fr hOZ.out eF (fun k hk hl h => by have q_ := hk; (try simp only [rng] at hk); (try simp only at hk); (try simp only at h); omega))
     clear hW eF
     have z11 := Hd.mk hz_; clear hz_
     go_wp2_with fail
     go_roundw
     case rel => exact ⟨k + 1, z, zD3, zD4, zd3, zd4, by go_num, by omega, ⟨HDP.out.2.1, by have h1 := HDP.out.2.2; have h2 := hj5.out.2; omega⟩, ⟨HDP.out.1⟩, b0, b1, hOZ, hC, hB, ⟨by have z1_ := z1.out; have z2_ := z2.out; have hzw_ := hzw.out; have z3_ := z3.out; have z4_ := z4.out; have z5_ := z5.out; have z6_ := z6.out; have z7_ := z7.out; have z8_ := z8.out; have z9_ := z9.out; have z10_ := z10.out; have z11_ := z11.out; omega⟩⟩
     case measure => simp [intOf]; omega
    ·have v00 : w5.cell? ⟨w.heap.size, 0, none⟩ = some (.int .i64 0) := b0.out.cell 0 rfl
     have v01 : w5.cell? ⟨w.heap.size, 1, none⟩ = some (.int .i64 0) := b0.out.cell 1 rfl
     have v02 : w5.cell? ⟨w.heap.size, 2, none⟩ = some (.string ⟨#[]⟩) := b0.out.cell 2 rfl
     have v03 : w5.cell? ⟨w.heap.size, 3, none⟩ = some (.slice none 0 0) := b0.out.cell 3 rfl
     have v04 : w5.cell? ⟨w.heap.size, 4, none⟩ = some (.slice none 0 0) := b0.out.cell 4 rfl
     have v0z := b0.out.frozen
     obtain ⟨v10, v11, v12, v13, v14, v1z⟩ := blk5 b1.out
     go_wp2_with fail
     clear v00 v01 v02 v03 v04 v0z v10 v11 v12 v13 v14 v1z
     go_roundw
     case rel => exact ⟨k + 1, j, A3, A4, c3, c4, by go_num, by omega, ⟨hj5.out.1, by have h2 := hj5.out.2; omega⟩, hDJ, b0, b1, hO, hC, hB, ⟨by have z1_ := z1.out; have z2_ := z2.out; have hzw_ := hzw.out; have z3_ := z3.out; have z4_ := z4.out; have z5_ := z5.out; omega⟩⟩
     case measure => simp [intOf]; omega
   ·have z1_ := z1.out; have z2_ := z2.out; have hzw_ := hzw.out; have z3_ := z3.out
    have hPW_ := hPW.out
    obtain ⟨v00, v01, v02, v03, v04, v0z⟩ := blk5 b0.out
    obtain ⟨v10, v11, v12, v13, v14, v1z⟩ := blk5 b1.out
    go_wp2_with fail
    refine bodyPost_retW (v := .agg #[.int .i64 j.kind, .int .i64 j.n, .string j.s, .slice A3 j.list.length c3, .slice A4 j.names.length c4]) (by simp [results, Tryd.results62, go_sem, v00, v01, v02, v03, v04, v0z, v10, v11, v12, v13, v14, v1z]) rfl ?_
    intro W hW
    clear v00 v01 v02 v03 v04 v0z v10 v11 v12 v13 v14 v1z
    have eF : Fr w3 W (fun k => k = w.heap.size) := by rw [hW]; (repeat (first | with_reducible refine Fr.setCell (S := fun k => k = w.heap.size) ?_ _ (fun _ => rfl) _)); exact Fr.refl _ _
    refine ⟨j, [Value.int IntKind.i64 j.kind, .int .i64 j.n, .string j.s, .slice A3 j.list.length c3, .slice A4 j.names.length c4], rfl, hDJ.out, Ty.O_mono _ (fun q h => h.1) (Ty.O_fr hO.out eF (fun k hk _ h => hk.2.1 h)), hC.out.fr eF (fun h => by have := hg.out; (try simp only at h); omega) (fun k h => by have := hg.out; have := hC.out.ge; (try simp only at h); omega), hB.out.then_ eF (fun k h hl => by (try simp only at h); omega)⟩
theorem spec_l1DrawRight : ∀ d : Nat, d ≤ 100 → DrawR d
 | 0, _ => spec_l1DrawRight_0
 | d + 1, h => spec_l1DrawRight_s (by omega) (spec_l1DrawRight d (by omega))
end Go.Proofs.YtoaifagjdjgcbaaDoor.X
