/- What is proved here: the contract of spec.RowPut. Conditions: none. -/
import Derived.Test.YtnpogfhfjofbmaaXH
namespace Go.Proofs.Ytnpogfhfjofbmaa.X
open Go.RowKit Go.Sort
set_option linter.unusedVariables false
set_option linter.unusedSimpArgs false
open Ty
theorem rowPut_there (l : List Row) (r : Row) (h : l.findIdx (fun x => x.id == r.id) < l.length) : rowPut l r = (rowDrop l r.id).take (l.findIdx (fun x => x.id == r.id)) ++ r :: (rowDrop l r.id).drop (l.findIdx (fun x => x.id == r.id)) := by
  unfold rowPut rowDrop
  rw [if_pos h]
  generalize l.findIdx (fun x => x.id == r.id) = q at h
  rw [List.set_eq_take_append_cons_drop, if_pos h, List.eraseIdx_eq_take_drop_succ]
  have h1 : (l.take q).length = q := by simp; omega
  rw [List.take_append_of_le_length (by omega), List.take_of_length_le (l := l.take q) (by omega), List.drop_append_of_le_length (by omega), List.drop_of_length_le (l := l.take q) (by omega), List.nil_append]
theorem rowPut_none (l : List Row) (r : Row) (h : l.findIdx (fun x => x.id == r.id) = l.length) : rowDrop l r.id = l ∧ rowPut l r = l.take (l.findIdx (fun x => decide (r.id < x.id))) ++ r :: l.drop (l.findIdx (fun x => decide (r.id < x.id))) := by
  refine ⟨?_, ?_⟩
  · unfold rowDrop; rw [h, List.eraseIdx_of_length_le (Nat.le_refl _)]
  · unfold rowPut; rw [if_neg (by omega)]
theorem find_down {α : Type} (p : α → Bool) (l : List α) (k : Nat) (hk : k < l.length) : k + (l.drop k).findIdx p = if p l[k] = true then k else (k + 1) + (l.drop (k + 1)).findIdx p := by
  rw [List.drop_eq_getElem_cons hk, List.findIdx_cons]
  cases p l[k] <;> simp <;> omega
theorem put_eq {α : Type} (l : List α) (x : α) (p : Nat) : (([] ++ (l.drop 0).take (p - 0)) ++ [x]) ++ (l.drop p).take (l.length - p) = l.take p ++ x :: l.drop p := by
  rw [List.take_of_length_le (l := l.drop p) (by simp)]; simp
theorem bulk_ins (l : List Row) (r : Row) (p : Nat) : bulkRowS (l.take p ++ r :: l.drop p) = bulkRowS l + 1 + bulkRow r := by
  have h1 := bulkL_append bulkRow (l.take p) (l.drop p)
  rw [List.take_append_drop] at h1
  have h2 : (l.take p).length + (l.drop p).length = l.length := by simp; omega
  simp only [bulkRowS, bulkL_append, bulkL, List.length_append, List.length_cons]
  omega
theorem bulk_rowPut (l : List Row) (r : Row) : bulkRowS (rowPut l r) ≤ bulkRowS l + 1 + bulkRow r := by
  have h0 := List.findIdx_le_length (xs := l) (p := fun x : Row => x.id == r.id)
  rcases Nat.lt_or_ge (l.findIdx (fun x : Row => x.id == r.id)) l.length with h | h
  · rw [rowPut_there l r h, bulk_ins]
    have := bulk_rowDrop l r.id
    omega
  · rw [(rowPut_none l r (by omega)).2, bulk_ins]
    exact Nat.le_refl _
/-- The elements from lo on, in their block. -/
def Loose (w : World) (g : Nat) (cur : Array Value) (T : Nat → Nat → Prop) (xs : List Row) (lo : Nat) : Prop :=
  w.heap[g]? = some (.cells cur 41 (0, 0)) ∧ xs.length * 2 ≤ cur.size ∧ (∀ i b, T i b → b ≠ g ∧ b < w.heap.size) ∧ (∀ i j b, T i b → T j b → i = j) ∧ ∀ i x, lo ≤ i → xs[i]? = some x → tRow.O w (T i) x ((cur.toList.drop (i * 2)).take 2)
theorem Loose.fr {w w1 : World} {g : Nat} {cur : Array Value} {T : Nat → Nat → Prop} {xs : List Row} {lo lo' : Nat} {S : Nat → Prop} (h : Loose w g cur T xs lo) (hf : Fr w w1 S) (hg : ¬ S g) (hlo : lo ≤ lo') (hs : ∀ i b, lo' ≤ i → T i b → ¬ S b) : Loose w1 g cur T xs lo' := by
  obtain ⟨h1, h2, h3, h4, h5⟩ := h
  have hgl : g < w.heap.size := (Array.getElem?_eq_some_iff.1 h1).1
  exact ⟨(hf.block g hgl hg).trans h1, h2, fun i b hb => ⟨(h3 i b hb).1, Nat.lt_of_lt_of_le (h3 i b hb).2 hf.size⟩, h4, fun i x hi hx => tRow.O_move (fun k hk => hf.block k (h3 i k hk).2 (hs i k hi hk)) (h5 i x (by omega) hx)⟩
theorem Loose.below {w w1 : World} {g : Nat} {cur : Array Value} {T : Nat → Nat → Prop} {xs : List Row} {lo : Nat} (h : Loose w g cur T xs lo) (hb : Below w.heap.size w w1) : Loose w1 g cur T xs lo := by
  have hgl : g < w.heap.size := (Array.getElem?_eq_some_iff.1 h.1).1
  exact h.fr (Fr.of_below hb (fun _ => False)) (fun h => h) (Nat.le_refl _) (fun _ _ _ _ h => h)
section
variable {P : Program} {ops : Array Oper} {rest : List Oper} {o : Oper} {a : Act} {Q : Exit → Act → World → Prop}
/-- append(v, out[lo:hi]...): elements that nobody needs any more behind it. -/
theorem append_loose {W : World} (hgd : o.guard = none) (s x : Operand) (ho : o.op = .call { callee := .builtin .append, args := #[s, x], argTypes := #[68, 68] })
    (ht : P.underlying 68 = some (.slice 41)) (hinfo : (P.info? 41).map (fun i => (i.zero, i.size, i.bytes)) = some (some (.agg #[.int .i64 0, .slice none 0 0]), 2, 32))
    {S S' : Nat → Prop} {v : Value} {xs out : List Row} {g : Nat} {cur : Array Value} {T : Nat → Nat → Prop} {lo0 : Nat} (lo hi : Nat) (A : Option Addr) (c : Nat)
    (hs : a.eval s = v) (hx : a.eval x = .slice A (hi - lo) c) (hA : lo < hi → A = some ⟨g, lo * 2, none⟩) (HR : tRow.R 41 W S v xs) (HL : Loose W g cur T out lo0) (hlo : lo0 ≤ lo) (hlh : lo ≤ hi) (hhi : hi ≤ out.length)
    (hST : ∀ i k, lo ≤ i → i < hi → T i k → ¬ S k) (hS : ∀ k, S k → S' k) (hT : ∀ i k, lo ≤ i → i < hi → T i k → S' k) (hnew : ∀ k, W.heap.size ≤ k → S' k) (hbytes : xs.length + out.length ≤ 4194304)
    (h : ∀ v1 w1, tRow.R 41 w1 S' v1 (xs ++ (out.drop lo).take (hi - lo)) → Fr W w1 S → wpList P ops Q rest (a.put o.dst v1) w1) :
    wpList P ops Q (o :: rest) a W := by
  obtain ⟨h1, h2, h3, h4, h5⟩ := HL
  have hl : ((cur.toList.drop (lo * 2)).take ((hi - lo) * 2)).length = (hi - lo) * 2 := by simp; omega
  refine append_gen tRow (S := S) (S' := S') (v := v) (xs := xs) (ys := (out.drop lo).take (hi - lo)) hgd s x 68 41 (.agg #[.int .i64 0, .slice none 0 0]) 32 ho ht hinfo rfl (by decide) (by decide) (fun i k => i < hi - lo ∧ T (lo + i) k) A (hi - lo) c ((cur.toList.drop (lo * 2)).take ((hi - lo) * 2)) hs hx HR (by simp; omega) hl
    (fun j u hu => ?_) (fun u hu => ?_) (fun i y hi' => ?_) (fun i j k hi' hj => by have := h4 _ _ _ hi'.2 hj.2; omega) (fun i k hk => hST _ k (by omega) (by omega) hk.2) hS (fun i k hk => hT _ k (by omega) (by omega) hk.2) hnew (by omega) h
  · have hj : j < (hi - lo) * 2 := by
      have := (List.getElem?_eq_some_iff.1 hu).1
      omega
    refine ⟨_, hA (by omega), ?_⟩
    rw [Addr.add_lit, block_cell h1]
    rw [List.getElem?_take, if_pos hj, List.getElem?_drop] at hu
    simpa using hu
  · obtain ⟨j, hj⟩ := List.mem_iff_getElem?.1 hu
    have hj1 : j < (hi - lo) * 2 := by
      have := (List.getElem?_eq_some_iff.1 hj).1
      omega
    rw [List.getElem?_take, if_pos hj1, List.getElem?_drop] at hj
    have hlt : lo + j / 2 < out.length := by omega
    have h6 := h5 (lo + j / 2) out[lo + j / 2] (by omega) (by simp [hlt])
    refine tRow.K_one (tRow.O_K h6) u ?_
    rw [List.mem_iff_getElem?]
    refine ⟨j % 2, ?_⟩
    rw [List.getElem?_take, if_pos (by omega), List.getElem?_drop, show (lo + j / 2) * 2 + j % 2 = lo * 2 + j by omega]
    exact hj
  · have hil : i < hi - lo := by
      have := (List.getElem?_eq_some_iff.1 hi').1
      simp at this; omega
    rw [List.getElem?_take, if_pos hil, List.getElem?_drop] at hi'
    have h6 := h5 (lo + i) y (by omega) hi'
    have e : (((cur.toList.drop (lo * 2)).take ((hi - lo) * 2)).drop (i * 2)).take 2 = (cur.toList.drop ((lo + i) * 2)).take 2 := by
      rw [List.drop_take, List.drop_drop, List.take_take, Nat.min_eq_left (by omega), show lo * 2 + i * 2 = (lo + i) * 2 by omega]
    show tRow.O W _ y ((((cur.toList.drop (lo * 2)).take ((hi - lo) * 2)).drop (i * 2)).take 2)
    rw [e]
    exact tRow.O_mono (fun k hk => ⟨hil, hk⟩) h6
end
set_option maxHeartbeats 4000000 in
set_option maxRecDepth 100000 in
theorem spec_RowPut (A : Option Addr) (c : Nat) (l : List Row) (r : Row) (cs : List Value) (w : World) (hr : tRow.C w A l) (hk : tRow.K w r cs) (hl : bulkRowS l ≤ 2000000) (hlr : r.cells.length ≤ 4194304) :
    Calls Try.prog 42 #[.slice A l.length c, .agg cs.toArray] w fun e w' => ∃ v, e = .returned v ∧ tRow.R 41 w' (fun k => w.heap.size ≤ k) v (rowPut l r) ∧ Below w.heap.size w w' := by
  have HK := Hd.mk hk
  obtain ⟨A2, c2, rfl, hc2, hr2⟩ := tRow_K.1 hk
  clear hr2 hk
  have HC := Hd.mk hr; clear hr
  have hlen : l.length ≤ 2000000 := by simp only [bulkRowS] at hl; omega
  have hB := Hd.mk (Below.refl w.heap.size w)
  go_enter Try.func42, Try.ntmps42
  go_wp2_with fail
  apply calls_gen; intro W1 hW
  have hz_ : w.heap.size + 1 ≤ W1.heap.size := by rw [hW]; simp
  have hE : Below w.heap.size w W1 := by rw [hW]; (repeat (first | with_reducible refine below_alloc ?_ _ | with_reducible refine below_drew ?_)); exact Below.refl _ _
  have hB := Hd.mk (below_then hB.out hE)
  have b0 := Hd.mk (show Blk W1 (w.heap.size) #[Value.int IntKind.i64 r.id, Value.slice A2 r.cells.length c2] 41 by rw [hW]; first | exact (Blk.new _ _ _) | (simpa using (Blk.new _ _ _)))
  clear hW hE
  have z1 := Hd.mk hz_; clear hz_
  refine (spec_RowDrop _ _ l r.id _ (C_below HC.out hB.out) (by omega)).mono ?_
  rintro e w2 ⟨v1, rfl, hV, hX⟩
  have b0 := Hd.mk (b0.out.below hX)
  have hB := Hd.mk (below_then hB.out hX)
  have hz_ := hX.size
  clear hX
  have z2 := Hd.mk hz_; clear hz_
  obtain ⟨out, hout⟩ : ∃ z, z = rowDrop l r.id := ⟨_, rfl⟩
  rw [← hout] at hV
  have HOUT := Hd.mk hout
  have hol : out.length ≤ l.length := by rw [hout]; exact List.length_eraseIdx_le _ _
  clear hout
  replace hV := Hd.mk (show tRow.R 41 w2 (rng W1.heap.size w2.heap.size) v1 out from R_bound hV)
  have hform : (v1 = .slice none 0 0 ∧ out.length = 0) ∨ ∃ g c, v1 = .slice (some ⟨g, 0, none⟩) out.length c ∧ out.length ≤ c ∧ c ≤ 9223372036854775807 := by
    obtain ⟨inner, f, ⟨_, ho⟩, _, _⟩ := hV.out
    rcases ho with ⟨h1, h2⟩ | ⟨g, cap, cur, h1, _, _, h2, h3, _⟩
    · exact .inl ⟨h1, h2⟩
    · simp only [maxLen] at h3
      exact .inr ⟨g, cap, h1, h2, by omega⟩
  rcases hform with ⟨rfl, h0⟩ | ⟨gO, cO, rfl, hc1, hc3⟩
  · have HLo := Hd.mk (show Loose w2 w.heap.size #[Value.int IntKind.i64 r.id, Value.slice A2 r.cells.length c2] (fun _ _ => False) out 0 from ⟨b0.out, by rw [h0]; exact Nat.zero_le _, fun _ _ h => h.elim, fun _ _ _ h => h.elim, fun i x _ hx => by have := (List.getElem?_eq_some_iff.1 hx).1; omega⟩)
    obtain ⟨gO, hgO⟩ : ∃ z, z = w.heap.size := ⟨_, rfl⟩
    obtain ⟨cur, hcur⟩ : ∃ z : Array Value, z = #[Value.int IntKind.i64 r.id, Value.slice A2 r.cells.length c2] := ⟨_, rfl⟩
    obtain ⟨Tp, hTp0⟩ : ∃ z : Nat → Nat → Prop, z = (fun _ _ => False) := ⟨_, rfl⟩
    rw [← hgO, ← hcur, ← hTp0] at HLo
    have HTS := Hd.mk (show ∀ i b, Tp i b → rng W1.heap.size w2.heap.size b by rw [hTp0]; exact fun _ _ h => h.elim)
    have hgW := Hd.mk (show gO < w2.heap.size by rw [hgO]; have := z1.out; have := z2.out; omega)
    have hgA := Hd.mk (show w.heap.size ≤ gO by omega)
    clear hgO hcur hTp0
    have fb0_0 : w2.cell? ⟨w.heap.size, 0, none⟩ = some (Value.int IntKind.i64 r.id) := b0.out.cell 0 rfl
    have fb0_1 : w2.cell? ⟨w.heap.size, 1, none⟩ = some (Value.slice A2 r.cells.length c2) := b0.out.cell 1 rfl
    have fb0_z := b0.out.frozen
    go_wp2_with fail
    clear fb0_0 fb0_1 fb0_z
    apply calls_gen; intro W3 hW
    have hz_ : w2.heap.size ≤ W3.heap.size := by rw [hW]; simp
    have hE : Below w2.heap.size w2 W3 := by rw [hW]; (repeat (first | with_reducible refine below_alloc ?_ _ | with_reducible refine below_drew ?_)); exact Below.refl _ _
    have hB := Hd.mk (below_then hB.out hE)
    have b0 := Hd.mk (b0.out.below hE)
    have hV := Hd.mk (R_below hV.out hE)
    have HLo := Hd.mk (Loose.below HLo.out hE)
    clear hW hE
    have z3 := Hd.mk hz_; clear hz_
    refine (spec_RowAt _ _ l r.id _ (C_below HC.out hB.out)).mono ?_
    rintro e w4 ⟨rfl, hX⟩
    have b0 := Hd.mk (b0.out.below hX)
    have hV := Hd.mk (R_below hV.out hX)
    have HLo := Hd.mk (Loose.below HLo.out hX)
    have hB := Hd.mk (below_then hB.out hX)
    have hz_ := hX.size
    clear hX
    have z4 := Hd.mk hz_; clear hz_
    rcases idxF_cases (fun x : Row => x.id == r.id) l with ⟨h1, h2⟩ | ⟨h1, h2⟩
    · rw [show rowAt l r.id = -1 from h1]
      obtain ⟨hP1, hP2⟩ := rowPut_none l r h2
      obtain rfl : out = l := HOUT.out.trans hP1
      have HP := Hd.mk hP2
      clear hP1 hP2 h1 h2 HOUT
      obtain ⟨P, hP⟩ : ∃ z : Row → Bool, z = (fun x : Row => decide (r.id < x.id)) := ⟨_, rfl⟩
      rw [← hP] at HP
      have HPD := Hd.mk (fun x => congrFun hP x); clear hP
      have fb0_0 : w4.cell? ⟨w.heap.size, 0, none⟩ = some (Value.int IntKind.i64 r.id) := b0.out.cell 0 rfl
      have fb0_1 : w4.cell? ⟨w.heap.size, 1, none⟩ = some (Value.slice A2 r.cells.length c2) := b0.out.cell 1 rfl
      have fb0_z := b0.out.frozen
      go_wp2_with fail
      clear fb0_0 fb0_1 fb0_z
      have HsN := Hd.mk hB.out.size
      go_loopw [6, 7] (fun a i wr => ∃ (j : Nat) (ii at_ : Int), j ≤ out.length ∧ i = .int .i64 ii ∧ a = .int .i64 at_ ∧ Hd (ii = (j : Int) - 1) ∧ Hd (at_ = ((j + (out.drop j).findIdx P : Nat) : Int)) ∧ Hd (Blk wr w.heap.size #[Value.int IntKind.i64 r.id, Value.slice A2 r.cells.length c2] 41) ∧ Hd (Loose wr gO cur Tp out 0) ∧ Hd (tRow.R 41 wr (rng W1.heap.size w2.heap.size) (.slice none 0 0) out) ∧ Hd (Below w.heap.size w wr) ∧ Hd (w4.heap.size ≤ wr.heap.size)) (fun _ i _ => (intOf i + 1).toNat)
      case atStart => exact ⟨out.length, _, _, Nat.le_refl _, rfl, rfl, ⟨by omega⟩, ⟨by rw [List.drop_length]; simp <;> omega⟩, b0, HLo, hV, hB, ⟨Nat.le_refl _⟩⟩
      case round =>
        clear b0 HLo hV hB
        obtain ⟨j, ii, at_, hj, rfl, rfl, HII, HAT, b0, HLo, hV, hB, hz⟩ := hrel
        rcases j with _ | k
        · obtain rfl : ii = -1 := by have := HII.out; omega
          obtain ⟨p, hpo, hpe⟩ : ∃ p : Nat, p ≤ out.length ∧ Hd (p = out.findIdx P) := ⟨_, List.findIdx_le_length, ⟨rfl⟩⟩
          obtain rfl : at_ = (p : Int) := by rw [HAT.out, hpe.out]; simp
          replace HP := Hd.mk (show rowPut out r = out.take p ++ r :: out.drop p by rw [hpe.out]; exact HP.out)
          clear HII HAT hpe
          have hp0 : (0 : Int) ≤ (p : Int) := by omega
          have hzz := hz.out
          obtain rfl : p = 0 := by omega
          have z1_ := z1.out; have z2_ := z2.out; have z3_ := z3.out; have z4_ := z4.out
          have hBs := hB.out.size
          have hgW_ := hgW.out
          have hgA_ := hgA.out
          have HW1 := Hd.mk (Loose.below HLo.out (below_alloc (Below.refl wr.heap.size wr) (.cells #[] 41)))
          go_wp2_with (at_builtin; refine append_loose (a := _) rfl _ _ rfl Try.underlying68 info_RowS (S := fun k => wr.heap.size ≤ k) (S' := (fun k => wr.heap.size ≤ k ∨ ∃ i, i < 0 ∧ Tp i k)) (v := .slice (some ⟨wr.heap.size, 0, none⟩) 0 0) (xs := []) (out := out) 0 0 none 0 rfl rfl (fun h => absurd h (Nat.lt_irrefl _)) (R_empty tRow 41 wr) HW1.out (Nat.le_refl _) (Nat.zero_le _) (Nat.zero_le _) (fun i k _ _ h h2 => by have h3 := (HTS.out i k h).2; omega) (fun k h => Or.inl h) (fun i k _ hi h => Or.inr ⟨i, hi, h⟩) (fun k h => Or.inl (by simp at h; omega)) (by simp <;> omega) (fun v2 wa hv2 hf2 => ?_); have hX := ((Fr.of_below (below_alloc (Below.refl wr.heap.size wr) _) (fun k => wr.heap.size ≤ k)).then_ hf2 (fun k h _ => h)).below (fun k h => h); have HV2 := Hd.mk (R_bound hv2); have HXa := Hd.mk hX; clear hv2 hf2 hX HW1; have b0a := Hd.mk (b0.out.below HXa.out); have fa0 : wa.cell? ⟨w.heap.size, 0, none⟩ = some _ := b0a.out.cell 0 rfl; have fa1 : wa.cell? ⟨w.heap.size, 1, none⟩ = some _ := b0a.out.cell 1 rfl)
          clear fa0 fa1 b0a
          have hX := HXa.out
          have b0 := Hd.mk (b0.out.below hX)
          have HLo := Hd.mk (Loose.below HLo.out hX)
          have hB := Hd.mk (below_then hB.out hX)
          have hz_ := hX.size
          clear hX
          have z5 := Hd.mk hz_; clear hz_
          apply calls_gen; intro W5 hW
          have hz_ : wa.heap.size ≤ W5.heap.size := by rw [hW]; simp
          have hE : Below wa.heap.size wa W5 := by rw [hW]; (repeat (first | with_reducible refine below_alloc ?_ _ | with_reducible refine below_drew ?_)); exact Below.refl _ _
          have hB := Hd.mk (below_then hB.out hE)
          have b0 := Hd.mk (b0.out.below hE)
          have HLo := Hd.mk (Loose.below HLo.out hE)
          have HV2 := Hd.mk (R_below HV2.out hE)
          clear hW hE
          have z6 := Hd.mk hz_; clear hz_
          refine (spec_l6Copy r _ _ (Ty.K_below _ hB.out HK.out) hlr).mono ?_
          rintro e w6 ⟨cs', rfl, hO, hX⟩
          have b0 := Hd.mk (b0.out.below hX)
          have HLo := Hd.mk (Loose.below HLo.out hX)
          have HV2 := Hd.mk (R_below HV2.out hX)
          have hB := Hd.mk (below_then hB.out hX)
          have hz_ := hX.size
          clear hX
          have z7 := Hd.mk hz_; clear hz_
          obtain ⟨v3, rfl, hv3⟩ := tRow_O.1 hO
          obtain ⟨D3, d3, rfl, _, _⟩ := R_C hv3
          clear hv3
          replace hO := Hd.mk (show tRow.O w6 (rng W5.heap.size w6.heap.size) r _ from Ty.O_bound _ hO)
          have z1_ := z1.out; have z2_ := z2.out; have z3_ := z3.out; have z4_ := z4.out; have z5_ := z5.out; have z6_ := z6.out; have z7_ := z7.out
          have hBs2 := hB.out.size
          have fb0_0 : w6.cell? ⟨w.heap.size, 0, none⟩ = some (Value.int IntKind.i64 r.id) := b0.out.cell 0 rfl
          have fb0_1 : w6.cell? ⟨w.heap.size, 1, none⟩ = some (Value.slice A2 r.cells.length c2) := b0.out.cell 1 rfl
          have fb0_z := b0.out.frozen
          go_wp2_with (first | (at_builtin; refine append_one tRow rfl _ _ 68 41 (.agg #[.int .i64 0, .slice none 0 0]) 32 rfl Try.underlying68 info_RowS rfl (by decide) (by decide) (T := rng W5.heap.size w6.heap.size) (S' := (fun k => wr.heap.size ≤ k ∨ ∃ i, i < 0 ∧ Tp i k)) (v := v2) (xs := [] ++ (out.drop 0).take (0 - 0)) r [Value.int IntKind.i64 r.id, Value.slice D3 r.cells.length d3] rfl rfl HV2.out hO.out (fun k h1 hl h2 => by have h3 := h1.1; have h4 := h2.2; omega) (fun k h => h.1) (fun k h => Or.inl (by have := h.1; omega)) (fun k h => Or.inl (by omega)) (by simp <;> omega) (fun v4 wb hv4 hf4 => ?_); have HL4 := Hd.mk (HLo.out.fr (lo' := 0) hf4 (fun h => by rcases h.1 with h1 | ⟨i, _, h1⟩; omega; exact (HLo.out.2.2.1 i gO h1).1 rfl) (Nat.zero_le _) (fun i k hi hT hS => by rcases hS.1 with h1 | ⟨j, hj, h1⟩; (have h3 := (HTS.out i k hT).2; omega); have h5 := HLo.out.2.2.2.1 i j k hT h1; omega)); have HV4 := Hd.mk hv4; have HB4 := Hd.mk (below_frS hB.out hf4 (fun k h => by rcases h.1 with h1 | ⟨i, _, h1⟩; omega; have h3 := (HTS.out i k h1).1; omega)); have HSz := Hd.mk hf4.size; clear hv4 hf4 HV2) | (at_builtin; refine append_loose rfl _ _ rfl Try.underlying68 info_RowS (S := (fun k => wr.heap.size ≤ k ∨ ∃ i, i < 0 ∧ Tp i k)) (S' := fun k => w.heap.size ≤ k) (v := v4) (xs := ([] ++ (out.drop 0).take (0 - 0)) ++ [r]) (out := out) 0 0 none 0 rfl rfl (fun h => absurd h (by omega)) HV4.out HL4.out (Nat.le_refl _) (Nat.le_refl _) (Nat.zero_le _) (fun i k hi _ h h2 => by rcases h2 with h3 | ⟨j, hj, h3⟩; (have h5 := (HTS.out i k h).2; omega); have h5 := HL4.out.2.2.2.1 i j k h h3; omega) (fun k h => by rcases h with h1 | ⟨i, _, h1⟩; omega; have h3 := (HTS.out i k h1).1; omega) (fun i k _ _ h => by have h3 := (HTS.out i k h).1; omega) (fun k h => by have := HB4.out.size; omega) (by simp <;> omega) (fun v5 wc hv5 hf5 => ?_)))
          clear fb0_0 fb0_1 fb0_z
          have HV5 := Hd.mk hv5
          have HB5 := Hd.mk (below_frS HB4.out hf5 (fun k h => by rcases h with h1 | ⟨i, _, h1⟩; omega; have h3 := (HTS.out i k h1).1; omega))
          clear hv5 hf5
          go_wp2_with fail
          go_ret
          exact ⟨_, rfl, by have h := HV5.out; rw [HP.out]; have ho : out = [] := List.eq_nil_of_length_eq_zero h0; simp only [ho] at h ⊢; simpa using h, HB5.out⟩
        · exact absurd hj (by omega)
    · rw [show rowAt l r.id = (l.findIdx (fun x : Row => x.id == r.id) : Int) from h1]
      have HP := Hd.mk (rowPut_there l r h2)
      have hpo : l.findIdx (fun x : Row => x.id == r.id) ≤ out.length := by rw [HOUT.out]; unfold rowDrop; rw [List.length_eraseIdx, if_pos h2]; omega
      rw [← HOUT.out] at HP
      have HAT := Hd.mk (show rowAt l r.id = (l.findIdx (fun x : Row => x.id == r.id) : Int) from h1)
      clear h1 h2
      generalize l.findIdx (fun x : Row => x.id == r.id) = q at HP hpo HAT ⊢
      have hq0 : (0 : Int) ≤ (q : Int) := by omega
      have fb0_0 : w4.cell? ⟨w.heap.size, 0, none⟩ = some (Value.int IntKind.i64 r.id) := b0.out.cell 0 rfl
      have fb0_1 : w4.cell? ⟨w.heap.size, 1, none⟩ = some (Value.slice A2 r.cells.length c2) := b0.out.cell 1 rfl
      have fb0_z := b0.out.frozen
      go_wp2_with fail
      clear fb0_0 fb0_1 fb0_z
      apply calls_gen; intro W5 hW
      have hz_ : w4.heap.size ≤ W5.heap.size := by rw [hW]; simp
      have hE : Below w4.heap.size w4 W5 := by rw [hW]; (repeat (first | with_reducible refine below_alloc ?_ _ | with_reducible refine below_drew ?_)); exact Below.refl _ _
      have hB := Hd.mk (below_then hB.out hE)
      have b0 := Hd.mk (b0.out.below hE)
      have hV := Hd.mk (R_below hV.out hE)
      have HLo := Hd.mk (Loose.below HLo.out hE)
      clear hW hE
      have z5 := Hd.mk hz_; clear hz_
      refine (spec_RowAt _ _ l r.id _ (C_below HC.out hB.out)).mono ?_
      rintro e w6 ⟨rfl, hX⟩
      have b0 := Hd.mk (b0.out.below hX)
      have hV := Hd.mk (R_below hV.out hX)
      have HLo := Hd.mk (Loose.below HLo.out hX)
      have hB := Hd.mk (below_then hB.out hX)
      have hz_ := hX.size
      clear hX
      have z6 := Hd.mk hz_; clear hz_
      rw [HAT.out]; clear HAT
      obtain rfl : q = 0 := by omega
      have z1_ := z1.out; have z2_ := z2.out; have z3_ := z3.out; have z4_ := z4.out; have z5_ := z5.out; have z6_ := z6.out
      have hBs := hB.out.size
      have hgW_ := hgW.out
      have hgA_ := hgA.out
      have HW1 := Hd.mk (Loose.below HLo.out (below_alloc (Below.refl w6.heap.size w6) (.cells #[] 41)))
      go_wp2_with (at_builtin; refine append_loose (a := _) rfl _ _ rfl Try.underlying68 info_RowS (S := fun k => w6.heap.size ≤ k) (S' := (fun k => w6.heap.size ≤ k ∨ ∃ i, i < 0 ∧ Tp i k)) (v := .slice (some ⟨w6.heap.size, 0, none⟩) 0 0) (xs := []) (out := out) 0 0 none 0 rfl rfl (fun h => absurd h (Nat.lt_irrefl _)) (R_empty tRow 41 w6) HW1.out (Nat.le_refl _) (Nat.zero_le _) (Nat.zero_le _) (fun i k _ _ h h2 => by have h3 := (HTS.out i k h).2; omega) (fun k h => Or.inl h) (fun i k _ hi h => Or.inr ⟨i, hi, h⟩) (fun k h => Or.inl (by simp at h; omega)) (by simp <;> omega) (fun v2 wa hv2 hf2 => ?_); have hX := ((Fr.of_below (below_alloc (Below.refl w6.heap.size w6) _) (fun k => w6.heap.size ≤ k)).then_ hf2 (fun k h _ => h)).below (fun k h => h); have HV2 := Hd.mk (R_bound hv2); have HXa := Hd.mk hX; clear hv2 hf2 hX HW1; have b0a := Hd.mk (b0.out.below HXa.out); have fa0 : wa.cell? ⟨w.heap.size, 0, none⟩ = some _ := b0a.out.cell 0 rfl; have fa1 : wa.cell? ⟨w.heap.size, 1, none⟩ = some _ := b0a.out.cell 1 rfl)
      clear fa0 fa1 b0a
      have hX := HXa.out
      have b0 := Hd.mk (b0.out.below hX)
      have HLo := Hd.mk (Loose.below HLo.out hX)
      have hB := Hd.mk (below_then hB.out hX)
      have hz_ := hX.size
      clear hX
      have z7 := Hd.mk hz_; clear hz_
      apply calls_gen; intro W7 hW
      have hz_ : wa.heap.size ≤ W7.heap.size := by rw [hW]; simp
      have hE : Below wa.heap.size wa W7 := by rw [hW]; (repeat (first | with_reducible refine below_alloc ?_ _ | with_reducible refine below_drew ?_)); exact Below.refl _ _
      have hB := Hd.mk (below_then hB.out hE)
      have b0 := Hd.mk (b0.out.below hE)
      have HLo := Hd.mk (Loose.below HLo.out hE)
      have HV2 := Hd.mk (R_below HV2.out hE)
      clear hW hE
      have z8 := Hd.mk hz_; clear hz_
      refine (spec_l6Copy r _ _ (Ty.K_below _ hB.out HK.out) hlr).mono ?_
      rintro e w8 ⟨cs', rfl, hO, hX⟩
      have b0 := Hd.mk (b0.out.below hX)
      have HLo := Hd.mk (Loose.below HLo.out hX)
      have HV2 := Hd.mk (R_below HV2.out hX)
      have hB := Hd.mk (below_then hB.out hX)
      have hz_ := hX.size
      clear hX
      have z9 := Hd.mk hz_; clear hz_
      obtain ⟨v3, rfl, hv3⟩ := tRow_O.1 hO
      obtain ⟨D3, d3, rfl, _, _⟩ := R_C hv3
      clear hv3
      replace hO := Hd.mk (show tRow.O w8 (rng W7.heap.size w8.heap.size) r _ from Ty.O_bound _ hO)
      have z1_ := z1.out; have z2_ := z2.out; have z3_ := z3.out; have z4_ := z4.out; have z5_ := z5.out; have z6_ := z6.out; have z7_ := z7.out; have z8_ := z8.out; have z9_ := z9.out
      have hBs2 := hB.out.size
      have fb0_0 : w8.cell? ⟨w.heap.size, 0, none⟩ = some (Value.int IntKind.i64 r.id) := b0.out.cell 0 rfl
      have fb0_1 : w8.cell? ⟨w.heap.size, 1, none⟩ = some (Value.slice A2 r.cells.length c2) := b0.out.cell 1 rfl
      have fb0_z := b0.out.frozen
      go_wp2_with (first | (at_builtin; refine append_one tRow rfl _ _ 68 41 (.agg #[.int .i64 0, .slice none 0 0]) 32 rfl Try.underlying68 info_RowS rfl (by decide) (by decide) (T := rng W7.heap.size w8.heap.size) (S' := (fun k => w6.heap.size ≤ k ∨ ∃ i, i < 0 ∧ Tp i k)) (v := v2) (xs := [] ++ (out.drop 0).take (0 - 0)) r [Value.int IntKind.i64 r.id, Value.slice D3 r.cells.length d3] rfl rfl HV2.out hO.out (fun k h1 hl h2 => by have h3 := h1.1; have h4 := h2.2; omega) (fun k h => h.1) (fun k h => Or.inl (by have := h.1; omega)) (fun k h => Or.inl (by omega)) (by simp <;> omega) (fun v4 wb hv4 hf4 => ?_); have HL4 := Hd.mk (HLo.out.fr (lo' := 0) hf4 (fun h => by rcases h.1 with h1 | ⟨i, _, h1⟩; omega; exact (HLo.out.2.2.1 i gO h1).1 rfl) (Nat.zero_le _) (fun i k hi hT hS => by rcases hS.1 with h1 | ⟨j, hj, h1⟩; (have h3 := (HTS.out i k hT).2; omega); have h5 := HLo.out.2.2.2.1 i j k hT h1; omega)); have HV4 := Hd.mk hv4; have HB4 := Hd.mk (below_frS hB.out hf4 (fun k h => by rcases h.1 with h1 | ⟨i, _, h1⟩; omega; have h3 := (HTS.out i k h1).1; omega)); have HSz := Hd.mk hf4.size; clear hv4 hf4 HV2) | (at_builtin; refine append_loose rfl _ _ rfl Try.underlying68 info_RowS (S := (fun k => w6.heap.size ≤ k ∨ ∃ i, i < 0 ∧ Tp i k)) (S' := fun k => w.heap.size ≤ k) (v := v4) (xs := ([] ++ (out.drop 0).take (0 - 0)) ++ [r]) (out := out) 0 0 none 0 rfl rfl (fun h => absurd h (by omega)) HV4.out HL4.out (Nat.le_refl _) (Nat.le_refl _) (Nat.zero_le _) (fun i k hi _ h h2 => by rcases h2 with h3 | ⟨j, hj, h3⟩; (have h5 := (HTS.out i k h).2; omega); have h5 := HL4.out.2.2.2.1 i j k h h3; omega) (fun k h => by rcases h with h1 | ⟨i, _, h1⟩; omega; have h3 := (HTS.out i k h1).1; omega) (fun i k _ _ h => by have h3 := (HTS.out i k h).1; omega) (fun k h => by have := HB4.out.size; omega) (by simp <;> omega) (fun v5 wc hv5 hf5 => ?_)))
      clear fb0_0 fb0_1 fb0_z
      have HV5 := Hd.mk hv5
      have HB5 := Hd.mk (below_frS HB4.out hf5 (fun k h => by rcases h with h1 | ⟨i, _, h1⟩; omega; have h3 := (HTS.out i k h1).1; omega))
      clear hv5 hf5
      go_wp2_with fail
      go_ret
      exact ⟨_, rfl, by have h := HV5.out; rw [HP.out]; have ho : out = [] := List.eq_nil_of_length_eq_zero h0; simp only [ho] at h ⊢; simpa using h, HB5.out⟩
  · obtain ⟨cur, Tp, hh, hgS, _, hn, hm, hsz, hTp, hd, hE⟩ := R_parts hV.out
    have hsz : cur.size = cO * 2 := hsz
    have HLo := Hd.mk (show Loose w2 gO cur Tp out 0 from ⟨hh, by omega, fun i b h => ⟨(hTp i b h).2.1, (hTp i b h).2.2⟩, hd, fun i x _ hx => hE i x hx⟩)
    have HTS := Hd.mk (show ∀ i b, Tp i b → rng W1.heap.size w2.heap.size b from fun i b h => (hTp i b h).1)
    have hgW := Hd.mk (show gO < w2.heap.size from hgS.2)
    have hgA := Hd.mk (show w.heap.size ≤ gO by have := hgS.1; have := z1.out; omega)
    clear hh hgS hsz hTp hd hE hm hn
    have fb0_0 : w2.cell? ⟨w.heap.size, 0, none⟩ = some (Value.int IntKind.i64 r.id) := b0.out.cell 0 rfl
    have fb0_1 : w2.cell? ⟨w.heap.size, 1, none⟩ = some (Value.slice A2 r.cells.length c2) := b0.out.cell 1 rfl
    have fb0_z := b0.out.frozen
    go_wp2_with fail
    clear fb0_0 fb0_1 fb0_z
    apply calls_gen; intro W3 hW
    have hz_ : w2.heap.size ≤ W3.heap.size := by rw [hW]; simp
    have hE : Below w2.heap.size w2 W3 := by rw [hW]; (repeat (first | with_reducible refine below_alloc ?_ _ | with_reducible refine below_drew ?_)); exact Below.refl _ _
    have hB := Hd.mk (below_then hB.out hE)
    have b0 := Hd.mk (b0.out.below hE)
    have hV := Hd.mk (R_below hV.out hE)
    have HLo := Hd.mk (Loose.below HLo.out hE)
    clear hW hE
    have z3 := Hd.mk hz_; clear hz_
    refine (spec_RowAt _ _ l r.id _ (C_below HC.out hB.out)).mono ?_
    rintro e w4 ⟨rfl, hX⟩
    have b0 := Hd.mk (b0.out.below hX)
    have hV := Hd.mk (R_below hV.out hX)
    have HLo := Hd.mk (Loose.below HLo.out hX)
    have hB := Hd.mk (below_then hB.out hX)
    have hz_ := hX.size
    clear hX
    have z4 := Hd.mk hz_; clear hz_
    rcases idxF_cases (fun x : Row => x.id == r.id) l with ⟨h1, h2⟩ | ⟨h1, h2⟩
    · rw [show rowAt l r.id = -1 from h1]
      obtain ⟨hP1, hP2⟩ := rowPut_none l r h2
      obtain rfl : out = l := HOUT.out.trans hP1
      have HP := Hd.mk hP2
      clear hP1 hP2 h1 h2 HOUT
      obtain ⟨P, hP⟩ : ∃ z : Row → Bool, z = (fun x : Row => decide (r.id < x.id)) := ⟨_, rfl⟩
      rw [← hP] at HP
      have HPD := Hd.mk (fun x => congrFun hP x); clear hP
      have fb0_0 : w4.cell? ⟨w.heap.size, 0, none⟩ = some (Value.int IntKind.i64 r.id) := b0.out.cell 0 rfl
      have fb0_1 : w4.cell? ⟨w.heap.size, 1, none⟩ = some (Value.slice A2 r.cells.length c2) := b0.out.cell 1 rfl
      have fb0_z := b0.out.frozen
      go_wp2_with fail
      clear fb0_0 fb0_1 fb0_z
      have HsN := Hd.mk hB.out.size
      go_loopw [6, 7] (fun a i wr => ∃ (j : Nat) (ii at_ : Int), j ≤ out.length ∧ i = .int .i64 ii ∧ a = .int .i64 at_ ∧ Hd (ii = (j : Int) - 1) ∧ Hd (at_ = ((j + (out.drop j).findIdx P : Nat) : Int)) ∧ Hd (Blk wr w.heap.size #[Value.int IntKind.i64 r.id, Value.slice A2 r.cells.length c2] 41) ∧ Hd (Loose wr gO cur Tp out 0) ∧ Hd (tRow.R 41 wr (rng W1.heap.size w2.heap.size) (.slice (some ⟨gO, 0, none⟩) out.length cO) out) ∧ Hd (Below w.heap.size w wr) ∧ Hd (w4.heap.size ≤ wr.heap.size)) (fun _ i _ => (intOf i + 1).toNat)
      case atStart => exact ⟨out.length, _, _, Nat.le_refl _, rfl, rfl, ⟨by omega⟩, ⟨by rw [List.drop_length]; simp <;> omega⟩, b0, HLo, hV, hB, ⟨Nat.le_refl _⟩⟩
      case round =>
        clear b0 HLo hV hB
        obtain ⟨j, ii, at_, hj, rfl, rfl, HII, HAT, b0, HLo, hV, hB, hz⟩ := hrel
        rcases j with _ | k
        · obtain rfl : ii = -1 := by have := HII.out; omega
          obtain ⟨p, hpo, hpe⟩ : ∃ p : Nat, p ≤ out.length ∧ Hd (p = out.findIdx P) := ⟨_, List.findIdx_le_length, ⟨rfl⟩⟩
          obtain rfl : at_ = (p : Int) := by rw [HAT.out, hpe.out]; simp
          replace HP := Hd.mk (show rowPut out r = out.take p ++ r :: out.drop p by rw [hpe.out]; exact HP.out)
          clear HII HAT hpe
          have hp0 : (0 : Int) ≤ (p : Int) := by omega
          have hzz := hz.out
          have z1_ := z1.out; have z2_ := z2.out; have z3_ := z3.out; have z4_ := z4.out
          have hBs := hB.out.size
          have hgW_ := hgW.out
          have hgA_ := hgA.out
          obtain ⟨A3, hA3, hA3'⟩ : ∃ A3 : Addr, (if cO = p then some (⟨gO, 0, none⟩ : Addr) else some ⟨gO, p * 2, none⟩) = some A3 ∧ Hd (p < out.length → A3 = ⟨gO, p * 2, none⟩) := by
            by_cases h : cO = p
            · exact ⟨⟨gO, 0, none⟩, by rw [if_pos h], ⟨fun h2 => by omega⟩⟩
            · exact ⟨⟨gO, p * 2, none⟩, by rw [if_neg h], ⟨fun _ => rfl⟩⟩
          have hpc : p ≤ cO := by omega
          have HW1 := Hd.mk (Loose.below HLo.out (below_alloc (Below.refl wr.heap.size wr) (.cells #[] 41)))
          go_wp2_with (at_builtin; refine append_loose (a := _) rfl _ _ rfl Try.underlying68 info_RowS (S := fun k => wr.heap.size ≤ k) (S' := (fun k => wr.heap.size ≤ k ∨ ∃ i, i < p ∧ Tp i k)) (v := .slice (some ⟨wr.heap.size, 0, none⟩) 0 0) (xs := []) (out := out) 0 p (some ⟨gO, 0, none⟩) cO rfl rfl (fun _ => by rw [Nat.zero_mul]) (R_empty tRow 41 wr) HW1.out (Nat.le_refl _) (Nat.zero_le _) hpo (fun i k _ _ h h2 => by have h3 := (HTS.out i k h).2; omega) (fun k h => Or.inl h) (fun i k _ hi h => Or.inr ⟨i, hi, h⟩) (fun k h => Or.inl (by simp at h; omega)) (by simp <;> omega) (fun v2 wa hv2 hf2 => ?_); have hX := ((Fr.of_below (below_alloc (Below.refl wr.heap.size wr) _) (fun k => wr.heap.size ≤ k)).then_ hf2 (fun k h _ => h)).below (fun k h => h); have HV2 := Hd.mk (R_bound hv2); have HXa := Hd.mk hX; clear hv2 hf2 hX HW1; have b0a := Hd.mk (b0.out.below HXa.out); have fa0 : wa.cell? ⟨w.heap.size, 0, none⟩ = some _ := b0a.out.cell 0 rfl; have fa1 : wa.cell? ⟨w.heap.size, 1, none⟩ = some _ := b0a.out.cell 1 rfl)
          clear fa0 fa1 b0a
          have hX := HXa.out
          have b0 := Hd.mk (b0.out.below hX)
          have HLo := Hd.mk (Loose.below HLo.out hX)
          have hB := Hd.mk (below_then hB.out hX)
          have hz_ := hX.size
          clear hX
          have z5 := Hd.mk hz_; clear hz_
          apply calls_gen; intro W5 hW
          have hz_ : wa.heap.size ≤ W5.heap.size := by rw [hW]; simp
          have hE : Below wa.heap.size wa W5 := by rw [hW]; (repeat (first | with_reducible refine below_alloc ?_ _ | with_reducible refine below_drew ?_)); exact Below.refl _ _
          have hB := Hd.mk (below_then hB.out hE)
          have b0 := Hd.mk (b0.out.below hE)
          have HLo := Hd.mk (Loose.below HLo.out hE)
          have HV2 := Hd.mk (R_below HV2.out hE)
          clear hW hE
          have z6 := Hd.mk hz_; clear hz_
          refine (spec_l6Copy r _ _ (Ty.K_below _ hB.out HK.out) hlr).mono ?_
          rintro e w6 ⟨cs', rfl, hO, hX⟩
          have b0 := Hd.mk (b0.out.below hX)
          have HLo := Hd.mk (Loose.below HLo.out hX)
          have HV2 := Hd.mk (R_below HV2.out hX)
          have hB := Hd.mk (below_then hB.out hX)
          have hz_ := hX.size
          clear hX
          have z7 := Hd.mk hz_; clear hz_
          obtain ⟨v3, rfl, hv3⟩ := tRow_O.1 hO
          obtain ⟨D3, d3, rfl, _, _⟩ := R_C hv3
          clear hv3
          replace hO := Hd.mk (show tRow.O w6 (rng W5.heap.size w6.heap.size) r _ from Ty.O_bound _ hO)
          have z1_ := z1.out; have z2_ := z2.out; have z3_ := z3.out; have z4_ := z4.out; have z5_ := z5.out; have z6_ := z6.out; have z7_ := z7.out
          have hBs2 := hB.out.size
          have fb0_0 : w6.cell? ⟨w.heap.size, 0, none⟩ = some (Value.int IntKind.i64 r.id) := b0.out.cell 0 rfl
          have fb0_1 : w6.cell? ⟨w.heap.size, 1, none⟩ = some (Value.slice A2 r.cells.length c2) := b0.out.cell 1 rfl
          have fb0_z := b0.out.frozen
          go_wp2_with (first | (at_builtin; refine append_one tRow rfl _ _ 68 41 (.agg #[.int .i64 0, .slice none 0 0]) 32 rfl Try.underlying68 info_RowS rfl (by decide) (by decide) (T := rng W5.heap.size w6.heap.size) (S' := (fun k => wr.heap.size ≤ k ∨ ∃ i, i < p ∧ Tp i k)) (v := v2) (xs := [] ++ (out.drop 0).take (p - 0)) r [Value.int IntKind.i64 r.id, Value.slice D3 r.cells.length d3] rfl rfl HV2.out hO.out (fun k h1 hl h2 => by have h3 := h1.1; have h4 := h2.2; omega) (fun k h => h.1) (fun k h => Or.inl (by have := h.1; omega)) (fun k h => Or.inl (by omega)) (by simp <;> omega) (fun v4 wb hv4 hf4 => ?_); have HL4 := Hd.mk (HLo.out.fr (lo' := p) hf4 (fun h => by rcases h.1 with h1 | ⟨i, _, h1⟩; omega; exact (HLo.out.2.2.1 i gO h1).1 rfl) (Nat.zero_le _) (fun i k hi hT hS => by rcases hS.1 with h1 | ⟨j, hj, h1⟩; (have h3 := (HTS.out i k hT).2; omega); have h5 := HLo.out.2.2.2.1 i j k hT h1; omega)); have HV4 := Hd.mk hv4; have HB4 := Hd.mk (below_frS hB.out hf4 (fun k h => by rcases h.1 with h1 | ⟨i, _, h1⟩; omega; have h3 := (HTS.out i k h1).1; omega)); have HSz := Hd.mk hf4.size; clear hv4 hf4 HV2) | (at_builtin; refine append_loose rfl _ _ rfl Try.underlying68 info_RowS (S := (fun k => wr.heap.size ≤ k ∨ ∃ i, i < p ∧ Tp i k)) (S' := fun k => w.heap.size ≤ k) (v := v4) (xs := ([] ++ (out.drop 0).take (p - 0)) ++ [r]) (out := out) p out.length (some A3) (cO - p) rfl rfl (fun h => by rw [hA3'.out h]) HV4.out HL4.out (Nat.le_refl _) hpo (Nat.le_refl _) (fun i k hi _ h h2 => by rcases h2 with h3 | ⟨j, hj, h3⟩; (have h5 := (HTS.out i k h).2; omega); have h5 := HL4.out.2.2.2.1 i j k h h3; omega) (fun k h => by rcases h with h1 | ⟨i, _, h1⟩; omega; have h3 := (HTS.out i k h1).1; omega) (fun i k _ _ h => by have h3 := (HTS.out i k h).1; omega) (fun k h => by have := HB4.out.size; omega) (by simp <;> omega) (fun v5 wc hv5 hf5 => ?_)))
          clear fb0_0 fb0_1 fb0_z
          have HV5 := Hd.mk hv5
          have HB5 := Hd.mk (below_frS HB4.out hf5 (fun k h => by rcases h with h1 | ⟨i, _, h1⟩; omega; have h3 := (HTS.out i k h1).1; omega))
          clear hv5 hf5
          go_wp2_with fail
          go_ret
          exact ⟨_, rfl, by have h := HV5.out; rw [put_eq] at h; rw [HP.out]; exact h, HB5.out⟩
        · obtain rfl : ii = (k : Int) := by have := HII.out; omega
          have hlt : k < out.length := by omega
          obtain ⟨ad, A1, c1, had, x0, x1, hc1', hr1⟩ := C_row_at (R_Cv hV.out) (Below.refl _ _) k hlt
          obtain rfl : (⟨gO, 0, none⟩ : Addr) = ad := by injection had
          rw [add0] at x0
          clear x1 hr1 had hc1'
          have f0 : wr.cell? ⟨w.heap.size, 0, none⟩ = some (Value.int IntKind.i64 r.id) := b0.out.cell 0 rfl
          have HD := Hd.mk (find_down P out k hlt)
          have hk0 : (0 : Int) ≤ (k : Int) := by omega
          have HDP := Hd.mk (HPD.out out[k])
          cases hb : decide (r.id < out[k].id)
          · have Hb := Hd.mk (show P out[k] = false by rw [HDP.out]; exact hb)
            go_wp2_with fail
            have y0 := cell_regrown x0
            have y1 := cell_regrown f0
            refine region_mix [(true, 0), (true, 1), (true, 2), (true, 3), (true, 4), (true, 5), (true, 6), (true, 7)] (by kernel_rfl) (by kernel_rfl) (fun _ _ _ _ _ h => h) ?_
            repeat (refine mix_q rfl ?_; go_big_quiet_want; go_big_quiet_op; go_big_quiet_on; refine wpQuiet_nil ?_)
            refine mix_nil ?_
            go_wp2_with fail
            go_roundw
            case rel => exact ⟨k, _, _, by omega, rfl, rfl, ⟨rfl⟩, ⟨by rw [HD.out, Hb.out]; simpa using HAT.out⟩, ⟨b0.out.drew⟩, ⟨Loose.below HLo.out (below_drew (Below.refl _ _))⟩, ⟨R_below hV.out (below_drew (Below.refl _ _))⟩, ⟨below_drew hB.out⟩, hz⟩
            case measure => simp [intOf] <;> omega
          · have Hb := Hd.mk (show P out[k] = true by rw [HDP.out]; exact hb)
            go_wp2_with fail
            have y0 := cell_regrown x0
            have y1 := cell_regrown f0
            refine region_mix [(true, 0), (true, 1), (true, 2), (true, 3), (true, 4), (true, 5), (true, 6), (true, 7)] (by kernel_rfl) (by kernel_rfl) (fun _ _ _ _ _ h => h) ?_
            repeat (refine mix_q rfl ?_; go_big_quiet_want; go_big_quiet_op; go_big_quiet_on; refine wpQuiet_nil ?_)
            refine mix_nil ?_
            go_wp2_with fail
            go_roundw
            case rel => exact ⟨k, _, _, by omega, rfl, rfl, ⟨rfl⟩, ⟨by rw [HD.out, Hb.out]; simp⟩, ⟨b0.out.drew⟩, ⟨Loose.below HLo.out (below_drew (Below.refl _ _))⟩, ⟨R_below hV.out (below_drew (Below.refl _ _))⟩, ⟨below_drew hB.out⟩, hz⟩
            case measure => simp [intOf] <;> omega
    · rw [show rowAt l r.id = (l.findIdx (fun x : Row => x.id == r.id) : Int) from h1]
      have HP := Hd.mk (rowPut_there l r h2)
      have hpo : l.findIdx (fun x : Row => x.id == r.id) ≤ out.length := by rw [HOUT.out]; unfold rowDrop; rw [List.length_eraseIdx, if_pos h2]; omega
      rw [← HOUT.out] at HP
      have HAT := Hd.mk (show rowAt l r.id = (l.findIdx (fun x : Row => x.id == r.id) : Int) from h1)
      clear h1 h2
      generalize l.findIdx (fun x : Row => x.id == r.id) = q at HP hpo HAT ⊢
      have hq0 : (0 : Int) ≤ (q : Int) := by omega
      have fb0_0 : w4.cell? ⟨w.heap.size, 0, none⟩ = some (Value.int IntKind.i64 r.id) := b0.out.cell 0 rfl
      have fb0_1 : w4.cell? ⟨w.heap.size, 1, none⟩ = some (Value.slice A2 r.cells.length c2) := b0.out.cell 1 rfl
      have fb0_z := b0.out.frozen
      go_wp2_with fail
      clear fb0_0 fb0_1 fb0_z
      apply calls_gen; intro W5 hW
      have hz_ : w4.heap.size ≤ W5.heap.size := by rw [hW]; simp
      have hE : Below w4.heap.size w4 W5 := by rw [hW]; (repeat (first | with_reducible refine below_alloc ?_ _ | with_reducible refine below_drew ?_)); exact Below.refl _ _
      have hB := Hd.mk (below_then hB.out hE)
      have b0 := Hd.mk (b0.out.below hE)
      have hV := Hd.mk (R_below hV.out hE)
      have HLo := Hd.mk (Loose.below HLo.out hE)
      clear hW hE
      have z5 := Hd.mk hz_; clear hz_
      refine (spec_RowAt _ _ l r.id _ (C_below HC.out hB.out)).mono ?_
      rintro e w6 ⟨rfl, hX⟩
      have b0 := Hd.mk (b0.out.below hX)
      have hV := Hd.mk (R_below hV.out hX)
      have HLo := Hd.mk (Loose.below HLo.out hX)
      have hB := Hd.mk (below_then hB.out hX)
      have hz_ := hX.size
      clear hX
      have z6 := Hd.mk hz_; clear hz_
      rw [HAT.out]; clear HAT
      have z1_ := z1.out; have z2_ := z2.out; have z3_ := z3.out; have z4_ := z4.out; have z5_ := z5.out; have z6_ := z6.out
      have hBs := hB.out.size
      have hgW_ := hgW.out
      have hgA_ := hgA.out
      obtain ⟨A3, hA3, hA3'⟩ : ∃ A3 : Addr, (if cO = q then some (⟨gO, 0, none⟩ : Addr) else some ⟨gO, q * 2, none⟩) = some A3 ∧ Hd (q < out.length → A3 = ⟨gO, q * 2, none⟩) := by
        by_cases h : cO = q
        · exact ⟨⟨gO, 0, none⟩, by rw [if_pos h], ⟨fun h2 => by omega⟩⟩
        · exact ⟨⟨gO, q * 2, none⟩, by rw [if_neg h], ⟨fun _ => rfl⟩⟩
      have hpc : q ≤ cO := by omega
      have HW1 := Hd.mk (Loose.below HLo.out (below_alloc (Below.refl w6.heap.size w6) (.cells #[] 41)))
      go_wp2_with (at_builtin; refine append_loose (a := _) rfl _ _ rfl Try.underlying68 info_RowS (S := fun k => w6.heap.size ≤ k) (S' := (fun k => w6.heap.size ≤ k ∨ ∃ i, i < q ∧ Tp i k)) (v := .slice (some ⟨w6.heap.size, 0, none⟩) 0 0) (xs := []) (out := out) 0 q (some ⟨gO, 0, none⟩) cO rfl rfl (fun _ => by rw [Nat.zero_mul]) (R_empty tRow 41 w6) HW1.out (Nat.le_refl _) (Nat.zero_le _) hpo (fun i k _ _ h h2 => by have h3 := (HTS.out i k h).2; omega) (fun k h => Or.inl h) (fun i k _ hi h => Or.inr ⟨i, hi, h⟩) (fun k h => Or.inl (by simp at h; omega)) (by simp <;> omega) (fun v2 wa hv2 hf2 => ?_); have hX := ((Fr.of_below (below_alloc (Below.refl w6.heap.size w6) _) (fun k => w6.heap.size ≤ k)).then_ hf2 (fun k h _ => h)).below (fun k h => h); have HV2 := Hd.mk (R_bound hv2); have HXa := Hd.mk hX; clear hv2 hf2 hX HW1; have b0a := Hd.mk (b0.out.below HXa.out); have fa0 : wa.cell? ⟨w.heap.size, 0, none⟩ = some _ := b0a.out.cell 0 rfl; have fa1 : wa.cell? ⟨w.heap.size, 1, none⟩ = some _ := b0a.out.cell 1 rfl)
      clear fa0 fa1 b0a
      have hX := HXa.out
      have b0 := Hd.mk (b0.out.below hX)
      have HLo := Hd.mk (Loose.below HLo.out hX)
      have hB := Hd.mk (below_then hB.out hX)
      have hz_ := hX.size
      clear hX
      have z7 := Hd.mk hz_; clear hz_
      apply calls_gen; intro W7 hW
      have hz_ : wa.heap.size ≤ W7.heap.size := by rw [hW]; simp
      have hE : Below wa.heap.size wa W7 := by rw [hW]; (repeat (first | with_reducible refine below_alloc ?_ _ | with_reducible refine below_drew ?_)); exact Below.refl _ _
      have hB := Hd.mk (below_then hB.out hE)
      have b0 := Hd.mk (b0.out.below hE)
      have HLo := Hd.mk (Loose.below HLo.out hE)
      have HV2 := Hd.mk (R_below HV2.out hE)
      clear hW hE
      have z8 := Hd.mk hz_; clear hz_
      refine (spec_l6Copy r _ _ (Ty.K_below _ hB.out HK.out) hlr).mono ?_
      rintro e w8 ⟨cs', rfl, hO, hX⟩
      have b0 := Hd.mk (b0.out.below hX)
      have HLo := Hd.mk (Loose.below HLo.out hX)
      have HV2 := Hd.mk (R_below HV2.out hX)
      have hB := Hd.mk (below_then hB.out hX)
      have hz_ := hX.size
      clear hX
      have z9 := Hd.mk hz_; clear hz_
      obtain ⟨v3, rfl, hv3⟩ := tRow_O.1 hO
      obtain ⟨D3, d3, rfl, _, _⟩ := R_C hv3
      clear hv3
      replace hO := Hd.mk (show tRow.O w8 (rng W7.heap.size w8.heap.size) r _ from Ty.O_bound _ hO)
      have z1_ := z1.out; have z2_ := z2.out; have z3_ := z3.out; have z4_ := z4.out; have z5_ := z5.out; have z6_ := z6.out; have z7_ := z7.out; have z8_ := z8.out; have z9_ := z9.out
      have hBs2 := hB.out.size
      have fb0_0 : w8.cell? ⟨w.heap.size, 0, none⟩ = some (Value.int IntKind.i64 r.id) := b0.out.cell 0 rfl
      have fb0_1 : w8.cell? ⟨w.heap.size, 1, none⟩ = some (Value.slice A2 r.cells.length c2) := b0.out.cell 1 rfl
      have fb0_z := b0.out.frozen
      go_wp2_with (first | (at_builtin; refine append_one tRow rfl _ _ 68 41 (.agg #[.int .i64 0, .slice none 0 0]) 32 rfl Try.underlying68 info_RowS rfl (by decide) (by decide) (T := rng W7.heap.size w8.heap.size) (S' := (fun k => w6.heap.size ≤ k ∨ ∃ i, i < q ∧ Tp i k)) (v := v2) (xs := [] ++ (out.drop 0).take (q - 0)) r [Value.int IntKind.i64 r.id, Value.slice D3 r.cells.length d3] rfl rfl HV2.out hO.out (fun k h1 hl h2 => by have h3 := h1.1; have h4 := h2.2; omega) (fun k h => h.1) (fun k h => Or.inl (by have := h.1; omega)) (fun k h => Or.inl (by omega)) (by simp <;> omega) (fun v4 wb hv4 hf4 => ?_); have HL4 := Hd.mk (HLo.out.fr (lo' := q) hf4 (fun h => by rcases h.1 with h1 | ⟨i, _, h1⟩; omega; exact (HLo.out.2.2.1 i gO h1).1 rfl) (Nat.zero_le _) (fun i k hi hT hS => by rcases hS.1 with h1 | ⟨j, hj, h1⟩; (have h3 := (HTS.out i k hT).2; omega); have h5 := HLo.out.2.2.2.1 i j k hT h1; omega)); have HV4 := Hd.mk hv4; have HB4 := Hd.mk (below_frS hB.out hf4 (fun k h => by rcases h.1 with h1 | ⟨i, _, h1⟩; omega; have h3 := (HTS.out i k h1).1; omega)); have HSz := Hd.mk hf4.size; clear hv4 hf4 HV2) | (at_builtin; refine append_loose rfl _ _ rfl Try.underlying68 info_RowS (S := (fun k => w6.heap.size ≤ k ∨ ∃ i, i < q ∧ Tp i k)) (S' := fun k => w.heap.size ≤ k) (v := v4) (xs := ([] ++ (out.drop 0).take (q - 0)) ++ [r]) (out := out) q out.length (some A3) (cO - q) rfl rfl (fun h => by rw [hA3'.out h]) HV4.out HL4.out (Nat.le_refl _) hpo (Nat.le_refl _) (fun i k hi _ h h2 => by rcases h2 with h3 | ⟨j, hj, h3⟩; (have h5 := (HTS.out i k h).2; omega); have h5 := HL4.out.2.2.2.1 i j k h h3; omega) (fun k h => by rcases h with h1 | ⟨i, _, h1⟩; omega; have h3 := (HTS.out i k h1).1; omega) (fun i k _ _ h => by have h3 := (HTS.out i k h).1; omega) (fun k h => by have := HB4.out.size; omega) (by simp <;> omega) (fun v5 wc hv5 hf5 => ?_)))
      clear fb0_0 fb0_1 fb0_z
      have HV5 := Hd.mk hv5
      have HB5 := Hd.mk (below_frS HB4.out hf5 (fun k h => by rcases h with h1 | ⟨i, _, h1⟩; omega; have h3 := (HTS.out i k h1).1; omega))
      clear hv5 hf5
      go_wp2_with fail
      go_ret
      exact ⟨_, rfl, by have h := HV5.out; rw [put_eq] at h; rw [HP.out]; exact h, HB5.out⟩
end Go.Proofs.Ytnpogfhfjofbmaa.X
