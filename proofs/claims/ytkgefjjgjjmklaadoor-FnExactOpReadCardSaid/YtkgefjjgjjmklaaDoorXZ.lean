/- What is proved here: contracts of the place of a name and of Field. Conditions: none. -/
import Derived.Test.YtkgefjjgjjmklaaDoorXY
import Derived.Test.YtkgefjjgjjmklaaDoorXFa
import Derived.Test.YtkgefjjgjjmklaaDoorXGd
namespace Go.Proofs.YtkgefjjgjjmklaaDoor.X
open Go.RowKit Go.Sort
set_option linter.unusedVariables false
set_option linter.unusedSimpArgs false
open Ty
/-- The place of a name; -1: none. -/
def nameAt (l : List ByteArray) (s : ByteArray) : Int := idxF (fun x => s.toList == x.toList) l
def field (j : J) (s : ByteArray) : J := if jsonOk j && decide (0 ≤ nameAt j.names s) then j.list.getD (nameAt j.names s).toNat J.null else J.null
def hasField (j : J) (s : ByteArray) : Bool := jsonOk j && decide (0 ≤ nameAt j.names s)
theorem idxF_cases2 {α : Type} (p : α → Bool) (l : List α) : idxF p l = -1 ∨ (idxF p l = (l.findIdx p : Int) ∧ l.findIdx p < l.length) := by
  unfold idxF
  by_cases h : l.findIdx p < l.length
  · exact .inr ⟨if_pos h, h⟩
  · exact .inl (if_neg h)
set_option maxRecDepth 100000 in
theorem slices_Index_str (A : Option Addr) (c : Nat) (l : List ByteArray) (s : ByteArray) (w : World) (hr : str.C w A l) :
    Calls Tryd.prog 82 #[.slice A l.length c, .string s] w fun e w' => e = .returned (.int .i64 (nameAt l s)) ∧ Below w.heap.size w w' := by
  have hm := hr.1
  have HC := Hd.mk hr; clear hr
  go_enter Tryd.func82, Tryd.ntmps82
  go_wp2
  go_loop [8] (fun i => ∃ k : Nat, k ≤ l.length ∧ i = .int .i64 k ∧ Hd ((l.take k).all (fun x => !(s.toList == x.toList)) = true)) (fun i => l.length - (intOf i).toNat)
  case atStart => exact ⟨0, Nat.zero_le _, rfl, ⟨rfl⟩⟩
  case round =>
    obtain ⟨k, hk, rfl, HA⟩ := hrel
    by_cases hlt : k < l.length
    · obtain ⟨ad, rfl, x0, hsz⟩ := C_str_at HC.out (Below.refl _ _) k hlt
      have HA2 := Hd.mk (all_take (fun x => !(s.toList == x.toList)) l k hlt HA.out)
      cases hb : (s.toList == l[k].toList)
      · have Hb := Hd.mk hb
        go_wp2_with fail
        go_round
        case rel => exact ⟨k + 1, by omega, by go_num, ⟨by rw [HA2.out]; simp [Hb.out]⟩⟩
        case measure => simp [intOf]; omega
      · have Hb := Hd.mk (idxF_found _ l k hlt HA.out hb)
        go_wp2_with fail
        go_ret
        exact ⟨by rw [show nameAt l s = k from Hb.out]; rfl, Below.refl _ _⟩
    · obtain rfl : k = l.length := by omega
      go_wp2_with fail
      go_ret
      have := HA.out
      rw [List.take_length] at this
      exact ⟨by rw [show nameAt l s = -1 from idxF_none _ l this]; rfl, Below.refl _ _⟩
theorem nameAt_lt (l : List ByteArray) (s : ByteArray) (q : Nat) (h : nameAt l s = q) : q < l.length := by
  rcases idxF_cases2 (fun x : ByteArray => s.toList == x.toList) l with h1 | ⟨h1, h2⟩
  · unfold nameAt at h; omega
  · unfold nameAt at h; omega
theorem jsonOk_own (x : J) (h : jsonOk x = true) : ownB x = true := by
  unfold jsonOk at h
  have h := of_decide_eq_true h
  unfold sizeN at h
  cases hb : ownB x
  · rw [hb] at h; simp at h
  · rfl
set_option maxRecDepth 100000 in
theorem spec_l1At {m : Nat} (x : J) (cs : List Value) (s : ByteArray) (w : World) (hk : (tJ (m + 1)).K w x cs) :
    Calls Tryd.prog 108 #[.agg cs.toArray, .string s] w fun e w' => e = .returned (.int .i64 (nameAt x.names s)) ∧ Below w.heap.size w w' := by
  obtain ⟨A1, c1, A2, c2, rfl, hs, ⟨hc1, hr1⟩, hc2, hr2⟩ := tJ_K.1 hk
  have hm := hr2.1
  have HC := Hd.mk hr2; clear hr1 hr2 hk
  have hB := Hd.mk (Below.refl w.heap.size w)
  go_enter Tryd.func108, Tryd.ntmps108
  go_wp2_with fail
  go_loopw [5] (fun i wr => ∃ k : Nat, k ≤ x.names.length ∧ i = .int .i64 k ∧ Hd ((x.names.take k).all (fun y => !(s.toList == y.toList)) = true) ∧ Hd (Blk wr w.heap.size #[Value.int IntKind.i64 x.kind, Value.int IntKind.i64 x.n, Value.string x.s, Value.slice A1 x.list.length c1, Value.slice A2 x.names.length c2] 40) ∧ Hd (Below w.heap.size w wr)) (fun i _ => x.names.length - (intOf i).toNat)
  case atStart => exact ⟨0, Nat.zero_le _, rfl, ⟨rfl⟩, ⟨Blk.new _ _ _⟩, ⟨below_alloc (Below.refl _ _) _⟩⟩
  case round =>
    obtain ⟨k, hk, rfl, HA, b0, hB⟩ := hrel
    have f0 : wr.cell? ⟨w.heap.size, 0, none⟩ = some (Value.int IntKind.i64 x.kind) := b0.out.cell 0 rfl
    have f1 : wr.cell? ⟨w.heap.size, 1, none⟩ = some (Value.int IntKind.i64 x.n) := b0.out.cell 1 rfl
    have f2 : wr.cell? ⟨w.heap.size, 2, none⟩ = some (Value.string x.s) := b0.out.cell 2 rfl
    have f3 : wr.cell? ⟨w.heap.size, 3, none⟩ = some (Value.slice A1 x.list.length c1) := b0.out.cell 3 rfl
    have f4 : wr.cell? ⟨w.heap.size, 4, none⟩ = some (Value.slice A2 x.names.length c2) := b0.out.cell 4 rfl
    by_cases hlt : k < x.names.length
    · obtain ⟨ad, rfl, x0, hsz⟩ := C_str_at HC.out hB.out k hlt
      have HA2 := Hd.mk (all_take (fun y => !(s.toList == y.toList)) x.names k hlt HA.out)
      cases hb : (x.names[k].toList == s.toList)
      · have Hb := Hd.mk (show (s.toList == x.names[k].toList) = false by rw [BEq.comm]; exact hb)
        go_wp2_with fail
        go_roundw
        case rel => exact ⟨k + 1, by omega, by go_num, ⟨by rw [HA2.out]; simp [Hb.out]⟩, b0, hB⟩
        case measure => simp [intOf]; omega
      · have Hb := Hd.mk (idxF_found (fun y => s.toList == y.toList) x.names k hlt HA.out (by rw [BEq.comm]; exact hb))
        go_wp2_with fail
        go_ret
        exact ⟨by rw [show nameAt x.names s = k from Hb.out]; rfl, hB.out⟩
    · obtain rfl : k = x.names.length := by omega
      go_wp2_with fail
      go_ret
      have := HA.out
      rw [List.take_length] at this
      exact ⟨by rw [show nameAt x.names s = -1 from idxF_none _ _ this]; rfl, hB.out⟩
theorem ownB_names (x : J) (h : ownB x = true) : (x.kind = 5 ∧ x.names.length = x.list.length) ∨ x.names.length = 0 := by
  rcases Nat.eq_zero_or_pos x.names.length with h0 | hn
  · exact .inr h0
  · left
    unfold ownB at h
    split at h
    · cases h
    · split at h
      · cases h
      · rename_i h1 h2
        have hk : x.kind = 5 := by simpa [hn] using h2
        refine ⟨hk, ?_⟩
        rw [hk] at h
        split at h
        · cases h
        · split at h
          · cases h
          · simp at h
            omega
theorem jsonOk_names (x : J) (h : jsonOk x = true) {q : Nat} (hq : q < x.names.length) : q < x.list.length := by
  rcases ownB_names x (jsonOk_own x h) with ⟨_, h1⟩ | h1 <;> omega
theorem nameAt_none (x : J) (s : ByteArray) (h : jsonOk x = true) (hk : (x.kind != 5) = true) : nameAt x.names s = -1 := by
  rcases ownB_names x (jsonOk_own x h) with ⟨h1, _⟩ | h1
  · rw [h1] at hk; simp at hk
  · rw [List.eq_nil_of_length_eq_zero h1]; rfl
theorem bulkL_congr {α : Type} (b c : α → Nat) (l : List α) (h : ∀ x ∈ l, b x = c x) : bulkL b l = bulkL c l := by
  induction l with
  | nil => rfl
  | cons x l ih => simp only [bulkL]; rw [h x (by simp), ih (fun y hy => h y (by simp [hy]))]
theorem C_all {α : Type} {d : Ty α} {w : World} {A : Option Addr} {l : List α} (h : d.C w A l) {x : α} (hx : x ∈ l) : ∃ cs, d.K w x cs := by
  obtain ⟨i, hi⟩ := List.mem_iff_getElem?.1 hx
  obtain ⟨ad, cs, _, hk, _⟩ := h.2 i x hi
  exact ⟨cs, hk⟩
theorem bulkJ_fuel : ∀ (m : Nat) (w : World) (x : J) (cs : List Value), (tJ m).K w x cs → bulkJ (m + 1) x = bulkJ m x
  | 0, _, _, _, hk => hk.elim
  | m + 1, w, x, cs, hk => by
    obtain ⟨A1, c1, A2, c2, rfl, _, ⟨_, hC⟩, _⟩ := tJ_K.1 hk
    have h : bulkL (bulkJ (m + 1)) x.list = bulkL (bulkJ m) x.list := bulkL_congr _ _ _ (fun y hy => by
      obtain ⟨cs', hk'⟩ := C_all hC hy
      exact bulkJ_fuel m w y cs' hk')
    show x.s.size + (x.list.length + bulkL (bulkJ (m + 1)) x.list) + _ = x.s.size + (x.list.length + bulkL (bulkJ m) x.list) + _
    rw [h]
theorem bulk_field {m : Nat} {w : World} {j : J} {cs : List Value} (hk : (tJ (m + 1)).K w j cs) (s : ByteArray) : bulkJ (m + 1) (field j s) ≤ bulkJ (m + 1) j := by
  unfold field
  split
  · obtain ⟨A1, c1, A2, c2, rfl, _, ⟨_, hC⟩, _⟩ := tJ_K.1 hk
    rcases Nat.lt_or_ge (nameAt j.names s).toNat j.list.length with h | h
    · have e : j.list.getD (nameAt j.names s).toNat J.null = j.list[(nameAt j.names s).toNat] := by
        rw [List.getD_eq_getElem?_getD, List.getElem?_eq_getElem h]; rfl
      rw [e]
      have hx := List.getElem_mem h
      obtain ⟨cs', hk'⟩ := C_all hC hx
      rw [bulkJ_fuel m w _ cs' hk']
      have := bulkL_mem (bulkJ m) hx
      show _ ≤ j.s.size + (j.list.length + bulkL (bulkJ m) j.list) + _
      omega
    · have e : j.list.getD (nameAt j.names s).toNat J.null = J.null := by
        rw [List.getD_eq_getElem?_getD, List.getElem?_eq_none h]; rfl
      rw [e]
      show 0 + (0 + 0) + (0 + 0) ≤ _
      omega
  · show 0 + (0 + 0) + (0 + 0) ≤ _
    omega
set_option maxHeartbeats 4000000 in
set_option maxRecDepth 100000 in
theorem impl_Field {m : Nat} (x : J) (cs : List Value) (s : ByteArray) (w : World) (hk : (tJ (m + 1)).K w x cs) (hl : bulkJ (m + 1) x ≤ 4194304) :
    Calls Tryd.prog 81 #[.agg cs.toArray, .string s] w fun e w' => ∃ cs, e = .returned (.tuple #[.agg cs.toArray, .bool (hasField x s)]) ∧ (tJ (m + 1)).O w' (fun k => w.heap.size ≤ k) (field x s) cs ∧ Below w.heap.size w w' := by
  have HK := Hd.mk hk
  obtain ⟨A1, c1, A2, c2, rfl, hs, ⟨hc1, hr1⟩, hc2, hr2⟩ := tJ_K.1 hk
  have hm := hr1.1
  have HR1 := Hd.mk hr1
  have HR2 := Hd.mk hr2; clear hr1 hr2 hk
  have HL := Hd.mk hl; clear hl
  have hB := Hd.mk (Below.refl w.heap.size w)
  go_enter Tryd.func81, Tryd.ntmps81
  go_wp2_with fail
  apply calls_gen; intro W1 hW
  have hz_ : w.heap.size + 2 ≤ W1.heap.size := by rw [hW]; simp
  have hE : Below w.heap.size w W1 := by rw [hW]; (repeat (first | with_reducible refine below_alloc ?_ _ | with_reducible refine below_drew ?_)); exact Below.refl _ _
  have hB := Hd.mk (below_then hB.out hE)
  have b0 := Hd.mk (show Blk W1 (w.heap.size) #[Value.int IntKind.i64 x.kind, Value.int IntKind.i64 x.n, Value.string x.s, Value.slice A1 x.list.length c1, Value.slice A2 x.names.length c2] 40 by rw [hW]; first | exact ((Blk.new _ _ _).alloc _) | (simpa using ((Blk.new _ _ _).alloc _)))
  have b1 := Hd.mk (show Blk W1 (w.heap.size + 1) #[Value.int IntKind.i64 0, Value.int IntKind.i64 0, Value.string ⟨#[]⟩, Value.slice none 0 0, Value.slice none 0 0] 40 by rw [hW]; first | exact (Blk.new1 _ _ _ _) | (simpa using (Blk.new1 _ _ _ _)))
  clear hW hE
  have z1 := Hd.mk hz_; clear hz_
  refine (slices_Index_str _ _ x.names s _ (C_below HR2.out hB.out)).mono ?_
  rintro e w2 ⟨rfl, hX⟩
  have b0 := Hd.mk (b0.out.below hX)
  have b1 := Hd.mk (b1.out.below hX)
  have hB := Hd.mk (below_then hB.out hX)
  have hz_ := hX.size
  clear hX
  have z2 := Hd.mk hz_; clear hz_
  obtain ⟨at_, hat⟩ : ∃ z, z = nameAt x.names s := ⟨_, rfl⟩
  rw [← hat]
  have HAT := Hd.mk hat; clear hat
  have fb0_0 : w2.cell? ⟨w.heap.size, 0, none⟩ = some (Value.int IntKind.i64 x.kind) := b0.out.cell 0 rfl
  have fb0_1 : w2.cell? ⟨w.heap.size, 1, none⟩ = some (Value.int IntKind.i64 x.n) := b0.out.cell 1 rfl
  have fb0_2 : w2.cell? ⟨w.heap.size, 2, none⟩ = some (Value.string x.s) := b0.out.cell 2 rfl
  have fb0_3 : w2.cell? ⟨w.heap.size, 3, none⟩ = some (Value.slice A1 x.list.length c1) := b0.out.cell 3 rfl
  have fb0_4 : w2.cell? ⟨w.heap.size, 4, none⟩ = some (Value.slice A2 x.names.length c2) := b0.out.cell 4 rfl
  have fb0_z := b0.out.frozen
  have fb1_0 : w2.cell? ⟨w.heap.size + 1, 0, none⟩ = some (Value.int IntKind.i64 0) := b1.out.cell 0 rfl
  have fb1_1 : w2.cell? ⟨w.heap.size + 1, 1, none⟩ = some (Value.int IntKind.i64 0) := b1.out.cell 1 rfl
  have fb1_2 : w2.cell? ⟨w.heap.size + 1, 2, none⟩ = some (Value.string ⟨#[]⟩) := b1.out.cell 2 rfl
  have fb1_3 : w2.cell? ⟨w.heap.size + 1, 3, none⟩ = some (Value.slice none 0 0) := b1.out.cell 3 rfl
  have fb1_4 : w2.cell? ⟨w.heap.size + 1, 4, none⟩ = some (Value.slice none 0 0) := b1.out.cell 4 rfl
  have fb1_z := b1.out.frozen
  go_wp2_with fail
  clear fb0_0 fb0_1 fb0_2 fb0_3 fb0_4 fb0_z fb1_0 fb1_1 fb1_2 fb1_3 fb1_4 fb1_z
  apply calls_gen; intro W3 hW
  have hz_ : w2.heap.size ≤ W3.heap.size := by rw [hW]; simp
  have hE : Below w2.heap.size w2 W3 := by rw [hW]; (repeat (first | with_reducible refine below_alloc ?_ _ | with_reducible refine below_drew ?_)); exact Below.refl _ _
  have hB := Hd.mk (below_then hB.out hE)
  have b0 := Hd.mk (b0.out.below hE)
  have b1 := Hd.mk (b1.out.below hE)
  clear hW hE
  have z3 := Hd.mk hz_; clear hz_
  refine (impl_JsonOk x _ _ (Ty.K_below _ hB.out HK.out)).mono ?_
  rintro e w4 ⟨rfl, hX⟩
  have b0 := Hd.mk (b0.out.below hX)
  have b1 := Hd.mk (b1.out.below hX)
  have hB := Hd.mk (below_then hB.out hX)
  have hz_ := hX.size
  clear hX
  have z4 := Hd.mk hz_; clear hz_
  cases hb : jsonOk x
  · have HN := Hd.mk (show hasField x s = false by unfold hasField; rw [hb]; rfl)
    have HF := Hd.mk (show field x s = J.null by unfold field; rw [show (jsonOk x && decide (0 ≤ nameAt x.names s)) = false from HN.out]; rfl)
    have fb0_0 : w4.cell? ⟨w.heap.size, 0, none⟩ = some (Value.int IntKind.i64 x.kind) := b0.out.cell 0 rfl
    have fb0_1 : w4.cell? ⟨w.heap.size, 1, none⟩ = some (Value.int IntKind.i64 x.n) := b0.out.cell 1 rfl
    have fb0_2 : w4.cell? ⟨w.heap.size, 2, none⟩ = some (Value.string x.s) := b0.out.cell 2 rfl
    have fb0_3 : w4.cell? ⟨w.heap.size, 3, none⟩ = some (Value.slice A1 x.list.length c1) := b0.out.cell 3 rfl
    have fb0_4 : w4.cell? ⟨w.heap.size, 4, none⟩ = some (Value.slice A2 x.names.length c2) := b0.out.cell 4 rfl
    have fb0_z := b0.out.frozen
    have fb1_0 : w4.cell? ⟨w.heap.size + 1, 0, none⟩ = some (Value.int IntKind.i64 0) := b1.out.cell 0 rfl
    have fb1_1 : w4.cell? ⟨w.heap.size + 1, 1, none⟩ = some (Value.int IntKind.i64 0) := b1.out.cell 1 rfl
    have fb1_2 : w4.cell? ⟨w.heap.size + 1, 2, none⟩ = some (Value.string ⟨#[]⟩) := b1.out.cell 2 rfl
    have fb1_3 : w4.cell? ⟨w.heap.size + 1, 3, none⟩ = some (Value.slice none 0 0) := b1.out.cell 3 rfl
    have fb1_4 : w4.cell? ⟨w.heap.size + 1, 4, none⟩ = some (Value.slice none 0 0) := b1.out.cell 4 rfl
    have fb1_z := b1.out.frozen
    go_wp2_with fail
    refine bodyPost_retW (v := .tuple #[.agg #[Value.int IntKind.i64 0, Value.int IntKind.i64 0, Value.string ⟨#[]⟩, Value.slice none 0 0, Value.slice none 0 0], .bool false]) (by simp [results, Tryd.results81, go_sem, fb0_0, fb0_1, fb0_2, fb0_3, fb0_4, fb0_z, fb1_0, fb1_1, fb1_2, fb1_3, fb1_4, fb1_z]) rfl ?_
    intro W hW
    clear fb0_0 fb0_1 fb0_2 fb0_3 fb0_4 fb0_z fb1_0 fb1_1 fb1_2 fb1_3 fb1_4 fb1_z
    have hz_ : w4.heap.size ≤ W.heap.size := by rw [hW]; simp
    have eF : Fr w4 W (fun k => k = w.heap.size + 1 ∨ w4.heap.size ≤ k) := by rw [hW]; (repeat (first | with_reducible refine Fr.setCell ?_ _ (fun _ => by simp <;> omega) _ | with_reducible refine Fr.alloc ?_ _ | with_reducible refine Fr.drew ?_)); exact Fr.refl _ _
    have z1_ := z1.out; have z2_ := z2.out; have z3_ := z3.out; have z4_ := z4.out
    have hB := Hd.mk (((Fr.of_below hB.out (fun k => k = w.heap.size + 1 ∨ w4.heap.size ≤ k)).then_ eF (fun k hk _ => hk)).below (fun k hk => by have := hB.out.size; omega))
    have b0 := Hd.mk (b0.out.fr eF (fun h => by have hlt_ := b0.out.lt; (try simp only at h); omega))
    have b1 := Hd.mk (show Blk W (w.heap.size + 1) #[Value.int IntKind.i64 0, Value.int IntKind.i64 0, Value.string ⟨#[]⟩, Value.slice none 0 0, Value.slice none 0 0] 40 by rw [hW]; exact (Blk.all b1.out [Value.int IntKind.i64 0, Value.int IntKind.i64 0, Value.string ⟨#[]⟩, Value.slice none 0 0, Value.slice none 0 0] rfl))
    clear hW eF
    have z5 := Hd.mk hz_; clear hz_
    exact ⟨_, by rw [HN.out], by rw [HF.out]; exact ZJ m _ _, hB.out⟩
  · by_cases h0 : at_ < 0
    · have HN := Hd.mk (show hasField x s = false by unfold hasField; rw [hb, ← HAT.out, decide_eq_false (by omega)]; rfl)
      have HF := Hd.mk (show field x s = J.null by unfold field; rw [show (jsonOk x && decide (0 ≤ nameAt x.names s)) = false from HN.out]; rfl)
      have fb0_0 : w4.cell? ⟨w.heap.size, 0, none⟩ = some (Value.int IntKind.i64 x.kind) := b0.out.cell 0 rfl
      have fb0_1 : w4.cell? ⟨w.heap.size, 1, none⟩ = some (Value.int IntKind.i64 x.n) := b0.out.cell 1 rfl
      have fb0_2 : w4.cell? ⟨w.heap.size, 2, none⟩ = some (Value.string x.s) := b0.out.cell 2 rfl
      have fb0_3 : w4.cell? ⟨w.heap.size, 3, none⟩ = some (Value.slice A1 x.list.length c1) := b0.out.cell 3 rfl
      have fb0_4 : w4.cell? ⟨w.heap.size, 4, none⟩ = some (Value.slice A2 x.names.length c2) := b0.out.cell 4 rfl
      have fb0_z := b0.out.frozen
      have fb1_0 : w4.cell? ⟨w.heap.size + 1, 0, none⟩ = some (Value.int IntKind.i64 0) := b1.out.cell 0 rfl
      have fb1_1 : w4.cell? ⟨w.heap.size + 1, 1, none⟩ = some (Value.int IntKind.i64 0) := b1.out.cell 1 rfl
      have fb1_2 : w4.cell? ⟨w.heap.size + 1, 2, none⟩ = some (Value.string ⟨#[]⟩) := b1.out.cell 2 rfl
      have fb1_3 : w4.cell? ⟨w.heap.size + 1, 3, none⟩ = some (Value.slice none 0 0) := b1.out.cell 3 rfl
      have fb1_4 : w4.cell? ⟨w.heap.size + 1, 4, none⟩ = some (Value.slice none 0 0) := b1.out.cell 4 rfl
      have fb1_z := b1.out.frozen
      go_wp2_with fail
      refine bodyPost_retW (v := .tuple #[.agg #[Value.int IntKind.i64 0, Value.int IntKind.i64 0, Value.string ⟨#[]⟩, Value.slice none 0 0, Value.slice none 0 0], .bool false]) (by simp [results, Tryd.results81, go_sem, fb0_0, fb0_1, fb0_2, fb0_3, fb0_4, fb0_z, fb1_0, fb1_1, fb1_2, fb1_3, fb1_4, fb1_z]) rfl ?_
      intro W hW
      clear fb0_0 fb0_1 fb0_2 fb0_3 fb0_4 fb0_z fb1_0 fb1_1 fb1_2 fb1_3 fb1_4 fb1_z
      have hz_ : w4.heap.size ≤ W.heap.size := by rw [hW]; simp
      have eF : Fr w4 W (fun k => k = w.heap.size + 1 ∨ w4.heap.size ≤ k) := by rw [hW]; (repeat (first | with_reducible refine Fr.setCell ?_ _ (fun _ => by simp <;> omega) _ | with_reducible refine Fr.alloc ?_ _ | with_reducible refine Fr.drew ?_)); exact Fr.refl _ _
      have z1_ := z1.out; have z2_ := z2.out; have z3_ := z3.out; have z4_ := z4.out
      have hB := Hd.mk (((Fr.of_below hB.out (fun k => k = w.heap.size + 1 ∨ w4.heap.size ≤ k)).then_ eF (fun k hk _ => hk)).below (fun k hk => by have := hB.out.size; omega))
      have b0 := Hd.mk (b0.out.fr eF (fun h => by have hlt_ := b0.out.lt; (try simp only at h); omega))
      have b1 := Hd.mk (show Blk W (w.heap.size + 1) #[Value.int IntKind.i64 0, Value.int IntKind.i64 0, Value.string ⟨#[]⟩, Value.slice none 0 0, Value.slice none 0 0] 40 by rw [hW]; exact (Blk.all b1.out [Value.int IntKind.i64 0, Value.int IntKind.i64 0, Value.string ⟨#[]⟩, Value.slice none 0 0, Value.slice none 0 0] rfl))
      clear hW eF
      have z5 := Hd.mk hz_; clear hz_
      exact ⟨_, by rw [HN.out], by rw [HF.out]; exact ZJ m _ _, hB.out⟩
    · obtain ⟨q, rfl⟩ := Int.eq_ofNat_of_zero_le (Int.not_lt.1 h0)
      have hq : q < x.list.length := by
        have h1 := nameAt_lt x.names s q HAT.out.symm
        have h2 := jsonOk_names x hb h1
        omega
      have HN := Hd.mk (show hasField x s = true by unfold hasField; rw [hb, ← HAT.out, decide_eq_true (by omega)]; rfl)
      have HF := Hd.mk (show field x s = x.list[q] by
        unfold field
        rw [show (jsonOk x && decide (0 ≤ nameAt x.names s)) = true from HN.out, if_pos rfl, ← HAT.out, Int.toNat_natCast, List.getD_eq_getElem?_getD, List.getElem?_eq_getElem hq]
        rfl)
      clear h0
      have h0 : (0 : Int) ≤ (q : Int) := by omega
      obtain ⟨ad, cs0, rfl, hK0, e0, e1⟩ := C_at HR1.out hB.out q hq
      obtain ⟨m, rfl⟩ : ∃ m1 : Nat, m = m1 + 1 := by cases m with | zero => exact hK0.elim | succ m => exact ⟨m, rfl⟩
      obtain ⟨A3, c3, A4, c4, rfl, hs3, ⟨hc3, hr3⟩, hc4, hr4⟩ := tJ_K.1 hK0
      have hbk : bulkJ (m + 1) x.list[q] ≤ 4194304 := by
        have h1 := bulkL_mem (bulkJ (m + 1)) (List.getElem_mem hq)
        have h2 := HL.out
        simp only [bulkJ] at h1 h2 ⊢
        omega
      have HKe := Hd.mk hK0; clear hK0 hr3 hr4
      have x0 : w4.cell? (ad.add (q * 5)) = some (Value.int IntKind.i64 x.list[q].kind) := e0 _ rfl
      have x1 : w4.cell? ⟨(ad.add (q * 5)).block, (ad.add (q * 5)).off + 1, none⟩ = some (Value.int IntKind.i64 x.list[q].n) := e1 0 _ rfl
      have x2 : w4.cell? ⟨(ad.add (q * 5)).block, (ad.add (q * 5)).off + 2, none⟩ = some (Value.string x.list[q].s) := e1 1 _ rfl
      have x3 : w4.cell? ⟨(ad.add (q * 5)).block, (ad.add (q * 5)).off + 3, none⟩ = some (Value.slice A3 x.list[q].list.length c3) := e1 2 _ rfl
      have x4 : w4.cell? ⟨(ad.add (q * 5)).block, (ad.add (q * 5)).off + 4, none⟩ = some (Value.slice A4 x.list[q].names.length c4) := e1 3 _ rfl
      clear e0 e1
      have hBq := Hd.mk (Below.refl w4.heap.size w4)
      have fb0_0 : w4.cell? ⟨w.heap.size, 0, none⟩ = some (Value.int IntKind.i64 x.kind) := b0.out.cell 0 rfl
      have fb0_1 : w4.cell? ⟨w.heap.size, 1, none⟩ = some (Value.int IntKind.i64 x.n) := b0.out.cell 1 rfl
      have fb0_2 : w4.cell? ⟨w.heap.size, 2, none⟩ = some (Value.string x.s) := b0.out.cell 2 rfl
      have fb0_3 : w4.cell? ⟨w.heap.size, 3, none⟩ = some (Value.slice (some ad) x.list.length c1) := b0.out.cell 3 rfl
      have fb0_4 : w4.cell? ⟨w.heap.size, 4, none⟩ = some (Value.slice A2 x.names.length c2) := b0.out.cell 4 rfl
      have fb0_z := b0.out.frozen
      have fb1_0 : w4.cell? ⟨w.heap.size + 1, 0, none⟩ = some (Value.int IntKind.i64 0) := b1.out.cell 0 rfl
      have fb1_1 : w4.cell? ⟨w.heap.size + 1, 1, none⟩ = some (Value.int IntKind.i64 0) := b1.out.cell 1 rfl
      have fb1_2 : w4.cell? ⟨w.heap.size + 1, 2, none⟩ = some (Value.string ⟨#[]⟩) := b1.out.cell 2 rfl
      have fb1_3 : w4.cell? ⟨w.heap.size + 1, 3, none⟩ = some (Value.slice none 0 0) := b1.out.cell 3 rfl
      have fb1_4 : w4.cell? ⟨w.heap.size + 1, 4, none⟩ = some (Value.slice none 0 0) := b1.out.cell 4 rfl
      have fb1_z := b1.out.frozen
      go_wp2_with fail
      clear fb0_0 fb0_1 fb0_2 fb0_3 fb0_4 fb0_z fb1_0 fb1_1 fb1_2 fb1_3 fb1_4 fb1_z
      clear x0 x1 x2 x3 x4
      apply calls_gen; intro W5 hW
      have hz_ : w4.heap.size ≤ W5.heap.size := by rw [hW]; simp
      have hE : Below w4.heap.size w4 W5 := by rw [hW]; (repeat (first | with_reducible refine below_alloc ?_ _ | with_reducible refine below_drew ?_)); exact Below.refl _ _
      have hB := Hd.mk (below_then hB.out hE)
      have hBq := Hd.mk (below_then hBq.out hE)
      have b0 := Hd.mk (b0.out.below hE)
      have b1 := Hd.mk (b1.out.below hE)
      clear hW hE
      have z5 := Hd.mk hz_; clear hz_
      refine (impl_copyJson x.list[q] _ _ (Ty.K_below _ hBq.out HKe.out) hbk).mono ?_
      rintro e w6 ⟨cs', rfl, hO, hX⟩
      have b0 := Hd.mk (b0.out.below hX)
      have b1 := Hd.mk (b1.out.below hX)
      have hB := Hd.mk (below_then hB.out hX)
      have hz_ := hX.size
      have hBq := Hd.mk (below_then hBq.out hX)
      clear hX
      have z6 := Hd.mk hz_; clear hz_
      obtain ⟨v3, v4, _, _, rfl, hsz3, hr3, hr4, _⟩ := tJ_O.1 hO
      obtain ⟨D3, d3, rfl, _, _⟩ := R_C hr3
      obtain ⟨D4, d4, rfl, _, _⟩ := R_C hr4
      clear hr3 hr4
      replace hO := Hd.mk (show (tJ (m + 1)).O w6 (rng W5.heap.size w6.heap.size) x.list[q] _ from Ty.O_bound _ hO)
      have fb0_0 : w6.cell? ⟨w.heap.size, 0, none⟩ = some (Value.int IntKind.i64 x.kind) := b0.out.cell 0 rfl
      have fb0_1 : w6.cell? ⟨w.heap.size, 1, none⟩ = some (Value.int IntKind.i64 x.n) := b0.out.cell 1 rfl
      have fb0_2 : w6.cell? ⟨w.heap.size, 2, none⟩ = some (Value.string x.s) := b0.out.cell 2 rfl
      have fb0_3 : w6.cell? ⟨w.heap.size, 3, none⟩ = some (Value.slice (some ad) x.list.length c1) := b0.out.cell 3 rfl
      have fb0_4 : w6.cell? ⟨w.heap.size, 4, none⟩ = some (Value.slice A2 x.names.length c2) := b0.out.cell 4 rfl
      have fb0_z := b0.out.frozen
      have fb1_0 : w6.cell? ⟨w.heap.size + 1, 0, none⟩ = some (Value.int IntKind.i64 0) := b1.out.cell 0 rfl
      have fb1_1 : w6.cell? ⟨w.heap.size + 1, 1, none⟩ = some (Value.int IntKind.i64 0) := b1.out.cell 1 rfl
      have fb1_2 : w6.cell? ⟨w.heap.size + 1, 2, none⟩ = some (Value.string ⟨#[]⟩) := b1.out.cell 2 rfl
      have fb1_3 : w6.cell? ⟨w.heap.size + 1, 3, none⟩ = some (Value.slice none 0 0) := b1.out.cell 3 rfl
      have fb1_4 : w6.cell? ⟨w.heap.size + 1, 4, none⟩ = some (Value.slice none 0 0) := b1.out.cell 4 rfl
      have fb1_z := b1.out.frozen
      go_wp2_with fail
      refine bodyPost_retW (v := .tuple #[.agg #[Value.int IntKind.i64 x.list[q].kind, Value.int IntKind.i64 x.list[q].n, Value.string x.list[q].s, Value.slice D3 x.list[q].list.length d3, Value.slice D4 x.list[q].names.length d4], .bool true]) (by simp [results, Tryd.results81, go_sem, fb0_0, fb0_1, fb0_2, fb0_3, fb0_4, fb0_z, fb1_0, fb1_1, fb1_2, fb1_3, fb1_4, fb1_z]) rfl ?_
      intro W hW
      clear fb0_0 fb0_1 fb0_2 fb0_3 fb0_4 fb0_z fb1_0 fb1_1 fb1_2 fb1_3 fb1_4 fb1_z
      have hz_ : w6.heap.size ≤ W.heap.size := by rw [hW]; simp
      have eF : Fr w6 W (fun k => k = w.heap.size + 1 ∨ w6.heap.size ≤ k) := by rw [hW]; (repeat (first | with_reducible refine Fr.setCell ?_ _ (fun _ => by simp <;> omega) _ | with_reducible refine Fr.alloc ?_ _ | with_reducible refine Fr.drew ?_)); exact Fr.refl _ _
      have z1_ := z1.out; have z2_ := z2.out; have z3_ := z3.out; have z4_ := z4.out; have z5_ := z5.out; have z6_ := z6.out
      have hB := Hd.mk (((Fr.of_below hB.out (fun k => k = w.heap.size + 1 ∨ w6.heap.size ≤ k)).then_ eF (fun k hk _ => hk)).below (fun k hk => by have := hB.out.size; omega))
      have b0 := Hd.mk (b0.out.fr eF (fun h => by have hlt_ := b0.out.lt; (try simp only at h); omega))
      have b1 := Hd.mk (show Blk W (w.heap.size + 1) #[Value.int IntKind.i64 x.list[q].kind, Value.int IntKind.i64 x.list[q].n, Value.string x.list[q].s, Value.slice D3 x.list[q].list.length d3, Value.slice D4 x.list[q].names.length d4] 40 by rw [hW]; exact (Blk.all b1.out [Value.int IntKind.i64 x.list[q].kind, Value.int IntKind.i64 x.list[q].n, Value.string x.list[q].s, Value.slice D3 x.list[q].list.length d3, Value.slice D4 x.list[q].names.length d4] rfl))
      have hO := Hd.mk (Ty.O_fr hO.out eF (fun k hk hl h => by skip; (try simp only [rng] at hk); (try simp only at hk); (try simp only at h); omega))
      clear hW eF
      have z7 := Hd.mk hz_; clear hz_
      exact ⟨[Value.int IntKind.i64 x.list[q].kind, Value.int IntKind.i64 x.list[q].n, Value.string x.list[q].s, Value.slice D3 x.list[q].list.length d3, Value.slice D4 x.list[q].names.length d4], by rw [HN.out], by rw [HF.out]; exact (tJ_le (by omega : m + 1 ≤ m + 1 + 1)).O _ _ _ _ (Ty.O_mono _ (fun k hk => by have := hk.1; have := hB.out.size; have z1_ := z1.out; have z2_ := z2.out; have z3_ := z3.out; have z4_ := z4.out; have z5_ := z5.out; have z6_ := z6.out; omega) hO.out), hB.out⟩
set_option maxHeartbeats 4000000 in
set_option maxRecDepth 100000 in
theorem spec_Field {m : Nat} (x : J) (cs : List Value) (s : ByteArray) (w : World) (hk : (tJ (m + 1)).K w x cs) (hl : bulkJ (m + 1) x ≤ 4194304) :
    Calls Tryd.prog 79 #[.agg cs.toArray, .string s] w fun e w' => ∃ cs, e = .returned (.tuple #[.agg cs.toArray, .bool (hasField x s)]) ∧ (tJ (m + 1)).O w' (fun k => w.heap.size ≤ k) (field x s) cs ∧ Below w.heap.size w w' := by
  have HK := Hd.mk hk
  obtain ⟨A1, c1, A2, c2, rfl, hs, ⟨hc1, hr1⟩, hc2, hr2⟩ := tJ_K.1 hk
  have hm := hr1.1
  have HR1 := Hd.mk hr1
  have HR2 := Hd.mk hr2; clear hr1 hr2 hk
  have HL := Hd.mk hl; clear hl
  have hB := Hd.mk (Below.refl w.heap.size w)
  go_enter Tryd.func79, Tryd.ntmps79
  go_wp2_with fail
  apply calls_gen; intro W1 hW
  have hz_ : w.heap.size + 2 ≤ W1.heap.size := by rw [hW]; simp
  have hE : Below w.heap.size w W1 := by rw [hW]; (repeat (first | with_reducible refine below_alloc ?_ _ | with_reducible refine below_drew ?_)); exact Below.refl _ _
  have hB := Hd.mk (below_then hB.out hE)
  have b0 := Hd.mk (show Blk W1 (w.heap.size) #[Value.int IntKind.i64 x.kind, Value.int IntKind.i64 x.n, Value.string x.s, Value.slice A1 x.list.length c1, Value.slice A2 x.names.length c2] 40 by rw [hW]; first | exact ((Blk.new _ _ _).alloc _) | (simpa using ((Blk.new _ _ _).alloc _)))
  have b1 := Hd.mk (show Blk W1 (w.heap.size + 1) #[Value.int IntKind.i64 0, Value.int IntKind.i64 0, Value.string ⟨#[]⟩, Value.slice none 0 0, Value.slice none 0 0] 40 by rw [hW]; first | exact (Blk.new1 _ _ _ _) | (simpa using (Blk.new1 _ _ _ _)))
  clear hW hE
  have z1 := Hd.mk hz_; clear hz_
  refine (spec_l1At x _ s _ (Ty.K_below _ hB.out HK.out)).mono ?_
  rintro e w2 ⟨rfl, hX⟩
  have b0 := Hd.mk (b0.out.below hX)
  have b1 := Hd.mk (b1.out.below hX)
  have hB := Hd.mk (below_then hB.out hX)
  have hz_ := hX.size
  clear hX
  have z2 := Hd.mk hz_; clear hz_
  obtain ⟨at_, hat⟩ : ∃ z, z = nameAt x.names s := ⟨_, rfl⟩
  rw [← hat]
  have HAT := Hd.mk hat; clear hat
  have fb0_0 : w2.cell? ⟨w.heap.size, 0, none⟩ = some (Value.int IntKind.i64 x.kind) := b0.out.cell 0 rfl
  have fb0_1 : w2.cell? ⟨w.heap.size, 1, none⟩ = some (Value.int IntKind.i64 x.n) := b0.out.cell 1 rfl
  have fb0_2 : w2.cell? ⟨w.heap.size, 2, none⟩ = some (Value.string x.s) := b0.out.cell 2 rfl
  have fb0_3 : w2.cell? ⟨w.heap.size, 3, none⟩ = some (Value.slice A1 x.list.length c1) := b0.out.cell 3 rfl
  have fb0_4 : w2.cell? ⟨w.heap.size, 4, none⟩ = some (Value.slice A2 x.names.length c2) := b0.out.cell 4 rfl
  have fb0_z := b0.out.frozen
  have fb1_0 : w2.cell? ⟨w.heap.size + 1, 0, none⟩ = some (Value.int IntKind.i64 0) := b1.out.cell 0 rfl
  have fb1_1 : w2.cell? ⟨w.heap.size + 1, 1, none⟩ = some (Value.int IntKind.i64 0) := b1.out.cell 1 rfl
  have fb1_2 : w2.cell? ⟨w.heap.size + 1, 2, none⟩ = some (Value.string ⟨#[]⟩) := b1.out.cell 2 rfl
  have fb1_3 : w2.cell? ⟨w.heap.size + 1, 3, none⟩ = some (Value.slice none 0 0) := b1.out.cell 3 rfl
  have fb1_4 : w2.cell? ⟨w.heap.size + 1, 4, none⟩ = some (Value.slice none 0 0) := b1.out.cell 4 rfl
  have fb1_z := b1.out.frozen
  go_wp2_with fail
  clear fb0_0 fb0_1 fb0_2 fb0_3 fb0_4 fb0_z fb1_0 fb1_1 fb1_2 fb1_3 fb1_4 fb1_z
  apply calls_gen; intro W3 hW
  have hz_ : w2.heap.size ≤ W3.heap.size := by rw [hW]; simp
  have hE : Below w2.heap.size w2 W3 := by rw [hW]; (repeat (first | with_reducible refine below_alloc ?_ _ | with_reducible refine below_drew ?_)); exact Below.refl _ _
  have hB := Hd.mk (below_then hB.out hE)
  have b0 := Hd.mk (b0.out.below hE)
  have b1 := Hd.mk (b1.out.below hE)
  clear hW hE
  have z3 := Hd.mk hz_; clear hz_
  refine (spec_JsonOk x _ _ (Ty.K_below _ hB.out HK.out)).mono ?_
  rintro e w4 ⟨rfl, hX⟩
  have b0 := Hd.mk (b0.out.below hX)
  have b1 := Hd.mk (b1.out.below hX)
  have hB := Hd.mk (below_then hB.out hX)
  have hz_ := hX.size
  clear hX
  have z4 := Hd.mk hz_; clear hz_
  cases hb : jsonOk x
  · have HN := Hd.mk (show hasField x s = false by unfold hasField; rw [hb]; rfl)
    have HF := Hd.mk (show field x s = J.null by unfold field; rw [show (jsonOk x && decide (0 ≤ nameAt x.names s)) = false from HN.out]; rfl)
    have fb0_0 : w4.cell? ⟨w.heap.size, 0, none⟩ = some (Value.int IntKind.i64 x.kind) := b0.out.cell 0 rfl
    have fb0_1 : w4.cell? ⟨w.heap.size, 1, none⟩ = some (Value.int IntKind.i64 x.n) := b0.out.cell 1 rfl
    have fb0_2 : w4.cell? ⟨w.heap.size, 2, none⟩ = some (Value.string x.s) := b0.out.cell 2 rfl
    have fb0_3 : w4.cell? ⟨w.heap.size, 3, none⟩ = some (Value.slice A1 x.list.length c1) := b0.out.cell 3 rfl
    have fb0_4 : w4.cell? ⟨w.heap.size, 4, none⟩ = some (Value.slice A2 x.names.length c2) := b0.out.cell 4 rfl
    have fb0_z := b0.out.frozen
    have fb1_0 : w4.cell? ⟨w.heap.size + 1, 0, none⟩ = some (Value.int IntKind.i64 0) := b1.out.cell 0 rfl
    have fb1_1 : w4.cell? ⟨w.heap.size + 1, 1, none⟩ = some (Value.int IntKind.i64 0) := b1.out.cell 1 rfl
    have fb1_2 : w4.cell? ⟨w.heap.size + 1, 2, none⟩ = some (Value.string ⟨#[]⟩) := b1.out.cell 2 rfl
    have fb1_3 : w4.cell? ⟨w.heap.size + 1, 3, none⟩ = some (Value.slice none 0 0) := b1.out.cell 3 rfl
    have fb1_4 : w4.cell? ⟨w.heap.size + 1, 4, none⟩ = some (Value.slice none 0 0) := b1.out.cell 4 rfl
    have fb1_z := b1.out.frozen
    go_wp2_with fail
    refine bodyPost_retW (v := .tuple #[.agg #[Value.int IntKind.i64 0, Value.int IntKind.i64 0, Value.string ⟨#[]⟩, Value.slice none 0 0, Value.slice none 0 0], .bool false]) (by simp [results, Tryd.results79, go_sem, fb0_0, fb0_1, fb0_2, fb0_3, fb0_4, fb0_z, fb1_0, fb1_1, fb1_2, fb1_3, fb1_4, fb1_z]) rfl ?_
    intro W hW
    clear fb0_0 fb0_1 fb0_2 fb0_3 fb0_4 fb0_z fb1_0 fb1_1 fb1_2 fb1_3 fb1_4 fb1_z
    have hz_ : w4.heap.size ≤ W.heap.size := by rw [hW]; simp
    have eF : Fr w4 W (fun k => k = w.heap.size + 1 ∨ w4.heap.size ≤ k) := by rw [hW]; (repeat (first | with_reducible refine Fr.setCell ?_ _ (fun _ => by simp <;> omega) _ | with_reducible refine Fr.alloc ?_ _ | with_reducible refine Fr.drew ?_)); exact Fr.refl _ _
    have z1_ := z1.out; have z2_ := z2.out; have z3_ := z3.out; have z4_ := z4.out
    have hB := Hd.mk (((Fr.of_below hB.out (fun k => k = w.heap.size + 1 ∨ w4.heap.size ≤ k)).then_ eF (fun k hk _ => hk)).below (fun k hk => by have := hB.out.size; omega))
    have b0 := Hd.mk (b0.out.fr eF (fun h => by have hlt_ := b0.out.lt; (try simp only at h); omega))
    have b1 := Hd.mk (show Blk W (w.heap.size + 1) #[Value.int IntKind.i64 0, Value.int IntKind.i64 0, Value.string ⟨#[]⟩, Value.slice none 0 0, Value.slice none 0 0] 40 by rw [hW]; exact (Blk.all b1.out [Value.int IntKind.i64 0, Value.int IntKind.i64 0, Value.string ⟨#[]⟩, Value.slice none 0 0, Value.slice none 0 0] rfl))
    clear hW eF
    have z5 := Hd.mk hz_; clear hz_
    exact ⟨_, by rw [HN.out], by rw [HF.out]; exact ZJ m _ _, hB.out⟩
  · cases hk5 : (x.kind != 5)
    case true =>
      have HN := Hd.mk (show hasField x s = false by unfold hasField; rw [hb, nameAt_none x s hb hk5]; rfl)
      have HF := Hd.mk (show field x s = J.null by unfold field; rw [show (jsonOk x && decide (0 ≤ nameAt x.names s)) = false from HN.out]; rfl)
      have fb0_0 : w4.cell? ⟨w.heap.size, 0, none⟩ = some (Value.int IntKind.i64 x.kind) := b0.out.cell 0 rfl
      have fb0_1 : w4.cell? ⟨w.heap.size, 1, none⟩ = some (Value.int IntKind.i64 x.n) := b0.out.cell 1 rfl
      have fb0_2 : w4.cell? ⟨w.heap.size, 2, none⟩ = some (Value.string x.s) := b0.out.cell 2 rfl
      have fb0_3 : w4.cell? ⟨w.heap.size, 3, none⟩ = some (Value.slice A1 x.list.length c1) := b0.out.cell 3 rfl
      have fb0_4 : w4.cell? ⟨w.heap.size, 4, none⟩ = some (Value.slice A2 x.names.length c2) := b0.out.cell 4 rfl
      have fb0_z := b0.out.frozen
      have fb1_0 : w4.cell? ⟨w.heap.size + 1, 0, none⟩ = some (Value.int IntKind.i64 0) := b1.out.cell 0 rfl
      have fb1_1 : w4.cell? ⟨w.heap.size + 1, 1, none⟩ = some (Value.int IntKind.i64 0) := b1.out.cell 1 rfl
      have fb1_2 : w4.cell? ⟨w.heap.size + 1, 2, none⟩ = some (Value.string ⟨#[]⟩) := b1.out.cell 2 rfl
      have fb1_3 : w4.cell? ⟨w.heap.size + 1, 3, none⟩ = some (Value.slice none 0 0) := b1.out.cell 3 rfl
      have fb1_4 : w4.cell? ⟨w.heap.size + 1, 4, none⟩ = some (Value.slice none 0 0) := b1.out.cell 4 rfl
      have fb1_z := b1.out.frozen
      go_wp2_with fail
      refine bodyPost_retW (v := .tuple #[.agg #[Value.int IntKind.i64 0, Value.int IntKind.i64 0, Value.string ⟨#[]⟩, Value.slice none 0 0, Value.slice none 0 0], .bool false]) (by simp [results, Tryd.results79, go_sem, fb0_0, fb0_1, fb0_2, fb0_3, fb0_4, fb0_z, fb1_0, fb1_1, fb1_2, fb1_3, fb1_4, fb1_z]) rfl ?_
      intro W hW
      clear fb0_0 fb0_1 fb0_2 fb0_3 fb0_4 fb0_z fb1_0 fb1_1 fb1_2 fb1_3 fb1_4 fb1_z
      have hz_ : w4.heap.size ≤ W.heap.size := by rw [hW]; simp
      have eF : Fr w4 W (fun k => k = w.heap.size + 1 ∨ w4.heap.size ≤ k) := by rw [hW]; (repeat (first | with_reducible refine Fr.setCell ?_ _ (fun _ => by simp <;> omega) _ | with_reducible refine Fr.alloc ?_ _ | with_reducible refine Fr.drew ?_)); exact Fr.refl _ _
      have z1_ := z1.out; have z2_ := z2.out; have z3_ := z3.out; have z4_ := z4.out
      have hB := Hd.mk (((Fr.of_below hB.out (fun k => k = w.heap.size + 1 ∨ w4.heap.size ≤ k)).then_ eF (fun k hk _ => hk)).below (fun k hk => by have := hB.out.size; omega))
      have b0 := Hd.mk (b0.out.fr eF (fun h => by have hlt_ := b0.out.lt; (try simp only at h); omega))
      have b1 := Hd.mk (show Blk W (w.heap.size + 1) #[Value.int IntKind.i64 0, Value.int IntKind.i64 0, Value.string ⟨#[]⟩, Value.slice none 0 0, Value.slice none 0 0] 40 by rw [hW]; exact (Blk.all b1.out [Value.int IntKind.i64 0, Value.int IntKind.i64 0, Value.string ⟨#[]⟩, Value.slice none 0 0, Value.slice none 0 0] rfl))
      clear hW eF
      have z5 := Hd.mk hz_; clear hz_
      exact ⟨_, by rw [HN.out], by rw [HF.out]; exact ZJ m _ _, hB.out⟩
    by_cases h0 : at_ < 0
    · have HN := Hd.mk (show hasField x s = false by unfold hasField; rw [hb, ← HAT.out, decide_eq_false (by omega)]; rfl)
      have HF := Hd.mk (show field x s = J.null by unfold field; rw [show (jsonOk x && decide (0 ≤ nameAt x.names s)) = false from HN.out]; rfl)
      have fb0_0 : w4.cell? ⟨w.heap.size, 0, none⟩ = some (Value.int IntKind.i64 x.kind) := b0.out.cell 0 rfl
      have fb0_1 : w4.cell? ⟨w.heap.size, 1, none⟩ = some (Value.int IntKind.i64 x.n) := b0.out.cell 1 rfl
      have fb0_2 : w4.cell? ⟨w.heap.size, 2, none⟩ = some (Value.string x.s) := b0.out.cell 2 rfl
      have fb0_3 : w4.cell? ⟨w.heap.size, 3, none⟩ = some (Value.slice A1 x.list.length c1) := b0.out.cell 3 rfl
      have fb0_4 : w4.cell? ⟨w.heap.size, 4, none⟩ = some (Value.slice A2 x.names.length c2) := b0.out.cell 4 rfl
      have fb0_z := b0.out.frozen
      have fb1_0 : w4.cell? ⟨w.heap.size + 1, 0, none⟩ = some (Value.int IntKind.i64 0) := b1.out.cell 0 rfl
      have fb1_1 : w4.cell? ⟨w.heap.size + 1, 1, none⟩ = some (Value.int IntKind.i64 0) := b1.out.cell 1 rfl
      have fb1_2 : w4.cell? ⟨w.heap.size + 1, 2, none⟩ = some (Value.string ⟨#[]⟩) := b1.out.cell 2 rfl
      have fb1_3 : w4.cell? ⟨w.heap.size + 1, 3, none⟩ = some (Value.slice none 0 0) := b1.out.cell 3 rfl
      have fb1_4 : w4.cell? ⟨w.heap.size + 1, 4, none⟩ = some (Value.slice none 0 0) := b1.out.cell 4 rfl
      have fb1_z := b1.out.frozen
      go_wp2_with fail
      refine bodyPost_retW (v := .tuple #[.agg #[Value.int IntKind.i64 0, Value.int IntKind.i64 0, Value.string ⟨#[]⟩, Value.slice none 0 0, Value.slice none 0 0], .bool false]) (by simp [results, Tryd.results79, go_sem, fb0_0, fb0_1, fb0_2, fb0_3, fb0_4, fb0_z, fb1_0, fb1_1, fb1_2, fb1_3, fb1_4, fb1_z]) rfl ?_
      intro W hW
      clear fb0_0 fb0_1 fb0_2 fb0_3 fb0_4 fb0_z fb1_0 fb1_1 fb1_2 fb1_3 fb1_4 fb1_z
      have hz_ : w4.heap.size ≤ W.heap.size := by rw [hW]; simp
      have eF : Fr w4 W (fun k => k = w.heap.size + 1 ∨ w4.heap.size ≤ k) := by rw [hW]; (repeat (first | with_reducible refine Fr.setCell ?_ _ (fun _ => by simp <;> omega) _ | with_reducible refine Fr.alloc ?_ _ | with_reducible refine Fr.drew ?_)); exact Fr.refl _ _
      have z1_ := z1.out; have z2_ := z2.out; have z3_ := z3.out; have z4_ := z4.out
      have hB := Hd.mk (((Fr.of_below hB.out (fun k => k = w.heap.size + 1 ∨ w4.heap.size ≤ k)).then_ eF (fun k hk _ => hk)).below (fun k hk => by have := hB.out.size; omega))
      have b0 := Hd.mk (b0.out.fr eF (fun h => by have hlt_ := b0.out.lt; (try simp only at h); omega))
      have b1 := Hd.mk (show Blk W (w.heap.size + 1) #[Value.int IntKind.i64 0, Value.int IntKind.i64 0, Value.string ⟨#[]⟩, Value.slice none 0 0, Value.slice none 0 0] 40 by rw [hW]; exact (Blk.all b1.out [Value.int IntKind.i64 0, Value.int IntKind.i64 0, Value.string ⟨#[]⟩, Value.slice none 0 0, Value.slice none 0 0] rfl))
      clear hW eF
      have z5 := Hd.mk hz_; clear hz_
      exact ⟨_, by rw [HN.out], by rw [HF.out]; exact ZJ m _ _, hB.out⟩
    · obtain ⟨q, rfl⟩ := Int.eq_ofNat_of_zero_le (Int.not_lt.1 h0)
      have hq : q < x.list.length := by
        have h1 := nameAt_lt x.names s q HAT.out.symm
        have h2 := jsonOk_names x hb h1
        omega
      have HN := Hd.mk (show hasField x s = true by unfold hasField; rw [hb, ← HAT.out, decide_eq_true (by omega)]; rfl)
      have HF := Hd.mk (show field x s = x.list[q] by
        unfold field
        rw [show (jsonOk x && decide (0 ≤ nameAt x.names s)) = true from HN.out, if_pos rfl, ← HAT.out, Int.toNat_natCast, List.getD_eq_getElem?_getD, List.getElem?_eq_getElem hq]
        rfl)
      clear h0
      have h0 : (0 : Int) ≤ (q : Int) := by omega
      obtain ⟨ad, cs0, rfl, hK0, e0, e1⟩ := C_at HR1.out hB.out q hq
      obtain ⟨m, rfl⟩ : ∃ m1 : Nat, m = m1 + 1 := by cases m with | zero => exact hK0.elim | succ m => exact ⟨m, rfl⟩
      obtain ⟨A3, c3, A4, c4, rfl, hs3, ⟨hc3, hr3⟩, hc4, hr4⟩ := tJ_K.1 hK0
      have hbk : bulkJ (m + 1) x.list[q] ≤ 4194304 := by
        have h1 := bulkL_mem (bulkJ (m + 1)) (List.getElem_mem hq)
        have h2 := HL.out
        simp only [bulkJ] at h1 h2 ⊢
        omega
      have HKe := Hd.mk hK0; clear hK0 hr3 hr4
      have x0 : w4.cell? (ad.add (q * 5)) = some (Value.int IntKind.i64 x.list[q].kind) := e0 _ rfl
      have x1 : w4.cell? ⟨(ad.add (q * 5)).block, (ad.add (q * 5)).off + 1, none⟩ = some (Value.int IntKind.i64 x.list[q].n) := e1 0 _ rfl
      have x2 : w4.cell? ⟨(ad.add (q * 5)).block, (ad.add (q * 5)).off + 2, none⟩ = some (Value.string x.list[q].s) := e1 1 _ rfl
      have x3 : w4.cell? ⟨(ad.add (q * 5)).block, (ad.add (q * 5)).off + 3, none⟩ = some (Value.slice A3 x.list[q].list.length c3) := e1 2 _ rfl
      have x4 : w4.cell? ⟨(ad.add (q * 5)).block, (ad.add (q * 5)).off + 4, none⟩ = some (Value.slice A4 x.list[q].names.length c4) := e1 3 _ rfl
      clear e0 e1
      have hBq := Hd.mk (Below.refl w4.heap.size w4)
      have fb0_0 : w4.cell? ⟨w.heap.size, 0, none⟩ = some (Value.int IntKind.i64 x.kind) := b0.out.cell 0 rfl
      have fb0_1 : w4.cell? ⟨w.heap.size, 1, none⟩ = some (Value.int IntKind.i64 x.n) := b0.out.cell 1 rfl
      have fb0_2 : w4.cell? ⟨w.heap.size, 2, none⟩ = some (Value.string x.s) := b0.out.cell 2 rfl
      have fb0_3 : w4.cell? ⟨w.heap.size, 3, none⟩ = some (Value.slice (some ad) x.list.length c1) := b0.out.cell 3 rfl
      have fb0_4 : w4.cell? ⟨w.heap.size, 4, none⟩ = some (Value.slice A2 x.names.length c2) := b0.out.cell 4 rfl
      have fb0_z := b0.out.frozen
      have fb1_0 : w4.cell? ⟨w.heap.size + 1, 0, none⟩ = some (Value.int IntKind.i64 0) := b1.out.cell 0 rfl
      have fb1_1 : w4.cell? ⟨w.heap.size + 1, 1, none⟩ = some (Value.int IntKind.i64 0) := b1.out.cell 1 rfl
      have fb1_2 : w4.cell? ⟨w.heap.size + 1, 2, none⟩ = some (Value.string ⟨#[]⟩) := b1.out.cell 2 rfl
      have fb1_3 : w4.cell? ⟨w.heap.size + 1, 3, none⟩ = some (Value.slice none 0 0) := b1.out.cell 3 rfl
      have fb1_4 : w4.cell? ⟨w.heap.size + 1, 4, none⟩ = some (Value.slice none 0 0) := b1.out.cell 4 rfl
      have fb1_z := b1.out.frozen
      go_wp2_with fail
      clear fb0_0 fb0_1 fb0_2 fb0_3 fb0_4 fb0_z fb1_0 fb1_1 fb1_2 fb1_3 fb1_4 fb1_z
      clear x0 x1 x2 x3 x4
      apply calls_gen; intro W5 hW
      have hz_ : w4.heap.size ≤ W5.heap.size := by rw [hW]; simp
      have hE : Below w4.heap.size w4 W5 := by rw [hW]; (repeat (first | with_reducible refine below_alloc ?_ _ | with_reducible refine below_drew ?_)); exact Below.refl _ _
      have hB := Hd.mk (below_then hB.out hE)
      have hBq := Hd.mk (below_then hBq.out hE)
      have b0 := Hd.mk (b0.out.below hE)
      have b1 := Hd.mk (b1.out.below hE)
      clear hW hE
      have z5 := Hd.mk hz_; clear hz_
      refine (spec_l1Copy x.list[q] _ _ (Ty.K_below _ hBq.out HKe.out) hbk).mono ?_
      rintro e w6 ⟨cs', rfl, hO, hX⟩
      have b0 := Hd.mk (b0.out.below hX)
      have b1 := Hd.mk (b1.out.below hX)
      have hB := Hd.mk (below_then hB.out hX)
      have hz_ := hX.size
      have hBq := Hd.mk (below_then hBq.out hX)
      clear hX
      have z6 := Hd.mk hz_; clear hz_
      obtain ⟨v3, v4, _, _, rfl, hsz3, hr3, hr4, _⟩ := tJ_O.1 hO
      obtain ⟨D3, d3, rfl, _, _⟩ := R_C hr3
      obtain ⟨D4, d4, rfl, _, _⟩ := R_C hr4
      clear hr3 hr4
      replace hO := Hd.mk (show (tJ (m + 1)).O w6 (rng W5.heap.size w6.heap.size) x.list[q] _ from Ty.O_bound _ hO)
      have fb0_0 : w6.cell? ⟨w.heap.size, 0, none⟩ = some (Value.int IntKind.i64 x.kind) := b0.out.cell 0 rfl
      have fb0_1 : w6.cell? ⟨w.heap.size, 1, none⟩ = some (Value.int IntKind.i64 x.n) := b0.out.cell 1 rfl
      have fb0_2 : w6.cell? ⟨w.heap.size, 2, none⟩ = some (Value.string x.s) := b0.out.cell 2 rfl
      have fb0_3 : w6.cell? ⟨w.heap.size, 3, none⟩ = some (Value.slice (some ad) x.list.length c1) := b0.out.cell 3 rfl
      have fb0_4 : w6.cell? ⟨w.heap.size, 4, none⟩ = some (Value.slice A2 x.names.length c2) := b0.out.cell 4 rfl
      have fb0_z := b0.out.frozen
      have fb1_0 : w6.cell? ⟨w.heap.size + 1, 0, none⟩ = some (Value.int IntKind.i64 0) := b1.out.cell 0 rfl
      have fb1_1 : w6.cell? ⟨w.heap.size + 1, 1, none⟩ = some (Value.int IntKind.i64 0) := b1.out.cell 1 rfl
      have fb1_2 : w6.cell? ⟨w.heap.size + 1, 2, none⟩ = some (Value.string ⟨#[]⟩) := b1.out.cell 2 rfl
      have fb1_3 : w6.cell? ⟨w.heap.size + 1, 3, none⟩ = some (Value.slice none 0 0) := b1.out.cell 3 rfl
      have fb1_4 : w6.cell? ⟨w.heap.size + 1, 4, none⟩ = some (Value.slice none 0 0) := b1.out.cell 4 rfl
      have fb1_z := b1.out.frozen
      go_wp2_with fail
      refine bodyPost_retW (v := .tuple #[.agg #[Value.int IntKind.i64 x.list[q].kind, Value.int IntKind.i64 x.list[q].n, Value.string x.list[q].s, Value.slice D3 x.list[q].list.length d3, Value.slice D4 x.list[q].names.length d4], .bool true]) (by simp [results, Tryd.results79, go_sem, fb0_0, fb0_1, fb0_2, fb0_3, fb0_4, fb0_z, fb1_0, fb1_1, fb1_2, fb1_3, fb1_4, fb1_z]) rfl ?_
      intro W hW
      clear fb0_0 fb0_1 fb0_2 fb0_3 fb0_4 fb0_z fb1_0 fb1_1 fb1_2 fb1_3 fb1_4 fb1_z
      have hz_ : w6.heap.size ≤ W.heap.size := by rw [hW]; simp
      have eF : Fr w6 W (fun k => k = w.heap.size + 1 ∨ w6.heap.size ≤ k) := by rw [hW]; (repeat (first | with_reducible refine Fr.setCell ?_ _ (fun _ => by simp <;> omega) _ | with_reducible refine Fr.alloc ?_ _ | with_reducible refine Fr.drew ?_)); exact Fr.refl _ _
      have z1_ := z1.out; have z2_ := z2.out; have z3_ := z3.out; have z4_ := z4.out; have z5_ := z5.out; have z6_ := z6.out
      have hB := Hd.mk (((Fr.of_below hB.out (fun k => k = w.heap.size + 1 ∨ w6.heap.size ≤ k)).then_ eF (fun k hk _ => hk)).below (fun k hk => by have := hB.out.size; omega))
      have b0 := Hd.mk (b0.out.fr eF (fun h => by have hlt_ := b0.out.lt; (try simp only at h); omega))
      have b1 := Hd.mk (show Blk W (w.heap.size + 1) #[Value.int IntKind.i64 x.list[q].kind, Value.int IntKind.i64 x.list[q].n, Value.string x.list[q].s, Value.slice D3 x.list[q].list.length d3, Value.slice D4 x.list[q].names.length d4] 40 by rw [hW]; exact (Blk.all b1.out [Value.int IntKind.i64 x.list[q].kind, Value.int IntKind.i64 x.list[q].n, Value.string x.list[q].s, Value.slice D3 x.list[q].list.length d3, Value.slice D4 x.list[q].names.length d4] rfl))
      have hO := Hd.mk (Ty.O_fr hO.out eF (fun k hk hl h => by skip; (try simp only [rng] at hk); (try simp only at hk); (try simp only at h); omega))
      clear hW eF
      have z7 := Hd.mk hz_; clear hz_
      exact ⟨[Value.int IntKind.i64 x.list[q].kind, Value.int IntKind.i64 x.list[q].n, Value.string x.list[q].s, Value.slice D3 x.list[q].list.length d3, Value.slice D4 x.list[q].names.length d4], by rw [HN.out], by rw [HF.out]; exact (tJ_le (by omega : m + 1 ≤ m + 1 + 1)).O _ _ _ _ (Ty.O_mono _ (fun k hk => by have := hk.1; have := hB.out.size; have z1_ := z1.out; have z2_ := z2.out; have z3_ := z3.out; have z4_ := z4.out; have z5_ := z5.out; have z6_ := z6.out; omega) hO.out), hB.out⟩
end Go.Proofs.YtkgefjjgjjmklaaDoor.X
