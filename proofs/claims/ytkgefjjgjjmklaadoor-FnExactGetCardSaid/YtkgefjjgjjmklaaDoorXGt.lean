/- What is proved here: contracts of Get. Conditions: none. -/
import Derived.Test.YtkgefjjgjjmklaaDoorXZ
import Derived.Test.YtkgefjjgjjmklaaDoorXIx
import Derived.Test.YtkgefjjgjjmklaaDoorXPe
namespace Go.Proofs.YtkgefjjgjjmklaaDoor.X
open Go.RowKit Go.Sort
set_option linter.unusedVariables false
set_option linter.unusedSimpArgs false
open Ty
/-- The place of a step in a value; -1: none. -/
def placeS (j : J) (s : ByteArray) : Int :=
  if (j.kind == 5) = true then nameAt j.names s
  else if (j.kind == 4) = true then (if idxS s.data.toList < (j.list.length : Int) then idxS s.data.toList else -1) else -1
def place0 (j : J) (s : ByteArray) : Int :=
  if (j.kind == 5) = true then nameAt j.names s else if (j.kind == 4) = true then idxI s.data.toList else -1
def placeI (j : J) (s : ByteArray) : Int := if (j.list.length : Int) ≤ place0 j s then -1 else place0 j s
theorem nameAt_le (l : List ByteArray) (s : ByteArray) : nameAt l s < l.length ∧ -1 ≤ nameAt l s ∧ (nameAt l s < 0 → nameAt l s = -1) := by
  rcases idxF_cases2 (fun x : ByteArray => s.toList == x.toList) l with h1 | ⟨h1, h2⟩
  · unfold nameAt; omega
  · unfold nameAt; omega
theorem nameAt_own {j : J} (h : ownB j = true) (s : ByteArray) : nameAt j.names s < j.list.length := by
  have h1 := nameAt_le j.names s
  rcases ownB_names j h with ⟨_, h2⟩ | h2 <;> omega
theorem place_eq {j : J} (h : ownB j = true) (s : ByteArray) : placeI j s = placeS j s := by
  unfold placeI place0 placeS
  have h1 := nameAt_own h s
  split
  · rw [if_neg (by omega)]
  · split
    · rw [idx_eq]
      split <;> split <;> omega
    · rw [if_neg (by omega)]
theorem place_lt {j : J} (h : ownB j = true) (s : ByteArray) {q : Nat} (hq : placeS j s = (q : Int)) : q < j.list.length := by
  have h1 := nameAt_own h s
  unfold placeS at hq
  split at hq
  · omega
  · split at hq
    · split at hq <;> omega
    · omega
/-- The value at the end of a way, where there is one. -/
def getV : J → List ByteArray → Option J
  | j, [] => some j
  | j, s :: l => if placeS j s < 0 then none else match j.list[(placeS j s).toNat]? with
    | some y => getV y l
    | none => none
def getJ (x : J) (way : List ByteArray) : J := if jsonOk x = true then (getV x way).getD J.null else J.null
def getB (x : J) (way : List ByteArray) : Bool := jsonOk x && (getV x way).isSome
theorem getV_no {y : J} {way : List ByteArray} {k : Nat} (hk : k < way.length) (h : placeS y way[k] < 0) : getV y (way.drop k) = none := by
  rw [List.drop_eq_getElem_cons hk, getV, if_pos h]
theorem getV_yes {y : J} {way : List ByteArray} {k : Nat} (hk : k < way.length) {q : Nat} (h : placeS y way[k] = (q : Int)) (hq : q < y.list.length) : getV y (way.drop k) = getV y.list[q] (way.drop (k + 1)) := by
  rw [List.drop_eq_getElem_cons hk, getV, if_neg (by omega), h]
  simp [List.getElem?_eq_getElem hq]
theorem sizeN_at {d : Nat} {y : J} (h : sizeN (d + 1) y ≤ 400) (q : Nat) (hq : q < y.list.length) : ∃ d', d = d' + 1 ∧ sizeN (d' + 1) y.list[q] ≤ 400 := by
  have h1 := sizeN_part h q hq
  cases d with
  | zero => simp [sizeN] at h1
  | succ d => exact ⟨d, rfl, h1⟩
theorem bulk_at {m : Nat} {w : World} {y : J} {cs : List Value} (hk : (tJ (m + 1)).K w y cs) (q : Nat) (hq : q < y.list.length) : bulkJ (m + 1) y.list[q] ≤ bulkJ (m + 1) y := by
  obtain ⟨A1, c1, A2, c2, rfl, _, ⟨_, hC⟩, _⟩ := tJ_K.1 hk
  have hx := List.getElem_mem hq
  obtain ⟨cs', hk'⟩ := C_all hC hx
  rw [bulkJ_fuel m w _ cs' hk']
  have := bulkL_mem (bulkJ m) hx
  show _ ≤ y.s.size + (y.list.length + bulkL (bulkJ m) y.list) + _
  omega
theorem K_at {m : Nat} {w : World} {y : J} {cs : List Value} (hk : (tJ (m + 1)).K w y cs) (q : Nat) (hq : q < y.list.length) : ∃ cs', (tJ (m + 1)).K w y.list[q] cs' := by
  obtain ⟨A1, c1, A2, c2, rfl, _, ⟨_, hC⟩, _⟩ := tJ_K.1 hk
  obtain ⟨cs', hk'⟩ := C_all hC (List.getElem_mem hq)
  exact ⟨cs', (tJ_le1 m).K _ _ _ hk'⟩
theorem bulk_getV {m : Nat} {w : World} : ∀ (way : List ByteArray) (y : J) (cs : List Value), (tJ (m + 1)).K w y cs → bulkJ (m + 1) ((getV y way).getD J.null) ≤ bulkJ (m + 1) y
  | [], y, cs, _ => Nat.le_refl _
  | s :: l, y, cs, hk => by
    have h0 : bulkJ (m + 1) J.null ≤ bulkJ (m + 1) y := by
      show 0 + (0 + 0) + (0 + 0) ≤ _
      omega
    unfold getV
    split
    · exact h0
    · rcases Nat.lt_or_ge (placeS y s).toNat y.list.length with h | h
      · rw [List.getElem?_eq_getElem h]
        obtain ⟨cs', hk'⟩ := K_at hk _ h
        exact Nat.le_trans (bulk_getV l _ cs' hk') (bulk_at hk _ h)
      · rw [List.getElem?_eq_none h]; exact h0
theorem bulk_getJ {m : Nat} {w : World} {x : J} {cs : List Value} (hk : (tJ (m + 1)).K w x cs) (way : List ByteArray) : bulkJ (m + 1) (getJ x way) ≤ bulkJ (m + 1) x := by
  unfold getJ
  split
  · exact bulk_getV way x cs hk
  · show 0 + (0 + 0) + (0 + 0) ≤ _
    omega
theorem idxS_bd (l : List UInt8) : -1 ≤ idxS l ∧ idxS l ≤ 999 := by
  exact idxS_le l
theorem own_size {d : Nat} {x : J} (h : sizeN (d + 1) x ≤ 400) : ownB x = true := by
  cases hb : ownB x
  · rw [sizeN_bad hb] at h; omega
  · rfl
set_option maxRecDepth 100000 in
theorem spec_l3At {m : Nat} (x : J) (cs : List Value) (s : ByteArray) (w : World) (hk : (tJ (m + 1)).K w x cs) (hs : s.size ≤ 281474976710656) :
    Calls Tryd.prog 77 #[.agg cs.toArray, .string s] w fun e w' => e = .returned (.int .i64 (placeS x s)) ∧ Below w.heap.size w w' := by
  have HK := Hd.mk hk
  obtain ⟨A1, c1, A2, c2, rfl, hs0, ⟨hc1, hr1⟩, hc2, hr2⟩ := tJ_K.1 hk
  have hm := hr1.1
  have HR2 := Hd.mk hr2; clear hr1 hr2 hk
  have hB := Hd.mk (Below.refl w.heap.size w)
  have hI := idxS_bd s.data.toList
  have hI0 := hI.1
  have hI1 := hI.2
  clear hI
  have HN := nameAt_le x.names s
  have hN0 := HN.1
  have hN1 := HN.2.1
  clear HN
  go_enter Tryd.func77, Tryd.ntmps77
  cases hk5 : (x.kind == 5)
  case true =>
    have HP := Hd.mk (show placeS x s = nameAt x.names s by unfold placeS; rw [if_pos hk5])
    go_wp2_with fail
    apply calls_gen; intro W1 hW
    have hz_ : w.heap.size + 1 ≤ W1.heap.size := by rw [hW]; simp
    have hE : Below w.heap.size w W1 := by rw [hW]; (repeat (first | with_reducible refine below_alloc ?_ _ | with_reducible refine below_drew ?_)); exact Below.refl _ _
    have hB := Hd.mk (below_then hB.out hE)
    have b0 := Hd.mk (show Blk W1 (w.heap.size) #[Value.int IntKind.i64 x.kind, Value.int IntKind.i64 x.n, Value.string x.s, Value.slice A1 x.list.length c1, Value.slice A2 x.names.length c2] 40 by rw [hW]; first | exact (Blk.new _ _ _) | (simpa using (Blk.new _ _ _)))
    clear hW hE
    have z1 := Hd.mk hz_; clear hz_
    refine (spec_l1At x _ s _ (Ty.K_below _ hB.out HK.out)).mono ?_
    rintro e w2 ⟨rfl, hX⟩
    have b0 := Hd.mk (b0.out.below hX)
    have hB := Hd.mk (below_then hB.out hX)
    have hz_ := hX.size
    clear hX
    have z2 := Hd.mk hz_; clear hz_
    have fb0_0 : w2.cell? ⟨w.heap.size, 0, none⟩ = some (Value.int IntKind.i64 x.kind) := b0.out.cell 0 rfl
    have fb0_1 : w2.cell? ⟨w.heap.size, 1, none⟩ = some (Value.int IntKind.i64 x.n) := b0.out.cell 1 rfl
    have fb0_2 : w2.cell? ⟨w.heap.size, 2, none⟩ = some (Value.string x.s) := b0.out.cell 2 rfl
    have fb0_3 : w2.cell? ⟨w.heap.size, 3, none⟩ = some (Value.slice A1 x.list.length c1) := b0.out.cell 3 rfl
    have fb0_4 : w2.cell? ⟨w.heap.size, 4, none⟩ = some (Value.slice A2 x.names.length c2) := b0.out.cell 4 rfl
    have fb0_z := b0.out.frozen
    go_wp2_with fail
    clear fb0_0 fb0_1 fb0_2 fb0_3 fb0_4 fb0_z
    go_ret
    exact ⟨by rw [HP.out]; rfl, hB.out⟩
  case false =>
    cases hk4 : (x.kind == 4)
    · have HP := Hd.mk (show placeS x s = -1 by unfold placeS; simp [hk5, hk4])
      go_wp2_with fail
      go_ret
      exact ⟨by rw [HP.out]; rfl, by exact below_alloc (Below.refl _ _) _⟩
    · have hP0 := Hd.mk (show placeS x s = if idxS s.data.toList < (x.list.length : Int) then idxS s.data.toList else -1 by unfold placeS; simp only [hk5, hk4]; simp)
      go_wp2_with fail
      apply calls_gen; intro W1 hW
      have hz_ : w.heap.size + 1 ≤ W1.heap.size := by rw [hW]; simp
      have hE : Below w.heap.size w W1 := by rw [hW]; (repeat (first | with_reducible refine below_alloc ?_ _ | with_reducible refine below_drew ?_)); exact Below.refl _ _
      have hB := Hd.mk (below_then hB.out hE)
      have b0 := Hd.mk (show Blk W1 (w.heap.size) #[Value.int IntKind.i64 x.kind, Value.int IntKind.i64 x.n, Value.string x.s, Value.slice A1 x.list.length c1, Value.slice A2 x.names.length c2] 40 by rw [hW]; first | exact (Blk.new _ _ _) | (simpa using (Blk.new _ _ _)))
      clear hW hE
      have z1 := Hd.mk hz_; clear hz_
      refine (spec_IndexOf s _ (by omega)).mono ?_
      rintro e w2 ⟨rfl, hX⟩
      have b0 := Hd.mk (b0.out.below hX)
      have hB := Hd.mk (below_then hB.out hX)
      have hz_ := hX.size
      clear hX
      have z2 := Hd.mk hz_; clear hz_
      obtain ⟨at_, hat⟩ : ∃ z, z = idxS s.data.toList := ⟨_, rfl⟩
      replace hP0 := hP0.out
      rw [← hat] at hI0 hI1 hP0 ⊢
      have hP1 := Hd.mk hP0; clear hat hP0
      by_cases hge : at_ < (x.list.length : Int)
      · have HP := Hd.mk (show placeS x s = at_ by rw [hP1.out, if_pos hge])
        have fb0_0 : w2.cell? ⟨w.heap.size, 0, none⟩ = some (Value.int IntKind.i64 x.kind) := b0.out.cell 0 rfl
        have fb0_1 : w2.cell? ⟨w.heap.size, 1, none⟩ = some (Value.int IntKind.i64 x.n) := b0.out.cell 1 rfl
        have fb0_2 : w2.cell? ⟨w.heap.size, 2, none⟩ = some (Value.string x.s) := b0.out.cell 2 rfl
        have fb0_3 : w2.cell? ⟨w.heap.size, 3, none⟩ = some (Value.slice A1 x.list.length c1) := b0.out.cell 3 rfl
        have fb0_4 : w2.cell? ⟨w.heap.size, 4, none⟩ = some (Value.slice A2 x.names.length c2) := b0.out.cell 4 rfl
        have fb0_z := b0.out.frozen
        go_wp2_with fail
        clear fb0_0 fb0_1 fb0_2 fb0_3 fb0_4 fb0_z
        go_ret
        exact ⟨by rw [HP.out]; rfl, hB.out⟩
      · have HP := Hd.mk (show placeS x s = -1 by rw [hP1.out, if_neg hge])
        have fb0_0 : w2.cell? ⟨w.heap.size, 0, none⟩ = some (Value.int IntKind.i64 x.kind) := b0.out.cell 0 rfl
        have fb0_1 : w2.cell? ⟨w.heap.size, 1, none⟩ = some (Value.int IntKind.i64 x.n) := b0.out.cell 1 rfl
        have fb0_2 : w2.cell? ⟨w.heap.size, 2, none⟩ = some (Value.string x.s) := b0.out.cell 2 rfl
        have fb0_3 : w2.cell? ⟨w.heap.size, 3, none⟩ = some (Value.slice A1 x.list.length c1) := b0.out.cell 3 rfl
        have fb0_4 : w2.cell? ⟨w.heap.size, 4, none⟩ = some (Value.slice A2 x.names.length c2) := b0.out.cell 4 rfl
        have fb0_z := b0.out.frozen
        go_wp2_with fail
        clear fb0_0 fb0_1 fb0_2 fb0_3 fb0_4 fb0_z
        go_ret
        exact ⟨by rw [HP.out]; rfl, hB.out⟩
set_option maxRecDepth 100000 in
theorem impl_placeOf {m : Nat} (x : J) (cs : List Value) (s : ByteArray) (w : World) (hk : (tJ (m + 1)).K w x cs) (hs : s.size ≤ 281474976710656) (hT : EnvT w) (hE : EnvE w) :
    Calls Tryd.prog 78 #[.agg cs.toArray, .string s] w fun e w' => e = .returned (.int .i64 (placeI x s)) ∧ Below w.heap.size w w' := by
  have HK := Hd.mk hk
  obtain ⟨A1, c1, A2, c2, rfl, hs0, ⟨hc1, hr1⟩, hc2, hr2⟩ := tJ_K.1 hk
  have hm := hr1.1
  have HR2 := Hd.mk hr2; clear hr1 hr2 hk
  have hB := Hd.mk (Below.refl w.heap.size w)
  have HT := Hd.mk hT; have HE := Hd.mk hE; clear hT hE
  have hI := idxS_bd s.data.toList
  have hI0 := hI.1
  have hI1 := hI.2
  clear hI
  have HN := nameAt_le x.names s
  have hN0 := HN.1
  have hN1 := HN.2.1
  clear HN
  go_enter Tryd.func78, Tryd.ntmps78
  cases hk5 : (x.kind == 5)
  case true =>
    have hP0 := Hd.mk (show place0 x s = nameAt x.names s by unfold place0; rw [if_pos hk5])
    go_wp2_with fail
    apply calls_gen; intro W1 hW
    have hz_ : w.heap.size + 1 ≤ W1.heap.size := by rw [hW]; simp
    have hE : Below w.heap.size w W1 := by rw [hW]; (repeat (first | with_reducible refine below_alloc ?_ _ | with_reducible refine below_drew ?_)); exact Below.refl _ _
    have hB := Hd.mk (below_then hB.out hE)
    have b0 := Hd.mk (show Blk W1 (w.heap.size) #[Value.int IntKind.i64 x.kind, Value.int IntKind.i64 x.n, Value.string x.s, Value.slice A1 x.list.length c1, Value.slice A2 x.names.length c2] 40 by rw [hW]; first | exact (Blk.new _ _ _) | (simpa using (Blk.new _ _ _)))
    clear hW hE
    have z1 := Hd.mk hz_; clear hz_
    refine (slices_Index_str _ _ x.names s _ (C_below HR2.out hB.out)).mono ?_
    rintro e w2 ⟨rfl, hX⟩
    have b0 := Hd.mk (b0.out.below hX)
    have hB := Hd.mk (below_then hB.out hX)
    have hz_ := hX.size
    clear hX
    have z2 := Hd.mk hz_; clear hz_
    obtain ⟨at_, hat⟩ : ∃ z, z = nameAt x.names s := ⟨_, rfl⟩
    replace hP0 := hP0.out
    rw [← hat] at hN0 hN1 hP0 ⊢
    have hP1 := Hd.mk hP0; clear hat hP0
    by_cases hge : (x.list.length : Int) ≤ at_
    · have HP := Hd.mk (show placeI x s = -1 by unfold placeI; rw [hP1.out, if_pos hge])
      have fb0_0 : w2.cell? ⟨w.heap.size, 0, none⟩ = some (Value.int IntKind.i64 x.kind) := b0.out.cell 0 rfl
      have fb0_1 : w2.cell? ⟨w.heap.size, 1, none⟩ = some (Value.int IntKind.i64 x.n) := b0.out.cell 1 rfl
      have fb0_2 : w2.cell? ⟨w.heap.size, 2, none⟩ = some (Value.string x.s) := b0.out.cell 2 rfl
      have fb0_3 : w2.cell? ⟨w.heap.size, 3, none⟩ = some (Value.slice A1 x.list.length c1) := b0.out.cell 3 rfl
      have fb0_4 : w2.cell? ⟨w.heap.size, 4, none⟩ = some (Value.slice A2 x.names.length c2) := b0.out.cell 4 rfl
      have fb0_z := b0.out.frozen
      go_wp2_with fail
      clear fb0_0 fb0_1 fb0_2 fb0_3 fb0_4 fb0_z
      go_ret
      exact ⟨by rw [HP.out]; rfl, hB.out⟩
    · have HP := Hd.mk (show placeI x s = at_ by unfold placeI; rw [hP1.out, if_neg hge])
      have fb0_0 : w2.cell? ⟨w.heap.size, 0, none⟩ = some (Value.int IntKind.i64 x.kind) := b0.out.cell 0 rfl
      have fb0_1 : w2.cell? ⟨w.heap.size, 1, none⟩ = some (Value.int IntKind.i64 x.n) := b0.out.cell 1 rfl
      have fb0_2 : w2.cell? ⟨w.heap.size, 2, none⟩ = some (Value.string x.s) := b0.out.cell 2 rfl
      have fb0_3 : w2.cell? ⟨w.heap.size, 3, none⟩ = some (Value.slice A1 x.list.length c1) := b0.out.cell 3 rfl
      have fb0_4 : w2.cell? ⟨w.heap.size, 4, none⟩ = some (Value.slice A2 x.names.length c2) := b0.out.cell 4 rfl
      have fb0_z := b0.out.frozen
      go_wp2_with fail
      clear fb0_0 fb0_1 fb0_2 fb0_3 fb0_4 fb0_z
      go_ret
      exact ⟨by rw [HP.out]; rfl, hB.out⟩
  case false =>
    cases hk4 : (x.kind == 4)
    · have HP := Hd.mk (show placeI x s = -1 by unfold placeI place0; simp [hk5, hk4]; try omega)
      go_wp2_with fail
      go_ret
      exact ⟨by rw [HP.out]; rfl, by exact below_alloc (Below.refl _ _) _⟩
    · have hP0 := Hd.mk (show place0 x s = idxS s.data.toList by unfold place0; simp [hk5, hk4, idx_eq])
      go_wp2_with fail
      apply calls_gen; intro W1 hW
      have hz_ : w.heap.size + 1 ≤ W1.heap.size := by rw [hW]; simp
      have hE : Below w.heap.size w W1 := by rw [hW]; (repeat (first | with_reducible refine below_alloc ?_ _ | with_reducible refine below_drew ?_)); exact Below.refl _ _
      have hB := Hd.mk (below_then hB.out hE)
      have b0 := Hd.mk (show Blk W1 (w.heap.size) #[Value.int IntKind.i64 x.kind, Value.int IntKind.i64 x.n, Value.string x.s, Value.slice A1 x.list.length c1, Value.slice A2 x.names.length c2] 40 by rw [hW]; first | exact (Blk.new _ _ _) | (simpa using (Blk.new _ _ _)))
      clear hW hE
      have z1 := Hd.mk hz_; clear hz_
      refine (impl_IndexOf s _ hs (HT.out.below hB.out) (HE.out.below hB.out)).mono ?_
      rintro e w2 ⟨rfl, hX⟩
      have b0 := Hd.mk (b0.out.below hX)
      have hB := Hd.mk (below_then hB.out hX)
      have hz_ := hX.size
      clear hX
      have z2 := Hd.mk hz_; clear hz_
      rw [idx_eq]
      obtain ⟨at_, hat⟩ : ∃ z, z = idxS s.data.toList := ⟨_, rfl⟩
      replace hP0 := hP0.out
      rw [← hat] at hI0 hI1 hP0 ⊢
      have hP1 := Hd.mk hP0; clear hat hP0
      by_cases hge : (x.list.length : Int) ≤ at_
      · have HP := Hd.mk (show placeI x s = -1 by unfold placeI; rw [hP1.out, if_pos hge])
        have fb0_0 : w2.cell? ⟨w.heap.size, 0, none⟩ = some (Value.int IntKind.i64 x.kind) := b0.out.cell 0 rfl
        have fb0_1 : w2.cell? ⟨w.heap.size, 1, none⟩ = some (Value.int IntKind.i64 x.n) := b0.out.cell 1 rfl
        have fb0_2 : w2.cell? ⟨w.heap.size, 2, none⟩ = some (Value.string x.s) := b0.out.cell 2 rfl
        have fb0_3 : w2.cell? ⟨w.heap.size, 3, none⟩ = some (Value.slice A1 x.list.length c1) := b0.out.cell 3 rfl
        have fb0_4 : w2.cell? ⟨w.heap.size, 4, none⟩ = some (Value.slice A2 x.names.length c2) := b0.out.cell 4 rfl
        have fb0_z := b0.out.frozen
        go_wp2_with fail
        clear fb0_0 fb0_1 fb0_2 fb0_3 fb0_4 fb0_z
        go_ret
        exact ⟨by rw [HP.out]; rfl, hB.out⟩
      · have HP := Hd.mk (show placeI x s = at_ by unfold placeI; rw [hP1.out, if_neg hge])
        have fb0_0 : w2.cell? ⟨w.heap.size, 0, none⟩ = some (Value.int IntKind.i64 x.kind) := b0.out.cell 0 rfl
        have fb0_1 : w2.cell? ⟨w.heap.size, 1, none⟩ = some (Value.int IntKind.i64 x.n) := b0.out.cell 1 rfl
        have fb0_2 : w2.cell? ⟨w.heap.size, 2, none⟩ = some (Value.string x.s) := b0.out.cell 2 rfl
        have fb0_3 : w2.cell? ⟨w.heap.size, 3, none⟩ = some (Value.slice A1 x.list.length c1) := b0.out.cell 3 rfl
        have fb0_4 : w2.cell? ⟨w.heap.size, 4, none⟩ = some (Value.slice A2 x.names.length c2) := b0.out.cell 4 rfl
        have fb0_z := b0.out.frozen
        go_wp2_with fail
        clear fb0_0 fb0_1 fb0_2 fb0_3 fb0_4 fb0_z
        go_ret
        exact ⟨by rw [HP.out]; rfl, hB.out⟩
set_option maxHeartbeats 4000000 in
set_option maxRecDepth 100000 in
theorem spec_Get {m : Nat} (x : J) (cs : List Value) (A : Option Addr) (c : Nat) (way : List ByteArray) (w : World) (hk : (tJ (m + 1)).K w x cs) (hr : str.C w A way) (hl : bulkJ (m + 1) x ≤ 4194304) (hw : bulkStringS way ≤ 4194304) :
    Calls Tryd.prog 38 #[.agg cs.toArray, .slice A way.length c] w fun e w' => ∃ cs, e = .returned (.tuple #[.agg cs.toArray, .bool (getB x way)]) ∧ (tJ (m + 1)).O w' (fun k => w.heap.size ≤ k) (getJ x way) cs ∧ Below w.heap.size w w' := by
  have HK := Hd.mk hk
  have HRW := Hd.mk hr
  have hmw := hr.1
  obtain ⟨A1, c1, A2, c2, rfl, hs, ⟨hc1, hr1⟩, hc2, hr2⟩ := tJ_K.1 hk
  have hm := hr1.1
  clear hr1 hr2 hk hr
  have HW := Hd.mk (show ∀ s ∈ way, s.size ≤ 4194304 from fun s h => by
    have h1 := bulkL_mem ByteArray.size h
    unfold bulkStringS at hw; omega); clear hw
  have HL := Hd.mk hl; clear hl
  have hB := Hd.mk (Below.refl w.heap.size w)
  go_enter Tryd.func38, Tryd.ntmps38
  go_wp2_with fail
  apply calls_gen; intro W1 hW
  have hz_ : w.heap.size + 2 ≤ W1.heap.size := by rw [hW]; simp
  have hE : Below w.heap.size w W1 := by rw [hW]; (repeat (first | with_reducible refine below_alloc ?_ _ | with_reducible refine below_drew ?_)); exact Below.refl _ _
  have hB := Hd.mk (below_then hB.out hE)
  have b0 := Hd.mk (show Blk W1 (w.heap.size) #[Value.int IntKind.i64 x.kind, Value.int IntKind.i64 x.n, Value.string x.s, Value.slice A1 x.list.length c1, Value.slice A2 x.names.length c2] 40 by rw [hW]; first | exact ((Blk.new _ _ _).alloc _) | (simpa using ((Blk.new _ _ _).alloc _)))
  have b1 := Hd.mk (show Blk W1 (w.heap.size + 1) #[Value.int IntKind.i64 0, Value.int IntKind.i64 0, Value.string ⟨#[]⟩, Value.slice none 0 0, Value.slice none 0 0] 40 by rw [hW]; first | exact (Blk.new1 _ _ _ _) | (simpa using (Blk.new1 _ _ _ _)))
  clear hW hE
  have z1 := Hd.mk hz_; clear hz_
  refine (spec_JsonOk x _ _ (Ty.K_below _ hB.out HK.out)).mono ?_
  rintro e w2 ⟨rfl, hX⟩
  have b0 := Hd.mk (b0.out.below hX)
  have b1 := Hd.mk (b1.out.below hX)
  have hB := Hd.mk (below_then hB.out hX)
  have hz_ := hX.size
  clear hX
  have z2 := Hd.mk hz_; clear hz_
  cases hb : jsonOk x
  · have HN := Hd.mk (show getB x way = false by unfold getB; rw [hb]; rfl)
    have HF := Hd.mk (show getJ x way = J.null by unfold getJ; rw [hb]; rfl)
    have fb0_0 : w2.cell? ⟨w.heap.size, 0, none⟩ = some (Value.int IntKind.i64 x.kind) := b0.out.cell 0 rfl
    have fb0_1 : w2.cell? ⟨w.heap.size, 1, none⟩ = some (Value.int IntKind.i64 x.n) := b0.out.cell 1 rfl
    have fb0_2 : w2.cell? ⟨w.heap.size, 2, none⟩ = some (Value.string x.s) := b0.out.cell 2 rfl
    have fb0_3 : w2.cell? ⟨w.heap.size, 3, none⟩ = some (Value.slice A1 x.list.length c1) := b0.out.cell 3 rfl
    have fb0_4 : w2.cell? ⟨w.heap.size, 4, none⟩ = some (Value.slice A2 x.names.length c2) := b0.out.cell 4 rfl
    have fb0_z := b0.out.frozen
    have fb1_0 : w2.cell? ⟨w.heap.size + 1, 0, none⟩ = some (Value.int IntKind.i64 0) := b1.out.cell 0 rfl
    have fb1_1 : w2.cell? ⟨w.heap.size + 1, 1, none⟩ = some (Value.int IntKind.i64 0) := b1.out.cell 1 rfl
    have fb1_2 : w2.cell? ⟨w.heap.size + 1, 2, none⟩ = some (Value.string ⟨#[]⟩) := b1.out.cell 2 rfl
    have fb1_3 : w2.cell? ⟨w.heap.size + 1, 3, none⟩ = some (Value.slice none 0 0) := b1.out.cell 3 rfl
    have fb1_4 : w2.cell? ⟨w.heap.size + 1, 4, none⟩ = some (Value.slice none 0 0) := b1.out.cell 4 rfl
    have fb1_z := b1.out.frozen
    go_wp2_with fail
    refine bodyPost_retW (v := .tuple #[.agg #[Value.int IntKind.i64 0, Value.int IntKind.i64 0, Value.string ⟨#[]⟩, Value.slice none 0 0, Value.slice none 0 0], .bool false]) (by simp [results, Tryd.results38, go_sem, fb0_0, fb0_1, fb0_2, fb0_3, fb0_4, fb0_z, fb1_0, fb1_1, fb1_2, fb1_3, fb1_4, fb1_z]) rfl ?_
    intro W hW
    clear fb0_0 fb0_1 fb0_2 fb0_3 fb0_4 fb0_z fb1_0 fb1_1 fb1_2 fb1_3 fb1_4 fb1_z
    have hz_ : w2.heap.size ≤ W.heap.size := by rw [hW]; simp
    have eF : Fr w2 W (fun k => k = w.heap.size + 1 ∨ w2.heap.size ≤ k) := by rw [hW]; (repeat (first | with_reducible refine Fr.setCell ?_ _ (fun _ => by simp <;> omega) _ | with_reducible refine Fr.alloc ?_ _ | with_reducible refine Fr.drew ?_)); exact Fr.refl _ _
    have z1_ := z1.out; have z2_ := z2.out
    have hB := Hd.mk (((Fr.of_below hB.out (fun k => k = w.heap.size + 1 ∨ w2.heap.size ≤ k)).then_ eF (fun k hk _ => hk)).below (fun k hk => by have := hB.out.size; omega))
    have b0 := Hd.mk (b0.out.fr eF (fun h => by have hlt_ := b0.out.lt; (try simp only at h); omega))
    have b1 := Hd.mk (show Blk W (w.heap.size + 1) #[Value.int IntKind.i64 0, Value.int IntKind.i64 0, Value.string ⟨#[]⟩, Value.slice none 0 0, Value.slice none 0 0] 40 by rw [hW]; exact (Blk.all b1.out [Value.int IntKind.i64 0, Value.int IntKind.i64 0, Value.string ⟨#[]⟩, Value.slice none 0 0, Value.slice none 0 0] rfl))
    clear hW eF
    have z3 := Hd.mk hz_; clear hz_
    exact ⟨_, by rw [HN.out], by rw [HF.out]; exact ZJ m _ _, hB.out⟩
  · have HOK := Hd.mk hb; clear hb
    have fb0_0 : w2.cell? ⟨w.heap.size, 0, none⟩ = some (Value.int IntKind.i64 x.kind) := b0.out.cell 0 rfl
    have fb0_1 : w2.cell? ⟨w.heap.size, 1, none⟩ = some (Value.int IntKind.i64 x.n) := b0.out.cell 1 rfl
    have fb0_2 : w2.cell? ⟨w.heap.size, 2, none⟩ = some (Value.string x.s) := b0.out.cell 2 rfl
    have fb0_3 : w2.cell? ⟨w.heap.size, 3, none⟩ = some (Value.slice A1 x.list.length c1) := b0.out.cell 3 rfl
    have fb0_4 : w2.cell? ⟨w.heap.size, 4, none⟩ = some (Value.slice A2 x.names.length c2) := b0.out.cell 4 rfl
    have fb0_z := b0.out.frozen
    have fb1_0 : w2.cell? ⟨w.heap.size + 1, 0, none⟩ = some (Value.int IntKind.i64 0) := b1.out.cell 0 rfl
    have fb1_1 : w2.cell? ⟨w.heap.size + 1, 1, none⟩ = some (Value.int IntKind.i64 0) := b1.out.cell 1 rfl
    have fb1_2 : w2.cell? ⟨w.heap.size + 1, 2, none⟩ = some (Value.string ⟨#[]⟩) := b1.out.cell 2 rfl
    have fb1_3 : w2.cell? ⟨w.heap.size + 1, 3, none⟩ = some (Value.slice none 0 0) := b1.out.cell 3 rfl
    have fb1_4 : w2.cell? ⟨w.heap.size + 1, 4, none⟩ = some (Value.slice none 0 0) := b1.out.cell 4 rfl
    have fb1_z := b1.out.frozen
    go_wp2_with fail
    clear fb0_0 fb0_1 fb0_2 fb0_3 fb0_4 fb0_z fb1_0 fb1_1 fb1_2 fb1_3 fb1_4 fb1_z
    go_loopw [6] (fun i wr => ∃ (k : Nat) (M d : Nat) (y : J) (cs : List Value), k ≤ way.length ∧ i = .int .i64 k ∧ Hd ((tJ (M + 1)).K w y cs) ∧ Hd (M ≤ m ∧ sizeN (d + 1) y ≤ 400 ∧ bulkJ (M + 1) y ≤ 4194304 ∧ getV x way = getV y (way.drop k)) ∧ Hd (Blk wr w.heap.size cs.toArray 40) ∧ Hd (Blk wr (w.heap.size + 1) #[Value.int IntKind.i64 0, Value.int IntKind.i64 0, Value.string ⟨#[]⟩, Value.slice none 0 0, Value.slice none 0 0] 40) ∧ Hd (Below w.heap.size w wr)) (fun i _ => way.length - (intOf i).toNat)
    case atStart => exact ⟨0, m, 5, x, _, Nat.zero_le _, rfl, HK, ⟨Nat.le_refl _, of_decide_eq_true HOK.out, HL.out, rfl⟩, b0, b1, hB⟩
    case round =>
      clear hB b0 b1 z1 z2
      obtain ⟨k, M, d, y, cs, hk, rfl, HKY, HY, b0, b1, hB⟩ := hrel
      obtain ⟨A3, c3, A4, c4, rfl, hs3, ⟨hc3, hr3⟩, hc4, hr4⟩ := tJ_K.1 HKY.out
      have hm3 := hr3.1
      have HR3 := Hd.mk hr3; clear hr3 hr4
      have zq := Hd.mk hB.out.size
      have zb := Hd.mk b1.out.lt
      by_cases hlt : k < way.length
      · obtain ⟨ad, rfl, x0, hsz⟩ := C_str_at HRW.out hB.out k hlt
        have hw4 := Hd.mk (HW.out _ (List.getElem_mem hlt))
        have fb0_0 : wr.cell? ⟨w.heap.size, 0, none⟩ = some (Value.int IntKind.i64 y.kind) := b0.out.cell 0 rfl
        have fb0_1 : wr.cell? ⟨w.heap.size, 1, none⟩ = some (Value.int IntKind.i64 y.n) := b0.out.cell 1 rfl
        have fb0_2 : wr.cell? ⟨w.heap.size, 2, none⟩ = some (Value.string y.s) := b0.out.cell 2 rfl
        have fb0_3 : wr.cell? ⟨w.heap.size, 3, none⟩ = some (Value.slice A3 y.list.length c3) := b0.out.cell 3 rfl
        have fb0_4 : wr.cell? ⟨w.heap.size, 4, none⟩ = some (Value.slice A4 y.names.length c4) := b0.out.cell 4 rfl
        have fb0_z := b0.out.frozen
        have fb1_0 : wr.cell? ⟨(w.heap.size + 1), 0, none⟩ = some (Value.int IntKind.i64 0) := b1.out.cell 0 rfl
        have fb1_1 : wr.cell? ⟨(w.heap.size + 1), 1, none⟩ = some (Value.int IntKind.i64 0) := b1.out.cell 1 rfl
        have fb1_2 : wr.cell? ⟨(w.heap.size + 1), 2, none⟩ = some (Value.string ⟨#[]⟩) := b1.out.cell 2 rfl
        have fb1_3 : wr.cell? ⟨(w.heap.size + 1), 3, none⟩ = some (Value.slice none 0 0) := b1.out.cell 3 rfl
        have fb1_4 : wr.cell? ⟨(w.heap.size + 1), 4, none⟩ = some (Value.slice none 0 0) := b1.out.cell 4 rfl
        have fb1_z := b1.out.frozen
        have rfb0_0 := cell_regrown fb0_0
        have rfb0_1 := cell_regrown fb0_1
        have rfb0_2 := cell_regrown fb0_2
        have rfb0_3 := cell_regrown fb0_3
        have rfb0_4 := cell_regrown fb0_4
        have rfb1_0 := cell_regrown fb1_0
        have rfb1_1 := cell_regrown fb1_1
        have rfb1_2 := cell_regrown fb1_2
        have rfb1_3 := cell_regrown fb1_3
        have rfb1_4 := cell_regrown fb1_4
        have rx0 := cell_regrown x0
        go_wp2_with fail
        refine region_mix [(true, 0), (true, 1), (true, 2), (true, 3), (true, 4), (false, 5), (true, 6)] (by kernel_rfl) (by kernel_rfl) (fun _ _ _ _ _ h => h) ?_
        (repeat (first | (refine mix_z rfl (by rfl) ?_; go_big_quiet_skip; refine wpQuiet_nil ?_) | (refine mix_q rfl ?_; first | (go_big_quiet_skip; refine wpQuiet_nil ?_) | (go_big_quiet_want; go_big_quiet_op; go_big_quiet_on; refine wpQuiet_nil ?_))))
        refine mix_b rfl ?_ (by rfl)
        go_wp2_with fail
        clear rfb0_0 rfb0_1 rfb0_2 rfb0_3 rfb0_4 rfb1_0 rfb1_1 rfb1_2 rfb1_3 rfb1_4 rx0
        clear fb0_0 fb0_1 fb0_2 fb0_3 fb0_4 fb0_z fb1_0 fb1_1 fb1_2 fb1_3 fb1_4 fb1_z
        clear x0
        have hS := Hd.mk (Below.refl wr.heap.size wr)
        apply calls_gen; intro W3 hW
        have hz_ : wr.heap.size ≤ W3.heap.size := by rw [hW]; simp
        have hE : Below wr.heap.size wr W3 := by rw [hW]; (repeat (first | with_reducible refine below_alloc ?_ _ | with_reducible refine below_drew ?_)); exact Below.refl _ _
        have hB := Hd.mk (below_then hB.out hE)
        replace hS := Hd.mk (below_then hS.out hE)
        have b0 := Hd.mk (b0.out.below hE)
        have b1 := Hd.mk (b1.out.below hE)
        clear hW hE
        have z3 := Hd.mk hz_; clear hz_
        refine (spec_l3At y _ way[k] _ (Ty.K_below _ hB.out HKY.out) (by have := hw4.out; omega)).mono ?_
        rintro e w4 ⟨rfl, hX⟩
        have b0 := Hd.mk (b0.out.below hX)
        have b1 := Hd.mk (b1.out.below hX)
        have hB := Hd.mk (below_then hB.out hX)
        replace hS := Hd.mk (below_then hS.out hX)
        have hz_ := hX.size
        clear hX
        have z4 := Hd.mk hz_; clear hz_
        obtain ⟨at_, hat⟩ : ∃ z, z = placeS y way[k] := ⟨_, rfl⟩
        rw [← hat]
        have HAT := Hd.mk hat; clear hat
        by_cases h0 : at_ < 0
        · have HV := Hd.mk (show getV x way = none by rw [HY.out.2.2.2]; exact getV_no hlt (by rw [← HAT.out]; exact h0))
          have HN := Hd.mk (show getB x way = false by unfold getB; rw [HV.out]; simp)
          have HF := Hd.mk (show getJ x way = J.null by unfold getJ; rw [HV.out]; simp)
          have fb0_0 : w4.cell? ⟨w.heap.size, 0, none⟩ = some (Value.int IntKind.i64 y.kind) := b0.out.cell 0 rfl
          have fb0_1 : w4.cell? ⟨w.heap.size, 1, none⟩ = some (Value.int IntKind.i64 y.n) := b0.out.cell 1 rfl
          have fb0_2 : w4.cell? ⟨w.heap.size, 2, none⟩ = some (Value.string y.s) := b0.out.cell 2 rfl
          have fb0_3 : w4.cell? ⟨w.heap.size, 3, none⟩ = some (Value.slice A3 y.list.length c3) := b0.out.cell 3 rfl
          have fb0_4 : w4.cell? ⟨w.heap.size, 4, none⟩ = some (Value.slice A4 y.names.length c4) := b0.out.cell 4 rfl
          have fb0_z := b0.out.frozen
          have fb1_0 : w4.cell? ⟨(w.heap.size + 1), 0, none⟩ = some (Value.int IntKind.i64 0) := b1.out.cell 0 rfl
          have fb1_1 : w4.cell? ⟨(w.heap.size + 1), 1, none⟩ = some (Value.int IntKind.i64 0) := b1.out.cell 1 rfl
          have fb1_2 : w4.cell? ⟨(w.heap.size + 1), 2, none⟩ = some (Value.string ⟨#[]⟩) := b1.out.cell 2 rfl
          have fb1_3 : w4.cell? ⟨(w.heap.size + 1), 3, none⟩ = some (Value.slice none 0 0) := b1.out.cell 3 rfl
          have fb1_4 : w4.cell? ⟨(w.heap.size + 1), 4, none⟩ = some (Value.slice none 0 0) := b1.out.cell 4 rfl
          have fb1_z := b1.out.frozen
          go_wp2_with fail
          refine ⟨cls_below hS.out, ?_⟩
          (repeat (first | (refine mix_z rfl (by rfl) ?_; go_big_quiet_skip; refine wpQuiet_nil ?_) | (refine mix_q rfl ?_; first | (go_big_quiet_skip; refine wpQuiet_nil ?_) | (go_big_quiet_want; go_big_quiet_op; go_big_quiet_on; refine wpQuiet_nil ?_))))
          refine mix_nil ?_
          go_wp2_with fail
          refine bodyPost_retW (v := .tuple #[.agg #[Value.int IntKind.i64 0, Value.int IntKind.i64 0, Value.string ⟨#[]⟩, Value.slice none 0 0, Value.slice none 0 0], .bool false]) (by simp [results, Tryd.results38, go_sem, fb0_0, fb0_1, fb0_2, fb0_3, fb0_4, fb0_z, fb1_0, fb1_1, fb1_2, fb1_3, fb1_4, fb1_z]) rfl ?_
          intro W hW
          clear fb0_0 fb0_1 fb0_2 fb0_3 fb0_4 fb0_z fb1_0 fb1_1 fb1_2 fb1_3 fb1_4 fb1_z
          have hz_ : w4.heap.size ≤ W.heap.size := by rw [hW]; simp
          have eF : Fr w4 W (fun k => k = (w.heap.size + 1) ∨ w4.heap.size ≤ k) := by rw [hW]; (repeat (first | with_reducible refine Fr.setCell ?_ _ (fun _ => by simp <;> omega) _ | with_reducible refine Fr.alloc ?_ _ | with_reducible refine Fr.drew ?_)); exact Fr.refl _ _
          have zb_ := zb.out; have zq_ := zq.out; have z3_ := z3.out; have z4_ := z4.out
          have hB := Hd.mk (((Fr.of_below hB.out (fun k => k = (w.heap.size + 1) ∨ w4.heap.size ≤ k)).then_ eF (fun k hk _ => hk)).below (fun k hk => by have := hB.out.size; omega))
          have b0 := Hd.mk (b0.out.fr eF (fun h => by have hlt_ := b0.out.lt; (try simp only at h); omega))
          have b1 := Hd.mk (show Blk W ((w.heap.size + 1)) #[Value.int IntKind.i64 0, Value.int IntKind.i64 0, Value.string ⟨#[]⟩, Value.slice none 0 0, Value.slice none 0 0] 40 by rw [hW]; exact (Blk.all b1.out [Value.int IntKind.i64 0, Value.int IntKind.i64 0, Value.string ⟨#[]⟩, Value.slice none 0 0, Value.slice none 0 0] rfl))
          clear hW eF
          have z5 := Hd.mk hz_; clear hz_
          exact ⟨_, by rw [HN.out], by rw [HF.out]; exact ZJ m _ _, hB.out⟩
        · obtain ⟨q, rfl⟩ := Int.eq_ofNat_of_zero_le (Int.not_lt.1 h0)
          clear h0
          have h0 : (0 : Int) ≤ (q : Int) := by omega
          have hq := place_lt (own_size HY.out.2.1) _ HAT.out.symm
          have HG := Hd.mk (getV_yes hlt HAT.out.symm hq)
          obtain ⟨aq, cs0, rfl, hK0, e0, e1⟩ := C_at HR3.out (Below.refl _ _) q hq
          obtain ⟨M, rfl⟩ : ∃ m1 : Nat, M = m1 + 1 := by cases M with | zero => exact hK0.elim | succ M => exact ⟨M, rfl⟩
          obtain ⟨d, rfl, hsd⟩ := sizeN_at HY.out.2.1 q hq
          have HSD := Hd.mk hsd; clear hsd
          have HBK := Hd.mk (show bulkJ (M + 1) y.list[q] ≤ 4194304 by
            have h1 := bulkL_mem (bulkJ (M + 1)) (List.getElem_mem hq)
            have h2 := HY.out.2.2.1
            simp only [bulkJ] at h1 h2 ⊢
            omega)
          have HKe := Hd.mk hK0
          obtain ⟨A5, c5, A6, c6, rfl, hs5, ⟨hc5, hr5⟩, hc6, hr6⟩ := tJ_K.1 hK0
          have hm5 := hr5.1
          clear hK0 hr5 hr6
          have x0 : w4.cell? (aq.add (q * 5)) = some (Value.int IntKind.i64 y.list[q].kind) := cell_below hB.out (e0 _ rfl)
          have x1 : w4.cell? ⟨(aq.add (q * 5)).block, (aq.add (q * 5)).off + 1, none⟩ = some (Value.int IntKind.i64 y.list[q].n) := cell_below hB.out (e1 0 _ rfl)
          have x2 : w4.cell? ⟨(aq.add (q * 5)).block, (aq.add (q * 5)).off + 2, none⟩ = some (Value.string y.list[q].s) := cell_below hB.out (e1 1 _ rfl)
          have x3 : w4.cell? ⟨(aq.add (q * 5)).block, (aq.add (q * 5)).off + 3, none⟩ = some (Value.slice A5 y.list[q].list.length c5) := cell_below hB.out (e1 2 _ rfl)
          have x4 : w4.cell? ⟨(aq.add (q * 5)).block, (aq.add (q * 5)).off + 4, none⟩ = some (Value.slice A6 y.list[q].names.length c6) := cell_below hB.out (e1 3 _ rfl)
          clear e0 e1
          have fb0_0 : w4.cell? ⟨w.heap.size, 0, none⟩ = some (Value.int IntKind.i64 y.kind) := b0.out.cell 0 rfl
          have fb0_1 : w4.cell? ⟨w.heap.size, 1, none⟩ = some (Value.int IntKind.i64 y.n) := b0.out.cell 1 rfl
          have fb0_2 : w4.cell? ⟨w.heap.size, 2, none⟩ = some (Value.string y.s) := b0.out.cell 2 rfl
          have fb0_3 : w4.cell? ⟨w.heap.size, 3, none⟩ = some (Value.slice (some aq) y.list.length c3) := b0.out.cell 3 rfl
          have fb0_4 : w4.cell? ⟨w.heap.size, 4, none⟩ = some (Value.slice A4 y.names.length c4) := b0.out.cell 4 rfl
          have fb0_z := b0.out.frozen
          have fb1_0 : w4.cell? ⟨(w.heap.size + 1), 0, none⟩ = some (Value.int IntKind.i64 0) := b1.out.cell 0 rfl
          have fb1_1 : w4.cell? ⟨(w.heap.size + 1), 1, none⟩ = some (Value.int IntKind.i64 0) := b1.out.cell 1 rfl
          have fb1_2 : w4.cell? ⟨(w.heap.size + 1), 2, none⟩ = some (Value.string ⟨#[]⟩) := b1.out.cell 2 rfl
          have fb1_3 : w4.cell? ⟨(w.heap.size + 1), 3, none⟩ = some (Value.slice none 0 0) := b1.out.cell 3 rfl
          have fb1_4 : w4.cell? ⟨(w.heap.size + 1), 4, none⟩ = some (Value.slice none 0 0) := b1.out.cell 4 rfl
          have fb1_z := b1.out.frozen
          go_wp2_with fail
          refine ⟨cls_below hS.out, ?_⟩
          (repeat (first | (refine mix_z rfl (by rfl) ?_; go_big_quiet_skip; refine wpQuiet_nil ?_) | (refine mix_q rfl ?_; first | (go_big_quiet_skip; refine wpQuiet_nil ?_) | (go_big_quiet_want; go_big_quiet_op; go_big_quiet_on; refine wpQuiet_nil ?_))))
          refine mix_nil ?_
          go_wp2_with fail
          obtain ⟨W, hW⟩ : ∃ W, W = (((((w4.setCell ⟨w.heap.size, 0, none⟩ (Value.int IntKind.i64 y.list[q].kind)).setCell ⟨w.heap.size, 1, none⟩ (Value.int IntKind.i64 y.list[q].n)).setCell ⟨w.heap.size, 2, none⟩ (Value.string y.list[q].s)).setCell ⟨w.heap.size, 3, none⟩ (Value.slice A5 y.list[q].list.length c5)).setCell ⟨w.heap.size, 4, none⟩ (Value.slice A6 y.list[q].names.length c6)) := ⟨_, rfl⟩
          rw [← hW]
          clear fb0_0 fb0_1 fb0_2 fb0_3 fb0_4 fb0_z fb1_0 fb1_1 fb1_2 fb1_3 fb1_4 fb1_z
          clear x0 x1 x2 x3 x4
          have hz_ : w4.heap.size ≤ W.heap.size := by rw [hW]; simp
          have eF : Fr w4 W (fun k => k = w.heap.size ∨ w4.heap.size ≤ k) := by rw [hW]; (repeat (first | with_reducible refine Fr.setCell ?_ _ (fun _ => by simp <;> omega) _ | with_reducible refine Fr.alloc ?_ _ | with_reducible refine Fr.drew ?_)); exact Fr.refl _ _
          have zb_ := zb.out; have zq_ := zq.out; have z3_ := z3.out; have z4_ := z4.out
          have hB := Hd.mk (((Fr.of_below hB.out (fun k => k = w.heap.size ∨ w4.heap.size ≤ k)).then_ eF (fun k hk _ => hk)).below (fun k hk => by have := hB.out.size; omega))
          have b0 := Hd.mk (show Blk W (w.heap.size) #[Value.int IntKind.i64 y.list[q].kind, Value.int IntKind.i64 y.list[q].n, Value.string y.list[q].s, Value.slice A5 y.list[q].list.length c5, Value.slice A6 y.list[q].names.length c6] 40 by rw [hW]; exact (Blk.all b0.out [Value.int IntKind.i64 y.list[q].kind, Value.int IntKind.i64 y.list[q].n, Value.string y.list[q].s, Value.slice A5 y.list[q].list.length c5, Value.slice A6 y.list[q].names.length c6] rfl))
          have b1 := Hd.mk (b1.out.fr eF (fun h => by have hlt_ := b1.out.lt; (try simp only at h); omega))
          clear hW eF
          have z5 := Hd.mk hz_; clear hz_
          go_roundw
          case rel => exact ⟨k + 1, M, d, y.list[q], _, by omega, by go_num, HKe, ⟨by have := HY.out.1; omega, HSD.out, HBK.out, by rw [HY.out.2.2.2, HG.out]⟩, b0, b1, hB⟩
          case measure => simp [intOf]; omega
      · obtain rfl : k = way.length := by omega
        have HV := Hd.mk (show getV x way = some y by rw [HY.out.2.2.2, List.drop_length]; rfl)
        have HN := Hd.mk (show getB x way = true by unfold getB; rw [HOK.out, HV.out]; rfl)
        have HF := Hd.mk (show getJ x way = y by unfold getJ; rw [if_pos HOK.out, HV.out]; rfl)
        have fb0_0 : wr.cell? ⟨w.heap.size, 0, none⟩ = some (Value.int IntKind.i64 y.kind) := b0.out.cell 0 rfl
        have fb0_1 : wr.cell? ⟨w.heap.size, 1, none⟩ = some (Value.int IntKind.i64 y.n) := b0.out.cell 1 rfl
        have fb0_2 : wr.cell? ⟨w.heap.size, 2, none⟩ = some (Value.string y.s) := b0.out.cell 2 rfl
        have fb0_3 : wr.cell? ⟨w.heap.size, 3, none⟩ = some (Value.slice A3 y.list.length c3) := b0.out.cell 3 rfl
        have fb0_4 : wr.cell? ⟨w.heap.size, 4, none⟩ = some (Value.slice A4 y.names.length c4) := b0.out.cell 4 rfl
        have fb0_z := b0.out.frozen
        have fb1_0 : wr.cell? ⟨(w.heap.size + 1), 0, none⟩ = some (Value.int IntKind.i64 0) := b1.out.cell 0 rfl
        have fb1_1 : wr.cell? ⟨(w.heap.size + 1), 1, none⟩ = some (Value.int IntKind.i64 0) := b1.out.cell 1 rfl
        have fb1_2 : wr.cell? ⟨(w.heap.size + 1), 2, none⟩ = some (Value.string ⟨#[]⟩) := b1.out.cell 2 rfl
        have fb1_3 : wr.cell? ⟨(w.heap.size + 1), 3, none⟩ = some (Value.slice none 0 0) := b1.out.cell 3 rfl
        have fb1_4 : wr.cell? ⟨(w.heap.size + 1), 4, none⟩ = some (Value.slice none 0 0) := b1.out.cell 4 rfl
        have fb1_z := b1.out.frozen
        go_wp2_with fail
        clear fb0_0 fb0_1 fb0_2 fb0_3 fb0_4 fb0_z fb1_0 fb1_1 fb1_2 fb1_3 fb1_4 fb1_z
        have hBq := Hd.mk (Below.refl wr.heap.size wr)
        apply calls_gen; intro W3 hW
        have hz_ : wr.heap.size ≤ W3.heap.size := by rw [hW]; simp
        have hE : Below wr.heap.size wr W3 := by rw [hW]; (repeat (first | with_reducible refine below_alloc ?_ _ | with_reducible refine below_drew ?_)); exact Below.refl _ _
        have hB := Hd.mk (below_then hB.out hE)
        have hBq := Hd.mk (below_then hBq.out hE)
        have b0 := Hd.mk (b0.out.below hE)
        have b1 := Hd.mk (b1.out.below hE)
        clear hW hE
        have z3 := Hd.mk hz_; clear hz_
        refine (spec_l1Copy y _ _ (Ty.K_below _ hB.out HKY.out) HY.out.2.2.1).mono ?_
        rintro e w4 ⟨cs', rfl, hO, hX⟩
        have b0 := Hd.mk (b0.out.below hX)
        have b1 := Hd.mk (b1.out.below hX)
        have hB := Hd.mk (below_then hB.out hX)
        have hz_ := hX.size
        have hBq := Hd.mk (below_then hBq.out hX)
        clear hX
        have z4 := Hd.mk hz_; clear hz_
        obtain ⟨v3, v4, _, _, rfl, hsz3, hr3, hr4, _⟩ := tJ_O.1 hO
        obtain ⟨D3, d3, rfl, _, _⟩ := R_C hr3
        obtain ⟨D4, d4, rfl, _, _⟩ := R_C hr4
        clear hr3 hr4
        replace hO := Hd.mk (show (tJ (M + 1)).O w4 (rng W3.heap.size w4.heap.size) y _ from Ty.O_bound _ hO)
        have fb0_0 : w4.cell? ⟨w.heap.size, 0, none⟩ = some (Value.int IntKind.i64 y.kind) := b0.out.cell 0 rfl
        have fb0_1 : w4.cell? ⟨w.heap.size, 1, none⟩ = some (Value.int IntKind.i64 y.n) := b0.out.cell 1 rfl
        have fb0_2 : w4.cell? ⟨w.heap.size, 2, none⟩ = some (Value.string y.s) := b0.out.cell 2 rfl
        have fb0_3 : w4.cell? ⟨w.heap.size, 3, none⟩ = some (Value.slice A3 y.list.length c3) := b0.out.cell 3 rfl
        have fb0_4 : w4.cell? ⟨w.heap.size, 4, none⟩ = some (Value.slice A4 y.names.length c4) := b0.out.cell 4 rfl
        have fb0_z := b0.out.frozen
        have fb1_0 : w4.cell? ⟨(w.heap.size + 1), 0, none⟩ = some (Value.int IntKind.i64 0) := b1.out.cell 0 rfl
        have fb1_1 : w4.cell? ⟨(w.heap.size + 1), 1, none⟩ = some (Value.int IntKind.i64 0) := b1.out.cell 1 rfl
        have fb1_2 : w4.cell? ⟨(w.heap.size + 1), 2, none⟩ = some (Value.string ⟨#[]⟩) := b1.out.cell 2 rfl
        have fb1_3 : w4.cell? ⟨(w.heap.size + 1), 3, none⟩ = some (Value.slice none 0 0) := b1.out.cell 3 rfl
        have fb1_4 : w4.cell? ⟨(w.heap.size + 1), 4, none⟩ = some (Value.slice none 0 0) := b1.out.cell 4 rfl
        have fb1_z := b1.out.frozen
        go_wp2_with fail
        refine bodyPost_retW (v := .tuple #[.agg #[Value.int IntKind.i64 y.kind, Value.int IntKind.i64 y.n, Value.string y.s, Value.slice D3 y.list.length d3, Value.slice D4 y.names.length d4], .bool true]) (by simp [results, Tryd.results38, go_sem, fb0_0, fb0_1, fb0_2, fb0_3, fb0_4, fb0_z, fb1_0, fb1_1, fb1_2, fb1_3, fb1_4, fb1_z]) rfl ?_
        intro W hW
        clear fb0_0 fb0_1 fb0_2 fb0_3 fb0_4 fb0_z fb1_0 fb1_1 fb1_2 fb1_3 fb1_4 fb1_z
        have hz_ : w4.heap.size ≤ W.heap.size := by rw [hW]; simp
        have eF : Fr w4 W (fun k => k = (w.heap.size + 1) ∨ w4.heap.size ≤ k) := by rw [hW]; (repeat (first | with_reducible refine Fr.setCell ?_ _ (fun _ => by simp <;> omega) _ | with_reducible refine Fr.alloc ?_ _ | with_reducible refine Fr.drew ?_)); exact Fr.refl _ _
        have zb_ := zb.out; have zq_ := zq.out; have z3_ := z3.out; have z4_ := z4.out
        have hB := Hd.mk (((Fr.of_below hB.out (fun k => k = (w.heap.size + 1) ∨ w4.heap.size ≤ k)).then_ eF (fun k hk _ => hk)).below (fun k hk => by have := hB.out.size; omega))
        have b0 := Hd.mk (b0.out.fr eF (fun h => by have hlt_ := b0.out.lt; (try simp only at h); omega))
        have b1 := Hd.mk (show Blk W ((w.heap.size + 1)) #[Value.int IntKind.i64 y.kind, Value.int IntKind.i64 y.n, Value.string y.s, Value.slice D3 y.list.length d3, Value.slice D4 y.names.length d4] 40 by rw [hW]; exact (Blk.all b1.out [Value.int IntKind.i64 y.kind, Value.int IntKind.i64 y.n, Value.string y.s, Value.slice D3 y.list.length d3, Value.slice D4 y.names.length d4] rfl))
        have hO := Hd.mk (Ty.O_fr hO.out eF (fun k hk hl h => by skip; (try simp only [rng] at hk); (try simp only at hk); (try simp only at h); omega))
        clear hW eF
        have z5 := Hd.mk hz_; clear hz_
        exact ⟨[Value.int IntKind.i64 y.kind, Value.int IntKind.i64 y.n, Value.string y.s, Value.slice D3 y.list.length d3, Value.slice D4 y.names.length d4], by rw [HN.out], by rw [HF.out]; exact (tJ_le (by have := HY.out.1; omega : M + 1 ≤ m + 1)).O _ _ _ _ (Ty.O_mono _ (fun k hk => by have := hk.1; have := hB.out.size; have := zq.out; have zb_ := zb.out; have zq_ := zq.out; have z3_ := z3.out; have z4_ := z4.out; omega) hO.out), hB.out⟩
set_option maxHeartbeats 4000000 in
set_option maxRecDepth 100000 in
theorem impl_Get {m : Nat} (x : J) (cs : List Value) (A : Option Addr) (c : Nat) (way : List ByteArray) (w : World) (hk : (tJ (m + 1)).K w x cs) (hr : str.C w A way) (hl : bulkJ (m + 1) x ≤ 4194304) (hw : bulkStringS way ≤ 4194304) (hT : EnvT w) (hE : EnvE w) :
    Calls Tryd.prog 39 #[.agg cs.toArray, .slice A way.length c] w fun e w' => ∃ cs, e = .returned (.tuple #[.agg cs.toArray, .bool (getB x way)]) ∧ (tJ (m + 1)).O w' (fun k => w.heap.size ≤ k) (getJ x way) cs ∧ Below w.heap.size w w' := by
  have HK := Hd.mk hk
  have HRW := Hd.mk hr
  have hmw := hr.1
  obtain ⟨A1, c1, A2, c2, rfl, hs, ⟨hc1, hr1⟩, hc2, hr2⟩ := tJ_K.1 hk
  have hm := hr1.1
  clear hr1 hr2 hk hr
  have HW := Hd.mk (show ∀ s ∈ way, s.size ≤ 4194304 from fun s h => by
    have h1 := bulkL_mem ByteArray.size h
    unfold bulkStringS at hw; omega); clear hw
  have HL := Hd.mk hl; clear hl
  have hB := Hd.mk (Below.refl w.heap.size w)
  have HT := Hd.mk hT; have HE := Hd.mk hE; clear hT hE
  go_enter Tryd.func39, Tryd.ntmps39
  go_wp2_with fail
  apply calls_gen; intro W1 hW
  have hz_ : w.heap.size + 2 ≤ W1.heap.size := by rw [hW]; simp
  have hE : Below w.heap.size w W1 := by rw [hW]; (repeat (first | with_reducible refine below_alloc ?_ _ | with_reducible refine below_drew ?_)); exact Below.refl _ _
  have hB := Hd.mk (below_then hB.out hE)
  have b0 := Hd.mk (show Blk W1 (w.heap.size) #[Value.int IntKind.i64 x.kind, Value.int IntKind.i64 x.n, Value.string x.s, Value.slice A1 x.list.length c1, Value.slice A2 x.names.length c2] 40 by rw [hW]; first | exact ((Blk.new _ _ _).alloc _) | (simpa using ((Blk.new _ _ _).alloc _)))
  have b1 := Hd.mk (show Blk W1 (w.heap.size + 1) #[Value.int IntKind.i64 0, Value.int IntKind.i64 0, Value.string ⟨#[]⟩, Value.slice none 0 0, Value.slice none 0 0] 40 by rw [hW]; first | exact (Blk.new1 _ _ _ _) | (simpa using (Blk.new1 _ _ _ _)))
  clear hW hE
  have z1 := Hd.mk hz_; clear hz_
  refine (impl_JsonOk x _ _ (Ty.K_below _ hB.out HK.out)).mono ?_
  rintro e w2 ⟨rfl, hX⟩
  have b0 := Hd.mk (b0.out.below hX)
  have b1 := Hd.mk (b1.out.below hX)
  have hB := Hd.mk (below_then hB.out hX)
  have hz_ := hX.size
  clear hX
  have z2 := Hd.mk hz_; clear hz_
  cases hb : jsonOk x
  · have HN := Hd.mk (show getB x way = false by unfold getB; rw [hb]; rfl)
    have HF := Hd.mk (show getJ x way = J.null by unfold getJ; rw [hb]; rfl)
    have fb0_0 : w2.cell? ⟨w.heap.size, 0, none⟩ = some (Value.int IntKind.i64 x.kind) := b0.out.cell 0 rfl
    have fb0_1 : w2.cell? ⟨w.heap.size, 1, none⟩ = some (Value.int IntKind.i64 x.n) := b0.out.cell 1 rfl
    have fb0_2 : w2.cell? ⟨w.heap.size, 2, none⟩ = some (Value.string x.s) := b0.out.cell 2 rfl
    have fb0_3 : w2.cell? ⟨w.heap.size, 3, none⟩ = some (Value.slice A1 x.list.length c1) := b0.out.cell 3 rfl
    have fb0_4 : w2.cell? ⟨w.heap.size, 4, none⟩ = some (Value.slice A2 x.names.length c2) := b0.out.cell 4 rfl
    have fb0_z := b0.out.frozen
    have fb1_0 : w2.cell? ⟨w.heap.size + 1, 0, none⟩ = some (Value.int IntKind.i64 0) := b1.out.cell 0 rfl
    have fb1_1 : w2.cell? ⟨w.heap.size + 1, 1, none⟩ = some (Value.int IntKind.i64 0) := b1.out.cell 1 rfl
    have fb1_2 : w2.cell? ⟨w.heap.size + 1, 2, none⟩ = some (Value.string ⟨#[]⟩) := b1.out.cell 2 rfl
    have fb1_3 : w2.cell? ⟨w.heap.size + 1, 3, none⟩ = some (Value.slice none 0 0) := b1.out.cell 3 rfl
    have fb1_4 : w2.cell? ⟨w.heap.size + 1, 4, none⟩ = some (Value.slice none 0 0) := b1.out.cell 4 rfl
    have fb1_z := b1.out.frozen
    go_wp2_with fail
    refine bodyPost_retW (v := .tuple #[.agg #[Value.int IntKind.i64 0, Value.int IntKind.i64 0, Value.string ⟨#[]⟩, Value.slice none 0 0, Value.slice none 0 0], .bool false]) (by simp [results, Tryd.results39, go_sem, fb0_0, fb0_1, fb0_2, fb0_3, fb0_4, fb0_z, fb1_0, fb1_1, fb1_2, fb1_3, fb1_4, fb1_z]) rfl ?_
    intro W hW
    clear fb0_0 fb0_1 fb0_2 fb0_3 fb0_4 fb0_z fb1_0 fb1_1 fb1_2 fb1_3 fb1_4 fb1_z
    have hz_ : w2.heap.size ≤ W.heap.size := by rw [hW]; simp
    have eF : Fr w2 W (fun k => k = w.heap.size + 1 ∨ w2.heap.size ≤ k) := by rw [hW]; (repeat (first | with_reducible refine Fr.setCell ?_ _ (fun _ => by simp <;> omega) _ | with_reducible refine Fr.alloc ?_ _ | with_reducible refine Fr.drew ?_)); exact Fr.refl _ _
    have z1_ := z1.out; have z2_ := z2.out
    have hB := Hd.mk (((Fr.of_below hB.out (fun k => k = w.heap.size + 1 ∨ w2.heap.size ≤ k)).then_ eF (fun k hk _ => hk)).below (fun k hk => by have := hB.out.size; omega))
    have b0 := Hd.mk (b0.out.fr eF (fun h => by have hlt_ := b0.out.lt; (try simp only at h); omega))
    have b1 := Hd.mk (show Blk W (w.heap.size + 1) #[Value.int IntKind.i64 0, Value.int IntKind.i64 0, Value.string ⟨#[]⟩, Value.slice none 0 0, Value.slice none 0 0] 40 by rw [hW]; exact (Blk.all b1.out [Value.int IntKind.i64 0, Value.int IntKind.i64 0, Value.string ⟨#[]⟩, Value.slice none 0 0, Value.slice none 0 0] rfl))
    clear hW eF
    have z3 := Hd.mk hz_; clear hz_
    exact ⟨_, by rw [HN.out], by rw [HF.out]; exact ZJ m _ _, hB.out⟩
  · have HOK := Hd.mk hb; clear hb
    have fb0_0 : w2.cell? ⟨w.heap.size, 0, none⟩ = some (Value.int IntKind.i64 x.kind) := b0.out.cell 0 rfl
    have fb0_1 : w2.cell? ⟨w.heap.size, 1, none⟩ = some (Value.int IntKind.i64 x.n) := b0.out.cell 1 rfl
    have fb0_2 : w2.cell? ⟨w.heap.size, 2, none⟩ = some (Value.string x.s) := b0.out.cell 2 rfl
    have fb0_3 : w2.cell? ⟨w.heap.size, 3, none⟩ = some (Value.slice A1 x.list.length c1) := b0.out.cell 3 rfl
    have fb0_4 : w2.cell? ⟨w.heap.size, 4, none⟩ = some (Value.slice A2 x.names.length c2) := b0.out.cell 4 rfl
    have fb0_z := b0.out.frozen
    have fb1_0 : w2.cell? ⟨w.heap.size + 1, 0, none⟩ = some (Value.int IntKind.i64 0) := b1.out.cell 0 rfl
    have fb1_1 : w2.cell? ⟨w.heap.size + 1, 1, none⟩ = some (Value.int IntKind.i64 0) := b1.out.cell 1 rfl
    have fb1_2 : w2.cell? ⟨w.heap.size + 1, 2, none⟩ = some (Value.string ⟨#[]⟩) := b1.out.cell 2 rfl
    have fb1_3 : w2.cell? ⟨w.heap.size + 1, 3, none⟩ = some (Value.slice none 0 0) := b1.out.cell 3 rfl
    have fb1_4 : w2.cell? ⟨w.heap.size + 1, 4, none⟩ = some (Value.slice none 0 0) := b1.out.cell 4 rfl
    have fb1_z := b1.out.frozen
    go_wp2_with fail
    clear fb0_0 fb0_1 fb0_2 fb0_3 fb0_4 fb0_z fb1_0 fb1_1 fb1_2 fb1_3 fb1_4 fb1_z
    go_loopw [15] (fun i wr => ∃ (k : Nat) (M d : Nat) (y : J) (cs : List Value), k ≤ way.length ∧ i = .int .i64 k ∧ Hd ((tJ (M + 1)).K w y cs) ∧ Hd (M ≤ m ∧ sizeN (d + 1) y ≤ 400 ∧ bulkJ (M + 1) y ≤ 4194304 ∧ getV x way = getV y (way.drop k)) ∧ Hd (Blk wr w.heap.size cs.toArray 40) ∧ Hd (Blk wr (w.heap.size + 1) #[Value.int IntKind.i64 0, Value.int IntKind.i64 0, Value.string ⟨#[]⟩, Value.slice none 0 0, Value.slice none 0 0] 40) ∧ Hd (Below w.heap.size w wr)) (fun i _ => way.length - (intOf i).toNat)
    case atStart => exact ⟨0, m, 5, x, _, Nat.zero_le _, rfl, HK, ⟨Nat.le_refl _, of_decide_eq_true HOK.out, HL.out, rfl⟩, b0, b1, hB⟩
    case round =>
      clear hB b0 b1 z1 z2
      obtain ⟨k, M, d, y, cs, hk, rfl, HKY, HY, b0, b1, hB⟩ := hrel
      obtain ⟨A3, c3, A4, c4, rfl, hs3, ⟨hc3, hr3⟩, hc4, hr4⟩ := tJ_K.1 HKY.out
      have hm3 := hr3.1
      have HR3 := Hd.mk hr3; clear hr3 hr4
      have zq := Hd.mk hB.out.size
      have zb := Hd.mk b1.out.lt
      by_cases hlt : k < way.length
      · obtain ⟨ad, rfl, x0, hsz⟩ := C_str_at HRW.out hB.out k hlt
        have hw4 := Hd.mk (HW.out _ (List.getElem_mem hlt))
        have fb0_0 : wr.cell? ⟨w.heap.size, 0, none⟩ = some (Value.int IntKind.i64 y.kind) := b0.out.cell 0 rfl
        have fb0_1 : wr.cell? ⟨w.heap.size, 1, none⟩ = some (Value.int IntKind.i64 y.n) := b0.out.cell 1 rfl
        have fb0_2 : wr.cell? ⟨w.heap.size, 2, none⟩ = some (Value.string y.s) := b0.out.cell 2 rfl
        have fb0_3 : wr.cell? ⟨w.heap.size, 3, none⟩ = some (Value.slice A3 y.list.length c3) := b0.out.cell 3 rfl
        have fb0_4 : wr.cell? ⟨w.heap.size, 4, none⟩ = some (Value.slice A4 y.names.length c4) := b0.out.cell 4 rfl
        have fb0_z := b0.out.frozen
        have fb1_0 : wr.cell? ⟨(w.heap.size + 1), 0, none⟩ = some (Value.int IntKind.i64 0) := b1.out.cell 0 rfl
        have fb1_1 : wr.cell? ⟨(w.heap.size + 1), 1, none⟩ = some (Value.int IntKind.i64 0) := b1.out.cell 1 rfl
        have fb1_2 : wr.cell? ⟨(w.heap.size + 1), 2, none⟩ = some (Value.string ⟨#[]⟩) := b1.out.cell 2 rfl
        have fb1_3 : wr.cell? ⟨(w.heap.size + 1), 3, none⟩ = some (Value.slice none 0 0) := b1.out.cell 3 rfl
        have fb1_4 : wr.cell? ⟨(w.heap.size + 1), 4, none⟩ = some (Value.slice none 0 0) := b1.out.cell 4 rfl
        have fb1_z := b1.out.frozen
        go_wp2_with fail
        clear fb0_0 fb0_1 fb0_2 fb0_3 fb0_4 fb0_z fb1_0 fb1_1 fb1_2 fb1_3 fb1_4 fb1_z
        clear x0
        apply calls_gen; intro W3 hW
        have hz_ : wr.heap.size ≤ W3.heap.size := by rw [hW]; simp
        have hE : Below wr.heap.size wr W3 := by rw [hW]; (repeat (first | with_reducible refine below_alloc ?_ _ | with_reducible refine below_drew ?_)); exact Below.refl _ _
        have hB := Hd.mk (below_then hB.out hE)
        have b0 := Hd.mk (b0.out.below hE)
        have b1 := Hd.mk (b1.out.below hE)
        clear hW hE
        have z3 := Hd.mk hz_; clear hz_
        refine (impl_placeOf y _ way[k] _ (Ty.K_below _ hB.out HKY.out) (by have := hw4.out; omega) (HT.out.below hB.out) (HE.out.below hB.out)).mono ?_
        rintro e w4 ⟨rfl, hX⟩
        have b0 := Hd.mk (b0.out.below hX)
        have b1 := Hd.mk (b1.out.below hX)
        have hB := Hd.mk (below_then hB.out hX)
        have hz_ := hX.size
        clear hX
        have z4 := Hd.mk hz_; clear hz_
        rw [place_eq (own_size HY.out.2.1)]
        obtain ⟨at_, hat⟩ : ∃ z, z = placeS y way[k] := ⟨_, rfl⟩
        rw [← hat]
        have HAT := Hd.mk hat; clear hat
        by_cases h0 : at_ < 0
        · have HV := Hd.mk (show getV x way = none by rw [HY.out.2.2.2]; exact getV_no hlt (by rw [← HAT.out]; exact h0))
          have HN := Hd.mk (show getB x way = false by unfold getB; rw [HV.out]; simp)
          have HF := Hd.mk (show getJ x way = J.null by unfold getJ; rw [HV.out]; simp)
          have fb0_0 : w4.cell? ⟨w.heap.size, 0, none⟩ = some (Value.int IntKind.i64 y.kind) := b0.out.cell 0 rfl
          have fb0_1 : w4.cell? ⟨w.heap.size, 1, none⟩ = some (Value.int IntKind.i64 y.n) := b0.out.cell 1 rfl
          have fb0_2 : w4.cell? ⟨w.heap.size, 2, none⟩ = some (Value.string y.s) := b0.out.cell 2 rfl
          have fb0_3 : w4.cell? ⟨w.heap.size, 3, none⟩ = some (Value.slice A3 y.list.length c3) := b0.out.cell 3 rfl
          have fb0_4 : w4.cell? ⟨w.heap.size, 4, none⟩ = some (Value.slice A4 y.names.length c4) := b0.out.cell 4 rfl
          have fb0_z := b0.out.frozen
          have fb1_0 : w4.cell? ⟨(w.heap.size + 1), 0, none⟩ = some (Value.int IntKind.i64 0) := b1.out.cell 0 rfl
          have fb1_1 : w4.cell? ⟨(w.heap.size + 1), 1, none⟩ = some (Value.int IntKind.i64 0) := b1.out.cell 1 rfl
          have fb1_2 : w4.cell? ⟨(w.heap.size + 1), 2, none⟩ = some (Value.string ⟨#[]⟩) := b1.out.cell 2 rfl
          have fb1_3 : w4.cell? ⟨(w.heap.size + 1), 3, none⟩ = some (Value.slice none 0 0) := b1.out.cell 3 rfl
          have fb1_4 : w4.cell? ⟨(w.heap.size + 1), 4, none⟩ = some (Value.slice none 0 0) := b1.out.cell 4 rfl
          have fb1_z := b1.out.frozen
          go_wp2_with fail
          refine bodyPost_retW (v := .tuple #[.agg #[Value.int IntKind.i64 0, Value.int IntKind.i64 0, Value.string ⟨#[]⟩, Value.slice none 0 0, Value.slice none 0 0], .bool false]) (by simp [results, Tryd.results39, go_sem, fb0_0, fb0_1, fb0_2, fb0_3, fb0_4, fb0_z, fb1_0, fb1_1, fb1_2, fb1_3, fb1_4, fb1_z]) rfl ?_
          intro W hW
          clear fb0_0 fb0_1 fb0_2 fb0_3 fb0_4 fb0_z fb1_0 fb1_1 fb1_2 fb1_3 fb1_4 fb1_z
          have hz_ : w4.heap.size ≤ W.heap.size := by rw [hW]; simp
          have eF : Fr w4 W (fun k => k = (w.heap.size + 1) ∨ w4.heap.size ≤ k) := by rw [hW]; (repeat (first | with_reducible refine Fr.setCell ?_ _ (fun _ => by simp <;> omega) _ | with_reducible refine Fr.alloc ?_ _ | with_reducible refine Fr.drew ?_)); exact Fr.refl _ _
          have zb_ := zb.out; have zq_ := zq.out; have z3_ := z3.out; have z4_ := z4.out
          have hB := Hd.mk (((Fr.of_below hB.out (fun k => k = (w.heap.size + 1) ∨ w4.heap.size ≤ k)).then_ eF (fun k hk _ => hk)).below (fun k hk => by have := hB.out.size; omega))
          have b0 := Hd.mk (b0.out.fr eF (fun h => by have hlt_ := b0.out.lt; (try simp only at h); omega))
          have b1 := Hd.mk (show Blk W ((w.heap.size + 1)) #[Value.int IntKind.i64 0, Value.int IntKind.i64 0, Value.string ⟨#[]⟩, Value.slice none 0 0, Value.slice none 0 0] 40 by rw [hW]; exact (Blk.all b1.out [Value.int IntKind.i64 0, Value.int IntKind.i64 0, Value.string ⟨#[]⟩, Value.slice none 0 0, Value.slice none 0 0] rfl))
          clear hW eF
          have z5 := Hd.mk hz_; clear hz_
          exact ⟨_, by rw [HN.out], by rw [HF.out]; exact ZJ m _ _, hB.out⟩
        · obtain ⟨q, rfl⟩ := Int.eq_ofNat_of_zero_le (Int.not_lt.1 h0)
          clear h0
          have h0 : (0 : Int) ≤ (q : Int) := by omega
          have hq := place_lt (own_size HY.out.2.1) _ HAT.out.symm
          have HG := Hd.mk (getV_yes hlt HAT.out.symm hq)
          obtain ⟨aq, cs0, rfl, hK0, e0, e1⟩ := C_at HR3.out (Below.refl _ _) q hq
          obtain ⟨M, rfl⟩ : ∃ m1 : Nat, M = m1 + 1 := by cases M with | zero => exact hK0.elim | succ M => exact ⟨M, rfl⟩
          obtain ⟨d, rfl, hsd⟩ := sizeN_at HY.out.2.1 q hq
          have HSD := Hd.mk hsd; clear hsd
          have HBK := Hd.mk (show bulkJ (M + 1) y.list[q] ≤ 4194304 by
            have h1 := bulkL_mem (bulkJ (M + 1)) (List.getElem_mem hq)
            have h2 := HY.out.2.2.1
            simp only [bulkJ] at h1 h2 ⊢
            omega)
          have HKe := Hd.mk hK0
          obtain ⟨A5, c5, A6, c6, rfl, hs5, ⟨hc5, hr5⟩, hc6, hr6⟩ := tJ_K.1 hK0
          have hm5 := hr5.1
          clear hK0 hr5 hr6
          have x0 : w4.cell? (aq.add (q * 5)) = some (Value.int IntKind.i64 y.list[q].kind) := cell_below hB.out (e0 _ rfl)
          have x1 : w4.cell? ⟨(aq.add (q * 5)).block, (aq.add (q * 5)).off + 1, none⟩ = some (Value.int IntKind.i64 y.list[q].n) := cell_below hB.out (e1 0 _ rfl)
          have x2 : w4.cell? ⟨(aq.add (q * 5)).block, (aq.add (q * 5)).off + 2, none⟩ = some (Value.string y.list[q].s) := cell_below hB.out (e1 1 _ rfl)
          have x3 : w4.cell? ⟨(aq.add (q * 5)).block, (aq.add (q * 5)).off + 3, none⟩ = some (Value.slice A5 y.list[q].list.length c5) := cell_below hB.out (e1 2 _ rfl)
          have x4 : w4.cell? ⟨(aq.add (q * 5)).block, (aq.add (q * 5)).off + 4, none⟩ = some (Value.slice A6 y.list[q].names.length c6) := cell_below hB.out (e1 3 _ rfl)
          clear e0 e1
          have fb0_0 : w4.cell? ⟨w.heap.size, 0, none⟩ = some (Value.int IntKind.i64 y.kind) := b0.out.cell 0 rfl
          have fb0_1 : w4.cell? ⟨w.heap.size, 1, none⟩ = some (Value.int IntKind.i64 y.n) := b0.out.cell 1 rfl
          have fb0_2 : w4.cell? ⟨w.heap.size, 2, none⟩ = some (Value.string y.s) := b0.out.cell 2 rfl
          have fb0_3 : w4.cell? ⟨w.heap.size, 3, none⟩ = some (Value.slice (some aq) y.list.length c3) := b0.out.cell 3 rfl
          have fb0_4 : w4.cell? ⟨w.heap.size, 4, none⟩ = some (Value.slice A4 y.names.length c4) := b0.out.cell 4 rfl
          have fb0_z := b0.out.frozen
          have fb1_0 : w4.cell? ⟨(w.heap.size + 1), 0, none⟩ = some (Value.int IntKind.i64 0) := b1.out.cell 0 rfl
          have fb1_1 : w4.cell? ⟨(w.heap.size + 1), 1, none⟩ = some (Value.int IntKind.i64 0) := b1.out.cell 1 rfl
          have fb1_2 : w4.cell? ⟨(w.heap.size + 1), 2, none⟩ = some (Value.string ⟨#[]⟩) := b1.out.cell 2 rfl
          have fb1_3 : w4.cell? ⟨(w.heap.size + 1), 3, none⟩ = some (Value.slice none 0 0) := b1.out.cell 3 rfl
          have fb1_4 : w4.cell? ⟨(w.heap.size + 1), 4, none⟩ = some (Value.slice none 0 0) := b1.out.cell 4 rfl
          have fb1_z := b1.out.frozen
          go_wp2_with fail
          obtain ⟨W, hW⟩ : ∃ W, W = (((((w4.setCell ⟨w.heap.size, 0, none⟩ (Value.int IntKind.i64 y.list[q].kind)).setCell ⟨w.heap.size, 1, none⟩ (Value.int IntKind.i64 y.list[q].n)).setCell ⟨w.heap.size, 2, none⟩ (Value.string y.list[q].s)).setCell ⟨w.heap.size, 3, none⟩ (Value.slice A5 y.list[q].list.length c5)).setCell ⟨w.heap.size, 4, none⟩ (Value.slice A6 y.list[q].names.length c6)) := ⟨_, rfl⟩
          rw [← hW]
          clear fb0_0 fb0_1 fb0_2 fb0_3 fb0_4 fb0_z fb1_0 fb1_1 fb1_2 fb1_3 fb1_4 fb1_z
          clear x0 x1 x2 x3 x4
          have hz_ : w4.heap.size ≤ W.heap.size := by rw [hW]; simp
          have eF : Fr w4 W (fun k => k = w.heap.size ∨ w4.heap.size ≤ k) := by rw [hW]; (repeat (first | with_reducible refine Fr.setCell ?_ _ (fun _ => by simp <;> omega) _ | with_reducible refine Fr.alloc ?_ _ | with_reducible refine Fr.drew ?_)); exact Fr.refl _ _
          have zb_ := zb.out; have zq_ := zq.out; have z3_ := z3.out; have z4_ := z4.out
          have hB := Hd.mk (((Fr.of_below hB.out (fun k => k = w.heap.size ∨ w4.heap.size ≤ k)).then_ eF (fun k hk _ => hk)).below (fun k hk => by have := hB.out.size; omega))
          have b0 := Hd.mk (show Blk W (w.heap.size) #[Value.int IntKind.i64 y.list[q].kind, Value.int IntKind.i64 y.list[q].n, Value.string y.list[q].s, Value.slice A5 y.list[q].list.length c5, Value.slice A6 y.list[q].names.length c6] 40 by rw [hW]; exact (Blk.all b0.out [Value.int IntKind.i64 y.list[q].kind, Value.int IntKind.i64 y.list[q].n, Value.string y.list[q].s, Value.slice A5 y.list[q].list.length c5, Value.slice A6 y.list[q].names.length c6] rfl))
          have b1 := Hd.mk (b1.out.fr eF (fun h => by have hlt_ := b1.out.lt; (try simp only at h); omega))
          clear hW eF
          have z5 := Hd.mk hz_; clear hz_
          go_roundw
          case rel => exact ⟨k + 1, M, d, y.list[q], _, by omega, by go_num, HKe, ⟨by have := HY.out.1; omega, HSD.out, HBK.out, by rw [HY.out.2.2.2, HG.out]⟩, b0, b1, hB⟩
          case measure => simp [intOf]; omega
      · obtain rfl : k = way.length := by omega
        have HV := Hd.mk (show getV x way = some y by rw [HY.out.2.2.2, List.drop_length]; rfl)
        have HN := Hd.mk (show getB x way = true by unfold getB; rw [HOK.out, HV.out]; rfl)
        have HF := Hd.mk (show getJ x way = y by unfold getJ; rw [if_pos HOK.out, HV.out]; rfl)
        have fb0_0 : wr.cell? ⟨w.heap.size, 0, none⟩ = some (Value.int IntKind.i64 y.kind) := b0.out.cell 0 rfl
        have fb0_1 : wr.cell? ⟨w.heap.size, 1, none⟩ = some (Value.int IntKind.i64 y.n) := b0.out.cell 1 rfl
        have fb0_2 : wr.cell? ⟨w.heap.size, 2, none⟩ = some (Value.string y.s) := b0.out.cell 2 rfl
        have fb0_3 : wr.cell? ⟨w.heap.size, 3, none⟩ = some (Value.slice A3 y.list.length c3) := b0.out.cell 3 rfl
        have fb0_4 : wr.cell? ⟨w.heap.size, 4, none⟩ = some (Value.slice A4 y.names.length c4) := b0.out.cell 4 rfl
        have fb0_z := b0.out.frozen
        have fb1_0 : wr.cell? ⟨(w.heap.size + 1), 0, none⟩ = some (Value.int IntKind.i64 0) := b1.out.cell 0 rfl
        have fb1_1 : wr.cell? ⟨(w.heap.size + 1), 1, none⟩ = some (Value.int IntKind.i64 0) := b1.out.cell 1 rfl
        have fb1_2 : wr.cell? ⟨(w.heap.size + 1), 2, none⟩ = some (Value.string ⟨#[]⟩) := b1.out.cell 2 rfl
        have fb1_3 : wr.cell? ⟨(w.heap.size + 1), 3, none⟩ = some (Value.slice none 0 0) := b1.out.cell 3 rfl
        have fb1_4 : wr.cell? ⟨(w.heap.size + 1), 4, none⟩ = some (Value.slice none 0 0) := b1.out.cell 4 rfl
        have fb1_z := b1.out.frozen
        go_wp2_with fail
        clear fb0_0 fb0_1 fb0_2 fb0_3 fb0_4 fb0_z fb1_0 fb1_1 fb1_2 fb1_3 fb1_4 fb1_z
        have hBq := Hd.mk (Below.refl wr.heap.size wr)
        apply calls_gen; intro W3 hW
        have hz_ : wr.heap.size ≤ W3.heap.size := by rw [hW]; simp
        have hE : Below wr.heap.size wr W3 := by rw [hW]; (repeat (first | with_reducible refine below_alloc ?_ _ | with_reducible refine below_drew ?_)); exact Below.refl _ _
        have hB := Hd.mk (below_then hB.out hE)
        have hBq := Hd.mk (below_then hBq.out hE)
        have b0 := Hd.mk (b0.out.below hE)
        have b1 := Hd.mk (b1.out.below hE)
        clear hW hE
        have z3 := Hd.mk hz_; clear hz_
        refine (impl_copyJson y _ _ (Ty.K_below _ hB.out HKY.out) HY.out.2.2.1).mono ?_
        rintro e w4 ⟨cs', rfl, hO, hX⟩
        have b0 := Hd.mk (b0.out.below hX)
        have b1 := Hd.mk (b1.out.below hX)
        have hB := Hd.mk (below_then hB.out hX)
        have hz_ := hX.size
        have hBq := Hd.mk (below_then hBq.out hX)
        clear hX
        have z4 := Hd.mk hz_; clear hz_
        obtain ⟨v3, v4, _, _, rfl, hsz3, hr3, hr4, _⟩ := tJ_O.1 hO
        obtain ⟨D3, d3, rfl, _, _⟩ := R_C hr3
        obtain ⟨D4, d4, rfl, _, _⟩ := R_C hr4
        clear hr3 hr4
        replace hO := Hd.mk (show (tJ (M + 1)).O w4 (rng W3.heap.size w4.heap.size) y _ from Ty.O_bound _ hO)
        have fb0_0 : w4.cell? ⟨w.heap.size, 0, none⟩ = some (Value.int IntKind.i64 y.kind) := b0.out.cell 0 rfl
        have fb0_1 : w4.cell? ⟨w.heap.size, 1, none⟩ = some (Value.int IntKind.i64 y.n) := b0.out.cell 1 rfl
        have fb0_2 : w4.cell? ⟨w.heap.size, 2, none⟩ = some (Value.string y.s) := b0.out.cell 2 rfl
        have fb0_3 : w4.cell? ⟨w.heap.size, 3, none⟩ = some (Value.slice A3 y.list.length c3) := b0.out.cell 3 rfl
        have fb0_4 : w4.cell? ⟨w.heap.size, 4, none⟩ = some (Value.slice A4 y.names.length c4) := b0.out.cell 4 rfl
        have fb0_z := b0.out.frozen
        have fb1_0 : w4.cell? ⟨(w.heap.size + 1), 0, none⟩ = some (Value.int IntKind.i64 0) := b1.out.cell 0 rfl
        have fb1_1 : w4.cell? ⟨(w.heap.size + 1), 1, none⟩ = some (Value.int IntKind.i64 0) := b1.out.cell 1 rfl
        have fb1_2 : w4.cell? ⟨(w.heap.size + 1), 2, none⟩ = some (Value.string ⟨#[]⟩) := b1.out.cell 2 rfl
        have fb1_3 : w4.cell? ⟨(w.heap.size + 1), 3, none⟩ = some (Value.slice none 0 0) := b1.out.cell 3 rfl
        have fb1_4 : w4.cell? ⟨(w.heap.size + 1), 4, none⟩ = some (Value.slice none 0 0) := b1.out.cell 4 rfl
        have fb1_z := b1.out.frozen
        go_wp2_with fail
        refine bodyPost_retW (v := .tuple #[.agg #[Value.int IntKind.i64 y.kind, Value.int IntKind.i64 y.n, Value.string y.s, Value.slice D3 y.list.length d3, Value.slice D4 y.names.length d4], .bool true]) (by simp [results, Tryd.results39, go_sem, fb0_0, fb0_1, fb0_2, fb0_3, fb0_4, fb0_z, fb1_0, fb1_1, fb1_2, fb1_3, fb1_4, fb1_z]) rfl ?_
        intro W hW
        clear fb0_0 fb0_1 fb0_2 fb0_3 fb0_4 fb0_z fb1_0 fb1_1 fb1_2 fb1_3 fb1_4 fb1_z
        have hz_ : w4.heap.size ≤ W.heap.size := by rw [hW]; simp
        have eF : Fr w4 W (fun k => k = (w.heap.size + 1) ∨ w4.heap.size ≤ k) := by rw [hW]; (repeat (first | with_reducible refine Fr.setCell ?_ _ (fun _ => by simp <;> omega) _ | with_reducible refine Fr.alloc ?_ _ | with_reducible refine Fr.drew ?_)); exact Fr.refl _ _
        have zb_ := zb.out; have zq_ := zq.out; have z3_ := z3.out; have z4_ := z4.out
        have hB := Hd.mk (((Fr.of_below hB.out (fun k => k = (w.heap.size + 1) ∨ w4.heap.size ≤ k)).then_ eF (fun k hk _ => hk)).below (fun k hk => by have := hB.out.size; omega))
        have b0 := Hd.mk (b0.out.fr eF (fun h => by have hlt_ := b0.out.lt; (try simp only at h); omega))
        have b1 := Hd.mk (show Blk W ((w.heap.size + 1)) #[Value.int IntKind.i64 y.kind, Value.int IntKind.i64 y.n, Value.string y.s, Value.slice D3 y.list.length d3, Value.slice D4 y.names.length d4] 40 by rw [hW]; exact (Blk.all b1.out [Value.int IntKind.i64 y.kind, Value.int IntKind.i64 y.n, Value.string y.s, Value.slice D3 y.list.length d3, Value.slice D4 y.names.length d4] rfl))
        have hO := Hd.mk (Ty.O_fr hO.out eF (fun k hk hl h => by skip; (try simp only [rng] at hk); (try simp only at hk); (try simp only at h); omega))
        clear hW eF
        have z5 := Hd.mk hz_; clear hz_
        exact ⟨[Value.int IntKind.i64 y.kind, Value.int IntKind.i64 y.n, Value.string y.s, Value.slice D3 y.list.length d3, Value.slice D4 y.names.length d4], by rw [HN.out], by rw [HF.out]; exact (tJ_le (by have := HY.out.1; omega : M + 1 ≤ m + 1)).O _ _ _ _ (Ty.O_mono _ (fun k hk => by have := hk.1; have := hB.out.size; have := zq.out; have zb_ := zb.out; have zq_ := zq.out; have z3_ := z3.out; have z4_ := z4.out; omega) hO.out), hB.out⟩
end Go.Proofs.YtkgefjjgjjmklaaDoor.X
