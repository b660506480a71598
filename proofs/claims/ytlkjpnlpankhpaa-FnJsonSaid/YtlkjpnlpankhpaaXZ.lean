/- What is proved here: contracts of the place of a name and of Field. Conditions: none. -/
import Derived.Test.YtlkjpnlpankhpaaXY
import Derived.Test.YtlkjpnlpankhpaaXFa
import Derived.Test.YtlkjpnlpankhpaaXGd
namespace Go.Proofs.Ytlkjpnlpankhpaa.X
open Go.RowKit Go.Sort
set_option linter.unusedVariables false
set_option linter.unusedSimpArgs false
open Ty
/-- The place of a name; -1: none. -/
def nameAt (l : List ByteArray) (s : ByteArray) : Int := idxF (fun x => s.toList == x.toList) l
def field (j : J) (s : ByteArray) : J := if jsonOk j && decide (0 ≤ nameAt j.names s) then j.list.getD (nameAt j.names s).toNat J.null else J.null
def hasField (j : J) (s : ByteArray) : Bool := jsonOk j && decide (0 ≤ nameAt j.names s)
theorem idxF_cases2 {α : Type} (p : α → Bool) (l : List α) : idxF p l = -1 ∨ (idxF p l = (l.findIdx p : Int) ∧ l.findIdx p < l.length) := by
  unfold idxF
  by_cases h : l.findIdx p < l.length
  · exact .inr ⟨if_pos h, h⟩
  · exact .inl (if_neg h)
theorem nameAt_lt (l : List ByteArray) (s : ByteArray) (q : Nat) (h : nameAt l s = q) : q < l.length := by
  rcases idxF_cases2 (fun x : ByteArray => s.toList == x.toList) l with h1 | ⟨h1, h2⟩
  · unfold nameAt at h; omega
  · unfold nameAt at h; omega
theorem jsonOk_own (x : J) (h : jsonOk x = true) : ownB x = true := by
  unfold jsonOk at h
  have h := of_decide_eq_true h
  unfold sizeN at h
  cases hb : ownB x
  · rw [hb] at h; simp at h
  · rfl
set_option maxRecDepth 100000 in
theorem spec_l1At {m : Nat} (x : J) (cs : List Value) (s : ByteArray) (w : World) (hk : (tJ (m + 1)).K w x cs) :
    Calls Try.prog 113 #[.agg cs.toArray, .string s] w fun e w' => e = .returned (.int .i64 (nameAt x.names s)) ∧ Below w.heap.size w w' := by
  obtain ⟨A1, c1, A2, c2, rfl, hs, ⟨hc1, hr1⟩, hc2, hr2⟩ := tJ_K.1 hk
  have hm := hr2.1
  have HC := Hd.mk hr2; clear hr1 hr2 hk
  have hB := Hd.mk (Below.refl w.heap.size w)
  go_enter Try.func113, Try.ntmps113
  go_wp2_with fail
  go_loopw [5] (fun i wr => ∃ k : Nat, k ≤ x.names.length ∧ i = .int .i64 k ∧ Hd ((x.names.take k).all (fun y => !(s.toList == y.toList)) = true) ∧ Hd (Blk wr w.heap.size #[Value.int IntKind.i64 x.kind, Value.int IntKind.i64 x.n, Value.string x.s, Value.slice A1 x.list.length c1, Value.slice A2 x.names.length c2] 27) ∧ Hd (Below w.heap.size w wr)) (fun i _ => x.names.length - (intOf i).toNat)
  case atStart => exact ⟨0, Nat.zero_le _, rfl, ⟨rfl⟩, ⟨Blk.new _ _ _⟩, ⟨below_alloc (Below.refl _ _) _⟩⟩
  case round =>
    obtain ⟨k, hk, rfl, HA, b0, hB⟩ := hrel
    have f0 : wr.cell? ⟨w.heap.size, 0, none⟩ = some (Value.int IntKind.i64 x.kind) := b0.out.cell 0 rfl
    have f1 : wr.cell? ⟨w.heap.size, 1, none⟩ = some (Value.int IntKind.i64 x.n) := b0.out.cell 1 rfl
    have f2 : wr.cell? ⟨w.heap.size, 2, none⟩ = some (Value.string x.s) := b0.out.cell 2 rfl
    have f3 : wr.cell? ⟨w.heap.size, 3, none⟩ = some (Value.slice A1 x.list.length c1) := b0.out.cell 3 rfl
    have f4 : wr.cell? ⟨w.heap.size, 4, none⟩ = some (Value.slice A2 x.names.length c2) := b0.out.cell 4 rfl
    by_cases hlt : k < x.names.length
    · obtain ⟨ad, rfl, x0, hsz⟩ := C_str_at HC.out hB.out k hlt
      have HA2 := Hd.mk (all_take (fun y => !(s.toList == y.toList)) x.names k hlt HA.out)
      cases hb : (x.names[k].toList == s.toList)
      · have Hb := Hd.mk (show (s.toList == x.names[k].toList) = false by rw [BEq.comm]; exact hb)
        go_wp2_with fail
        go_roundw
        case rel => exact ⟨k + 1, by omega, by go_num, ⟨by rw [HA2.out]; simp [Hb.out]⟩, b0, hB⟩
        case measure => simp [intOf]; omega
      · have Hb := Hd.mk (idxF_found (fun y => s.toList == y.toList) x.names k hlt HA.out (by rw [BEq.comm]; exact hb))
        go_wp2_with fail
        go_ret
        exact ⟨by rw [show nameAt x.names s = k from Hb.out]; rfl, hB.out⟩
    · obtain rfl : k = x.names.length := by omega
      go_wp2_with fail
      go_ret
      have := HA.out
      rw [List.take_length] at this
      exact ⟨by rw [show nameAt x.names s = -1 from idxF_none _ _ this]; rfl, hB.out⟩
theorem ownB_names (x : J) (h : ownB x = true) : (x.kind = 5 ∧ x.names.length = x.list.length) ∨ x.names.length = 0 := by
  rcases Nat.eq_zero_or_pos x.names.length with h0 | hn
  · exact .inr h0
  · left
    unfold ownB at h
    split at h
    · cases h
    · split at h
      · cases h
      · rename_i h1 h2
        have hk : x.kind = 5 := by simpa [hn] using h2
        refine ⟨hk, ?_⟩
        rw [hk] at h
        split at h
        · cases h
        · split at h
          · cases h
          · simp at h
            omega
theorem jsonOk_names (x : J) (h : jsonOk x = true) {q : Nat} (hq : q < x.names.length) : q < x.list.length := by
  rcases ownB_names x (jsonOk_own x h) with ⟨_, h1⟩ | h1 <;> omega
theorem nameAt_none (x : J) (s : ByteArray) (h : jsonOk x = true) (hk : (x.kind != 5) = true) : nameAt x.names s = -1 := by
  rcases ownB_names x (jsonOk_own x h) with ⟨h1, _⟩ | h1
  · rw [h1] at hk; simp at hk
  · rw [List.eq_nil_of_length_eq_zero h1]; rfl
theorem bulkL_congr {α : Type} (b c : α → Nat) (l : List α) (h : ∀ x ∈ l, b x = c x) : bulkL b l = bulkL c l := by
  induction l with
  | nil => rfl
  | cons x l ih => simp only [bulkL]; rw [h x (by simp), ih (fun y hy => h y (by simp [hy]))]
theorem C_all {α : Type} {d : Ty α} {w : World} {A : Option Addr} {l : List α} (h : d.C w A l) {x : α} (hx : x ∈ l) : ∃ cs, d.K w x cs := by
  obtain ⟨i, hi⟩ := List.mem_iff_getElem?.1 hx
  obtain ⟨ad, cs, _, hk, _⟩ := h.2 i x hi
  exact ⟨cs, hk⟩
theorem bulkJ_fuel : ∀ (m : Nat) (w : World) (x : J) (cs : List Value), (tJ m).K w x cs → bulkJ (m + 1) x = bulkJ m x
  | 0, _, _, _, hk => hk.elim
  | m + 1, w, x, cs, hk => by
    obtain ⟨A1, c1, A2, c2, rfl, _, ⟨_, hC⟩, _⟩ := tJ_K.1 hk
    have h : bulkL (bulkJ (m + 1)) x.list = bulkL (bulkJ m) x.list := bulkL_congr _ _ _ (fun y hy => by
      obtain ⟨cs', hk'⟩ := C_all hC hy
      exact bulkJ_fuel m w y cs' hk')
    show x.s.size + (x.list.length + bulkL (bulkJ (m + 1)) x.list) + _ = x.s.size + (x.list.length + bulkL (bulkJ m) x.list) + _
    rw [h]
theorem bulk_field {m : Nat} {w : World} {j : J} {cs : List Value} (hk : (tJ (m + 1)).K w j cs) (s : ByteArray) : bulkJ (m + 1) (field j s) ≤ bulkJ (m + 1) j := by
  unfold field
  split
  · obtain ⟨A1, c1, A2, c2, rfl, _, ⟨_, hC⟩, _⟩ := tJ_K.1 hk
    rcases Nat.lt_or_ge (nameAt j.names s).toNat j.list.length with h | h
    · have e : j.list.getD (nameAt j.names s).toNat J.null = j.list[(nameAt j.names s).toNat] := by
        rw [List.getD_eq_getElem?_getD, List.getElem?_eq_getElem h]; rfl
      rw [e]
      have hx := List.getElem_mem h
      obtain ⟨cs', hk'⟩ := C_all hC hx
      rw [bulkJ_fuel m w _ cs' hk']
      have := bulkL_mem (bulkJ m) hx
      show _ ≤ j.s.size + (j.list.length + bulkL (bulkJ m) j.list) + _
      omega
    · have e : j.list.getD (nameAt j.names s).toNat J.null = J.null := by
        rw [List.getD_eq_getElem?_getD, List.getElem?_eq_none h]; rfl
      rw [e]
      show 0 + (0 + 0) + (0 + 0) ≤ _
      omega
  · show 0 + (0 + 0) + (0 + 0) ≤ _
    omega
end Go.Proofs.Ytlkjpnlpankhpaa.X
