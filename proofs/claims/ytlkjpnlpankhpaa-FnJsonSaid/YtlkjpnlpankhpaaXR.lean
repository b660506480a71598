/- What is proved here: contracts of NumOf and TextOf. Conditions: none. -/
import Derived.Test.YtlkjpnlpankhpaaXP
import Derived.Test.YtlkjpnlpankhpaaXGd
namespace Go.Proofs.Ytlkjpnlpankhpaa.X
open Go.RowKit Go.Sort
set_option linter.unusedVariables false
set_option linter.unusedSimpArgs false
open Ty
theorem Blk.new3 (w : World) (o o2 o3 : Obj) (cs : Array Value) (t : TypeId) : Blk ((((w.alloc o).alloc o2).alloc o3).alloc (.cells cs t)) (w.heap.size + 1 + 1 + 1) cs t := by simpa using Blk.new (((w.alloc o).alloc o2).alloc o3) cs t
theorem setAll_blk {g : Nat} {t : TypeId} : ∀ (us pre suf : List Value) (w : World), us.length = suf.length → Blk w g (pre ++ suf).toArray t → Blk (setAll w g pre.length us) g (pre ++ us).toArray t
  | [], pre, suf, w, hl, h => by
    obtain rfl : suf = [] := List.eq_nil_of_length_eq_zero hl.symm
    exact h
  | u :: us, pre, [], w, hl, h => by simp at hl
  | u :: us, pre, v :: suf, w, hl, h => by
    have h2 := h.set pre.length u
    have he : (pre ++ v :: suf).toArray.setIfInBounds pre.length u = ((pre ++ [u]) ++ suf).toArray := by simp
    rw [he] at h2
    have h3 := setAll_blk us (pre ++ [u]) suf _ (by simpa using hl) h2
    have e1 : (pre ++ [u]).length = pre.length + 1 := by simp
    have e2 : (pre ++ [u]) ++ us = pre ++ u :: us := by simp
    rw [e1, e2] at h3
    exact h3
theorem Blk.all {w : World} {g : Nat} {cs : Array Value} {t : TypeId} (h : Blk w g cs t) (us : List Value) (hl : us.length = cs.size) : Blk (setAll w g 0 us) g us.toArray t :=
  setAll_blk us [] cs.toList w (by simpa using hl) (by simpa using h)
def nullA : Array Value := #[.int .i64 0, .int .i64 0, .string ⟨#[]⟩, .slice none 0 0, .slice none 0 0]
def pick {α : Type} (b : Bool) (x y : α) : α := if b then x else y
def numOf (n : Int) : J := if jsonOk (J.mk 2 n ByteArray.empty [] []) then J.mk 2 n ByteArray.empty [] [] else J.null
def textOf (s : ByteArray) : J := if jsonOk (J.mk 3 0 s [] []) then J.mk 3 0 s [] [] else J.null
theorem cnt_numOf (m : Nat) (n : Int) : (bulkL (cnJ m) (numOf n).list : Int) + ((numOf n).names.length : Int) = 0 := by
  unfold numOf; split <;> rfl
theorem cnt_textOf (m : Nat) (s : ByteArray) : (bulkL (cnJ m) (textOf s).list : Int) + ((textOf s).names.length : Int) = 0 := by
  unfold textOf; split <;> rfl
theorem K_flat (m : Nat) (w : World) (k n : Int) (s : ByteArray) (hs : s.size ≤ 9223372036854775807) : (tJ (m + 1)).K w (J.mk k n s [] []) [.int .i64 k, .int .i64 n, .string s, .slice none 0 0, .slice none 0 0] :=
  tJ_K.2 ⟨_, _, _, _, rfl, hs, ⟨Nat.le_refl _, C_nil _⟩, Nat.le_refl _, C_nil _⟩
theorem O_flat (m : Nat) (w : World) (S : Nat → Prop) (k n : Int) (s : ByteArray) (hs : s.size ≤ 9223372036854775807) : (tJ (m + 1)).O w S (J.mk k n s [] []) [.int .i64 k, .int .i64 n, .string s, .slice none 0 0, .slice none 0 0] :=
  tJ_O.2 ⟨_, _, fun _ => False, fun _ => False, rfl, hs, R_nil, R_nil, fun _ h => h.elim, fun _ h => h.elim, fun _ h => h.elim⟩
end Go.Proofs.Ytlkjpnlpankhpaa.X
