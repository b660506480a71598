/- What is proved here: contracts of the functions over lists of numbers and schemas. Conditions: none. -/
import Derived.Test.YtlkjpnlpankhpaaProg
import Derived.Test.YtlkjpnlpankhpaaXT
import Derived.WalkSpells
namespace Go.Proofs.Ytlkjpnlpankhpaa.X
open Go.RowKit Go.Sort
set_option linter.unusedVariables false
set_option linter.unusedSimpArgs false
open Ty
theorem info_int : (Try.prog.info? 3).map (fun i => (i.zero, i.size, i.bytes)) = some (some (.int .i64 0), 1, 8) := by kernel_rfl
theorem info_RowS : (Try.prog.info? 47).map (fun i => (i.zero, i.size, i.bytes)) = some (some (.agg #[.int .i64 0, .slice none 0 0]), 2, 32) := by kernel_rfl
theorem info_RowSS : (Try.prog.info? 79).map (fun i => (i.zero, i.size, i.bytes)) = some (some (.slice none 0 0), 1, 24) := by kernel_rfl
theorem info_MutS : (Try.prog.info? 49).map (fun i => (i.zero, i.size, i.bytes)) = some (some (.agg #[.int .i64 0, .int .i64 0, .int .i64 0, .slice none 0 0]), 4, 48) := by kernel_rfl
theorem info_str : (Try.prog.info? 9).map (fun i => (i.zero, i.size, i.bytes)) = some (some (.string ByteArray.empty), 1, 16) := by kernel_rfl
theorem info_JsonS : (Try.prog.info? 27).map (fun i => (i.zero, i.size, i.bytes)) = some (some (.agg #[.int .i64 0, .int .i64 0, .string ByteArray.empty, .slice none 0 0, .slice none 0 0]), 5, 80) := by kernel_rfl
theorem info_OpS : (Try.prog.info? 38).map (fun i => (i.zero, i.size, i.bytes)) = some (some (.agg #[.int .i64 0, .slice none 0 0, .int .i64 0, .int .i64 0, .string ByteArray.empty, .slice none 0 0, .slice none 0 0]), 7, 112) := by kernel_rfl
def inB (n lo hi : Int) : Bool := decide (lo ≤ n) && decide (n ≤ hi)
theorem inB_iff {n lo hi : Int} : inB n lo hi = true ↔ lo ≤ n ∧ n ≤ hi := by simp [inB]
theorem impl_within (n lo hi : Int) (w : World) : Calls Try.prog 65 #[.int .i64 n, .int .i64 lo, .int .i64 hi] w fun e w' => e = .returned (.bool (inB n lo hi)) ∧ w = w' := by
  go_enter Try.func65, Try.ntmps65
  go_wp2
  all_goals (go_ret; exact ⟨by simp [inB, *] <;> omega, rfl⟩)
theorem spec_l1In (n lo hi : Int) (w : World) : Calls Try.prog 62 #[.int .i64 n, .int .i64 lo, .int .i64 hi] w fun e w' => e = .returned (.bool (inB n lo hi)) ∧ w = w' := by
  go_enter Try.func62, Try.ntmps62
  go_wp2
  all_goals (go_ret; exact ⟨by simp [inB, *] <;> omega, rfl⟩)
theorem impl_isNum (n : Int) (w : World) : Calls Try.prog 103 #[.int .i64 n] w fun e w' => e = .returned (.bool (inB n (-1000000000) 1000000000)) ∧ w = w' := by
  go_enter Try.func103, Try.ntmps103
  go_wp2_with (go_at_call 65; refine (impl_within _ _ _ _).mono ?_; rintro e w' ⟨rfl, rfl⟩)
  go_ret; exact ⟨rfl, rfl⟩
/-- What is left when so much is taken; -1 where there is not as much. -/
def szR (left : Int) (b : Nat) : Int := if (b : Int) ≤ left then left - b else -1
theorem szR_lt {left : Int} {b : Nat} : szR left b < 0 ↔ ¬ ((b : Int) ≤ left) := by unfold szR; split <;> omega
theorem szR_le {left : Int} {b : Nat} (h : 0 ≤ szR left b) (hl : left ≤ 1048576) : b ≤ 1048576 ∧ 0 ≤ szR left b ∧ szR left b ≤ 1048576 ∧ (b : Int) ≤ left ∧ szR left b = left - b := by
  have h' : (b : Int) ≤ left := by
    unfold szR at h
    split at h
    · assumption
    · omega
  unfold szR
  rw [if_pos h']
  omega
theorem szR_add {left : Int} {a b : Nat} (h : 0 ≤ szR left a) : szR (szR left a) b = szR left (a + b) := by
  have h' : (a : Int) ≤ left := by
    unfold szR at h
    split at h
    · assumption
    · omega
  unfold szR
  rw [if_pos h']
  split <;> split <;> omega
theorem szR_neg {left : Int} {a b : Nat} (h : szR left a < 0) : szR left (a + b) = -1 := by
  rw [szR_lt] at h
  unfold szR
  rw [if_neg (by omega)]
/-- Alike: as one Bool. -/
noncomputable def eqv {α : Type} (a b : α) : Bool := @decide (a = b) (Classical.propDecidable _)
theorem eqv_iff {α : Type} {a b : α} : eqv a b = true ↔ a = b := by simp [eqv]
theorem eqv_self {α : Type} (a : α) : eqv a a = true := eqv_iff.2 rfl
theorem eqv_no {α : Type} {a b : α} (h : a ≠ b) : eqv a b = false := by simp [eqv, h]
theorem eqv_len {α : Type} {a b : List α} (h : a.length ≠ b.length) : eqv a b = false := eqv_no (by rintro rfl; exact h rfl)
theorem eqv_at {α : Type} {a b : List α} (k : Nat) (h1 : k < a.length) (h2 : k < b.length) (h : a[k] ≠ b[k]) : eqv a b = false := eqv_no (by rintro rfl; exact h rfl)
theorem calls_gen {P : Program} {f : FuncId} {args : Array Value} {w : World} {Q : Ending → World → Prop} (h : ∀ W, W = w → Calls P f args W Q) : Calls P f args w Q := h w rfl
def schemaOk (cols : List Int) : Bool := cols.all (fun n => inB n 1 4) && inB cols.length 1 3
theorem all_take {α : Type} (p : α → Bool) (l : List α) (k : Nat) (hk : k < l.length) (h : (l.take k).all p = true) : (l.take (k + 1)).all p = p l[k] := by
  rw [List.take_succ_eq_append_getElem hk, List.all_append, h]
  simp
theorem all_false {α : Type} (p : α → Bool) (l : List α) (k : Nat) (h : (l.take k).all p = false) : l.all p = false := by
  rw [← List.take_append_drop k l, List.all_append, h]; rfl
end Go.Proofs.Ytlkjpnlpankhpaa.X
