/- What is proved here: lemmas about the functions that the statement reaches, and what they compute (part 2). Conditions: none. -/
import Derived.Test.YtegcecnjmimbiaaDoorM1
import Derived.Laws.IdiomCopy
import Derived.Lib.SliceRun
import Derived.Lib.ItoaNum
import Derived.Lib.ItoaMem
import Derived.Lib.AtoiAll
import Derived.Lib.AtoiAllCases
import Derived.Test.YtegcecnjmimbiaaDoorShN
import Derived.Laws.IdiomStrings
import Derived.Lib.AtoiErrMem
import Derived.Lib.AppendIntMem
import Derived.Lib.Join
import Derived.Lib.ItoaLen
import Derived.Laws.Tables
import Derived.StillTailTactics
import Derived.Deep.RegionWith
namespace Go.Proofs.YtegcecnjmimbiaaDoor.X
open Go.RowKit Go.Sort
set_option linter.unusedVariables false
set_option linter.unusedSimpArgs false
open Ty
theorem sizeN_bad {d : Nat} {x : J} (h : ownB x = false) : sizeN (d + 1) x = 401 := by simp [sizeN, h]
theorem sizeN_ok {d : Nat} {x : J} (h : ownB x = true) : sizeN (d + 1) x = if 1 + sumZ (sizeN d) x.list ≤ 400 then 1 + sumZ (sizeN d) x.list else 401 := by simp [sizeN, h]
def GreatMid (d : Nat) (l : List J) (k : Nat) (g : Int) : Prop := 1 ≤ g ∧ g ≤ 401 + 400 * ((d : Int) + 1) ∧ (g ≤ 400 → g = 1 + sumZ (sizeN d) (l.take k)) ∧ (400 < g → 400 < 1 + sumZ (sizeN d) l)
theorem greatMid_start {d : Nat} {l : List J} : GreatMid d l 0 1 := ⟨by omega, by omega, fun _ => rfl, fun h => by omega⟩
theorem greatMid_step {d : Nat} {l : List J} {k : Nat} {g g2 : Int} (hk : k < l.length) (h : GreatMid d l k g) (hg : g ≤ 400) (h2 : (if g2 ≤ 400 then g2 else 401) = sizeN d l[k]) (h3 : 1 ≤ g2) (h4 : g2 ≤ 401 + 400 * (d : Int)) : GreatMid d l (k + 1) (g + g2) := by
 obtain ⟨a, b, c, e⟩ := h
 have c := c hg
 have h5 := sumZ_take (sizeN d) l k hk
 have h6 := sumZ_le (sizeN d) (sizeN_pos d) l (k + 1)
 refine ⟨by omega, by omega, fun h => ?_, fun h => ?_⟩
 ·rw [if_pos (by omega)] at h2; omega
 ·split at h2 <;> omega
theorem greatMid_end {d : Nat} {l : List J} {k : Nat} {g : Int} (h : GreatMid d l k g) (he : k = l.length ∨ 400 < g) : (if g ≤ 400 then g else 401) = if 1 + sumZ (sizeN d) l ≤ 400 then 1 + sumZ (sizeN d) l else 401 := by
 obtain ⟨a, b, c, e⟩ := h
 by_cases hg : g ≤ 400
 ·have hk : k = l.length := by omega
  have := c hg
  rw [hk, List.take_length] at this
  rw [if_pos hg, if_pos (by omega), this]
 ·have := e (by omega)
  rw [if_neg hg, if_neg (by omega)]
def GreatPost (d : Nat) (x : J) (w : World) : Ending → World → Prop := fun e w' => ∃ g : Int, e = .returned (.int .i64 g) ∧ (if g ≤ 400 then g else 401) = sizeN d x ∧ 1 ≤ g ∧ g ≤ 401 + 400 * (d : Int) ∧ Below w.heap.size w w'
def GreatC (m : Nat) : Prop := ∀ (x : J) (cs : List Value) (d : Nat) (w : World), d ≤ 6 → (tJ m).K w x cs → Calls Tryd.prog 53 #[.agg cs.toArray, .int .i64 d] w (GreatPost d x w)
theorem ownx_0 {kind n : Int} {s : ByteArray} {list : List J} {names : List ByteArray} (h3 : (n != 0) = true) : ownB (J.mk 0 n s list names) = false := by
 simp_all [ownB, isNumB, namesOkB, List.length_pos_iff] <;> (cases h : namesB names <;> simp_all)
theorem ownx_1 {kind n : Int} {s : ByteArray} {list : List J} {names : List ByteArray} (h3 : (n != 0) = false) (h4 : (s.toList == []) = false) : ownB (J.mk 0 n s list names) = false := by
 simp_all [ownB, isNumB, namesOkB, List.length_pos_iff] <;> (cases h : namesB names <;> simp_all)
theorem ownx_2 {kind n : Int} {s : ByteArray} {list : List J} {names : List ByteArray} (h3 : (n != 0) = false) (h4 : (s.toList == []) = true) (h1 : 0 < list.length) : ownB (J.mk 0 n s list names) = false := by
 simp_all [ownB, isNumB, namesOkB, List.length_pos_iff] <;> (cases h : namesB names <;> simp_all)
theorem ownx_3 {kind n : Int} {s : ByteArray} {list : List J} {names : List ByteArray} (h3 : (n != 0) = false) (h4 : (s.toList == []) = true) (hq : namesOkB (J.mk 0 n s ([] : List J) names) = false) : ownB (J.mk 0 n s ([] : List J) names) = false := by
 simp_all [ownB, isNumB, namesOkB, List.length_pos_iff] <;> (cases h : namesB names <;> simp_all)
theorem ownx_4 {kind n : Int} {s : ByteArray} {list : List J} {names : List ByteArray} (h3 : (n != 0) = false) (h4 : (s.toList == []) = true) (hq : namesOkB (J.mk 0 n s ([] : List J) names) = true) : ownB (J.mk 0 n s ([] : List J) names) = true := by
 simp_all [ownB, isNumB, namesOkB, List.length_pos_iff] <;> (cases h : namesB names <;> simp_all)
theorem ownx_5 {kind n : Int} {s : ByteArray} {list : List J} {names : List ByteArray} (h6 : inB n 0 1 = false) : ownB (J.mk 1 n s list names) = false := by
 simp_all [ownB, isNumB, namesOkB, List.length_pos_iff] <;> (cases h : namesB names <;> simp_all)
theorem ownx_6 {kind n : Int} {s : ByteArray} {list : List J} {names : List ByteArray} (h6 : inB n 0 1 = true) (h4 : (s.toList == []) = false) : ownB (J.mk 1 n s list names) = false := by
 simp_all [ownB, isNumB, namesOkB, List.length_pos_iff] <;> (cases h : namesB names <;> simp_all)
theorem ownx_7 {kind n : Int} {s : ByteArray} {list : List J} {names : List ByteArray} (h6 : inB n 0 1 = true) (h4 : (s.toList == []) = true) (h1 : 0 < list.length) : ownB (J.mk 1 n s list names) = false := by
 simp_all [ownB, isNumB, namesOkB, List.length_pos_iff] <;> (cases h : namesB names <;> simp_all)
theorem ownx_8 {kind n : Int} {s : ByteArray} {list : List J} {names : List ByteArray} (h6 : inB n 0 1 = true) (h4 : (s.toList == []) = true) (hq : namesOkB (J.mk 1 n s ([] : List J) names) = false) : ownB (J.mk 1 n s ([] : List J) names) = false := by
 simp_all [ownB, isNumB, namesOkB, List.length_pos_iff] <;> (cases h : namesB names <;> simp_all)
theorem ownx_9 {kind n : Int} {s : ByteArray} {list : List J} {names : List ByteArray} (h6 : inB n 0 1 = true) (h4 : (s.toList == []) = true) (hq : namesOkB (J.mk 1 n s ([] : List J) names) = true) : ownB (J.mk 1 n s ([] : List J) names) = true := by
 simp_all [ownB, isNumB, namesOkB, List.length_pos_iff] <;> (cases h : namesB names <;> simp_all)
theorem ownx_10 {kind n : Int} {s : ByteArray} {list : List J} {names : List ByteArray} (h6 : inB n (-1000000000) 1000000000 = false) : ownB (J.mk 2 n s list names) = false := by
 simp_all [ownB, isNumB, namesOkB, List.length_pos_iff] <;> (cases h : namesB names <;> simp_all)
theorem ownx_11 {kind n : Int} {s : ByteArray} {list : List J} {names : List ByteArray} (h6 : inB n (-1000000000) 1000000000 = true) (h4 : (s.toList == []) = false) : ownB (J.mk 2 n s list names) = false := by
 simp_all [ownB, isNumB, namesOkB, List.length_pos_iff] <;> (cases h : namesB names <;> simp_all)
theorem ownx_12 {kind n : Int} {s : ByteArray} {list : List J} {names : List ByteArray} (h6 : inB n (-1000000000) 1000000000 = true) (h4 : (s.toList == []) = true) (h1 : 0 < list.length) : ownB (J.mk 2 n s list names) = false := by
 simp_all [ownB, isNumB, namesOkB, List.length_pos_iff] <;> (cases h : namesB names <;> simp_all)
theorem ownx_13 {kind n : Int} {s : ByteArray} {list : List J} {names : List ByteArray} (h6 : inB n (-1000000000) 1000000000 = true) (h4 : (s.toList == []) = true) (hq : namesOkB (J.mk 2 n s ([] : List J) names) = false) : ownB (J.mk 2 n s ([] : List J) names) = false := by
 simp_all [ownB, isNumB, namesOkB, List.length_pos_iff] <;> (cases h : namesB names <;> simp_all)
theorem ownx_14 {kind n : Int} {s : ByteArray} {list : List J} {names : List ByteArray} (h6 : inB n (-1000000000) 1000000000 = true) (h4 : (s.toList == []) = true) (hq : namesOkB (J.mk 2 n s ([] : List J) names) = true) : ownB (J.mk 2 n s ([] : List J) names) = true := by
 simp_all [ownB, isNumB, namesOkB, List.length_pos_iff] <;> (cases h : namesB names <;> simp_all)
theorem ownx_15 {kind n : Int} {s : ByteArray} {list : List J} {names : List ByteArray} (h6 : textB s = false) : ownB (J.mk 3 n s list names) = false := by
 simp_all [ownB, isNumB, namesOkB, List.length_pos_iff] <;> (cases h : namesB names <;> simp_all)
theorem ownx_16 {kind n : Int} {s : ByteArray} {list : List J} {names : List ByteArray} (h6 : textB s = true) (h3 : (n != 0) = true) : ownB (J.mk 3 n s list names) = false := by
 simp_all [ownB, isNumB, namesOkB, List.length_pos_iff] <;> (cases h : namesB names <;> simp_all)
theorem ownx_17 {kind n : Int} {s : ByteArray} {list : List J} {names : List ByteArray} (h6 : textB s = true) (h3 : (n != 0) = false) (h1 : 0 < list.length) : ownB (J.mk 3 n s list names) = false := by
 simp_all [ownB, isNumB, namesOkB, List.length_pos_iff] <;> (cases h : namesB names <;> simp_all)
theorem ownx_18 {kind n : Int} {s : ByteArray} {list : List J} {names : List ByteArray} (h6 : textB s = true) (h3 : (n != 0) = false) (hq : namesOkB (J.mk 3 n s ([] : List J) names) = false) : ownB (J.mk 3 n s ([] : List J) names) = false := by
 simp_all [ownB, isNumB, namesOkB, List.length_pos_iff] <;> (cases h : namesB names <;> simp_all)
theorem ownx_19 {kind n : Int} {s : ByteArray} {list : List J} {names : List ByteArray} (h6 : textB s = true) (h3 : (n != 0) = false) (hq : namesOkB (J.mk 3 n s ([] : List J) names) = true) : ownB (J.mk 3 n s ([] : List J) names) = true := by
 simp_all [ownB, isNumB, namesOkB, List.length_pos_iff] <;> (cases h : namesB names <;> simp_all)
theorem ownx_20 {kind n : Int} {s : ByteArray} {list : List J} {names : List ByteArray} (h4 : (s.toList == []) = false) : ownB (J.mk 4 n s list names) = false := by
 simp_all [ownB, isNumB, namesOkB, List.length_pos_iff] <;> (cases h : namesB names <;> simp_all)
theorem ownx_21 {kind n : Int} {s : ByteArray} {list : List J} {names : List ByteArray} (h4 : (s.toList == []) = true) (h3 : (n != 0) = true) : ownB (J.mk 4 n s list names) = false := by
 simp_all [ownB, isNumB, namesOkB, List.length_pos_iff] <;> (cases h : namesB names <;> simp_all)
theorem ownx_22 {kind n : Int} {s : ByteArray} {list : List J} {names : List ByteArray} (h4 : (s.toList == []) = true) (h3 : (n != 0) = false) (hq : namesOkB (J.mk 4 n s list names) = false) : ownB (J.mk 4 n s list names) = false := by
 simp_all [ownB, isNumB, namesOkB, List.length_pos_iff] <;> (cases h : namesB names <;> simp_all)
theorem ownx_23 {kind n : Int} {s : ByteArray} {list : List J} {names : List ByteArray} (h4 : (s.toList == []) = true) (h3 : (n != 0) = false) (hq : namesOkB (J.mk 4 n s list names) = true) : ownB (J.mk 4 n s list names) = true := by
 simp_all [ownB, isNumB, namesOkB, List.length_pos_iff] <;> (cases h : namesB names <;> simp_all)
theorem ownx_24 {kind n : Int} {s : ByteArray} {list : List J} {names : List ByteArray} (h4 : (s.toList == []) = false) : ownB (J.mk 4 n s list names) = false := by
 simp_all [ownB, isNumB, namesOkB, List.length_pos_iff] <;> (cases h : namesB names <;> simp_all)
theorem ownx_25 {kind n : Int} {s : ByteArray} {list : List J} {names : List ByteArray} (h4 : (s.toList == []) = true) (h3 : (n != 0) = true) : ownB (J.mk 4 n s list names) = false := by
 simp_all [ownB, isNumB, namesOkB, List.length_pos_iff] <;> (cases h : namesB names <;> simp_all)
theorem ownx_26 {kind n : Int} {s : ByteArray} {list : List J} {names : List ByteArray} (h4 : (s.toList == []) = true) (h3 : (n != 0) = false) (hq : namesOkB (J.mk 4 n s list names) = false) : ownB (J.mk 4 n s list names) = false := by
 simp_all [ownB, isNumB, namesOkB, List.length_pos_iff] <;> (cases h : namesB names <;> simp_all)
theorem ownx_27 {kind n : Int} {s : ByteArray} {list : List J} {names : List ByteArray} (h4 : (s.toList == []) = true) (h3 : (n != 0) = false) (hq : namesOkB (J.mk 4 n s list names) = true) : ownB (J.mk 4 n s list names) = true := by
 simp_all [ownB, isNumB, namesOkB, List.length_pos_iff] <;> (cases h : namesB names <;> simp_all)
theorem ownx_28 {kind n : Int} {s : ByteArray} {list : List J} {names : List ByteArray} (h4 : (s.toList == []) = false) : ownB (J.mk 4 n s list names) = false := by
 simp_all [ownB, isNumB, namesOkB, List.length_pos_iff] <;> (cases h : namesB names <;> simp_all)
theorem ownx_29 {kind n : Int} {s : ByteArray} {list : List J} {names : List ByteArray} (h4 : (s.toList == []) = true) (h3 : (n != 0) = true) : ownB (J.mk 4 n s list names) = false := by
 simp_all [ownB, isNumB, namesOkB, List.length_pos_iff] <;> (cases h : namesB names <;> simp_all)
theorem ownx_30 {kind n : Int} {s : ByteArray} {list : List J} {names : List ByteArray} (h4 : (s.toList == []) = true) (h3 : (n != 0) = false) (hq : namesOkB (J.mk 4 n s list names) = false) : ownB (J.mk 4 n s list names) = false := by
 simp_all [ownB, isNumB, namesOkB, List.length_pos_iff] <;> (cases h : namesB names <;> simp_all)
theorem ownx_31 {kind n : Int} {s : ByteArray} {list : List J} {names : List ByteArray} (h4 : (s.toList == []) = true) (h3 : (n != 0) = false) (hq : namesOkB (J.mk 4 n s list names) = true) : ownB (J.mk 4 n s list names) = true := by
 simp_all [ownB, isNumB, namesOkB, List.length_pos_iff] <;> (cases h : namesB names <;> simp_all)
theorem ownx_32 {kind n : Int} {s : ByteArray} {list : List J} {names : List ByteArray} (h4 : (s.toList == []) = false) : ownB (J.mk 5 n s list names) = false := by
 simp_all [ownB, isNumB, namesOkB, List.length_pos_iff] <;> (cases h : namesB names <;> simp_all)
theorem ownx_33 {kind n : Int} {s : ByteArray} {list : List J} {names : List ByteArray} (h4 : (s.toList == []) = true) (h3 : (n != 0) = true) : ownB (J.mk 5 n s list names) = false := by
 simp_all [ownB, isNumB, namesOkB, List.length_pos_iff] <;> (cases h : namesB names <;> simp_all)
theorem ownx_34 {kind n : Int} {s : ByteArray} {list : List J} {names : List ByteArray} (h4 : (s.toList == []) = true) (h3 : (n != 0) = false) (hq : namesOkB (J.mk 5 n s list names) = false) : ownB (J.mk 5 n s list names) = false := by
 simp_all [ownB, isNumB, namesOkB, List.length_pos_iff] <;> (cases h : namesB names <;> simp_all)
theorem ownx_35 {kind n : Int} {s : ByteArray} {list : List J} {names : List ByteArray} (h4 : (s.toList == []) = true) (h3 : (n != 0) = false) (hq : namesOkB (J.mk 5 n s list names) = true) : ownB (J.mk 5 n s list names) = true := by
 simp_all [ownB, isNumB, namesOkB, List.length_pos_iff] <;> (cases h : namesB names <;> simp_all)
theorem ownx_36 {kind n : Int} {s : ByteArray} {list : List J} {names : List ByteArray} (h4 : (s.toList == []) = false) : ownB (J.mk 5 n s list names) = false := by
 simp_all [ownB, isNumB, namesOkB, List.length_pos_iff] <;> (cases h : namesB names <;> simp_all)
theorem ownx_37 {kind n : Int} {s : ByteArray} {list : List J} {names : List ByteArray} (h4 : (s.toList == []) = true) (h3 : (n != 0) = true) : ownB (J.mk 5 n s list names) = false := by
 simp_all [ownB, isNumB, namesOkB, List.length_pos_iff] <;> (cases h : namesB names <;> simp_all)
theorem ownx_38 {kind n : Int} {s : ByteArray} {list : List J} {names : List ByteArray} (h4 : (s.toList == []) = true) (h3 : (n != 0) = false) (hq : namesOkB (J.mk 5 n s list names) = false) : ownB (J.mk 5 n s list names) = false := by
 simp_all [ownB, isNumB, namesOkB, List.length_pos_iff] <;> (cases h : namesB names <;> simp_all)
theorem ownx_39 {kind n : Int} {s : ByteArray} {list : List J} {names : List ByteArray} (h4 : (s.toList == []) = true) (h3 : (n != 0) = false) (hq : namesOkB (J.mk 5 n s list names) = true) : ownB (J.mk 5 n s list names) = true := by
 simp_all [ownB, isNumB, namesOkB, List.length_pos_iff] <;> (cases h : namesB names <;> simp_all)
theorem ownx_40 {kind n : Int} {s : ByteArray} {list : List J} {names : List ByteArray} (h4 : (s.toList == []) = false) : ownB (J.mk 5 n s list names) = false := by
 simp_all [ownB, isNumB, namesOkB, List.length_pos_iff] <;> (cases h : namesB names <;> simp_all)
theorem ownx_41 {kind n : Int} {s : ByteArray} {list : List J} {names : List ByteArray} (h4 : (s.toList == []) = true) (h3 : (n != 0) = true) : ownB (J.mk 5 n s list names) = false := by
 simp_all [ownB, isNumB, namesOkB, List.length_pos_iff] <;> (cases h : namesB names <;> simp_all)
theorem ownx_42 {kind n : Int} {s : ByteArray} {list : List J} {names : List ByteArray} (h4 : (s.toList == []) = true) (h3 : (n != 0) = false) (hq : namesOkB (J.mk 5 n s list names) = false) : ownB (J.mk 5 n s list names) = false := by
 simp_all [ownB, isNumB, namesOkB, List.length_pos_iff] <;> (cases h : namesB names <;> simp_all)
theorem ownx_43 {kind n : Int} {s : ByteArray} {list : List J} {names : List ByteArray} (h4 : (s.toList == []) = true) (h3 : (n != 0) = false) (hq : namesOkB (J.mk 5 n s list names) = true) : ownB (J.mk 5 n s list names) = true := by
 simp_all [ownB, isNumB, namesOkB, List.length_pos_iff] <;> (cases h : namesB names <;> simp_all)
theorem ownx_44 {kind n : Int} {s : ByteArray} {list : List J} {names : List ByteArray} (e0 : (kind == 0) = false) (e1 : (kind == 1) = false) (e2 : (kind == 2) = false) (e3 : (kind == 3) = false) (e4 : (kind == 4) = false) (e5 : (kind == 5) = false) : ownB (J.mk kind n s list names) = false := by
 simp_all [ownB, isNumB, namesOkB, List.length_pos_iff] <;> (cases h : namesB names <;> simp_all)
set_option maxHeartbeats 4000000 in
set_option maxRecDepth 100000 in
theorem great_0 {m d : Nat} {A1 A2 : Option Addr} {c1 c2 : Nat} {n : Int} {s : ByteArray} {list : List J} {names : List ByteArray} {w : World} (hd : d + 1 ≤ 6) (hk : (tJ (m + 1)).K w (J.mk 0 n s list names) [.int .i64 0, .int .i64 n, .string s, .slice A1 list.length c1, .slice A2 names.length c2]) :
  Calls Tryd.prog 53 #[.agg #[.int .i64 0, .int .i64 n, .string s, .slice A1 list.length c1, .slice A2 names.length c2], .int .i64 ((d : Int) + 1)] w (GreatPost (d + 1) (J.mk 0 n s list names) w) := by
 have hs : s.size ≤ 9223372036854775807 := by obtain ⟨_, _, _, _, _, h, _⟩ := tJ_K.1 hk; exact h
 have hm1 : list.length ≤ 9223372036854775807 := by obtain ⟨_, _, _, _, _, _, h, _⟩ := tJ_K.1 hk; exact h.2.1
 have hm2 : names.length ≤ 9223372036854775807 := by obtain ⟨_, _, _, _, _, _, _, _, h⟩ := tJ_K.1 hk; exact h.1
 have HK := Hd.mk hk; clear hk
 have hd0 : ((d : Int) + 1 == 0) = false := by rw [beq_eq_false_iff_ne]; omega
 have hB := Hd.mk (below_alloc (Below.refl w.heap.size w) (Obj.cells #[.int .i64 0, .int .i64 n, .string s, .slice A1 list.length c1, .slice A2 names.length c2] 43))
 have b0 := Blk.new w #[.int .i64 0, .int .i64 n, .string s, .slice A1 list.length c1, .slice A2 names.length c2] 43
 go_enter Tryd.func53, Tryd.ntmps53
 cases h3 : (n != 0)
 case true =>
  have HE := Hd.mk (show sizeN (d + 1) (J.mk 0 n s list names) = 401 from sizeN_bad (ownx_0 (kind := 0) h3))
  go_wp2_with fail
  go_ret
  exact ⟨_, rfl, by rw [HE.out]; rfl, by omega, by omega, by exact hB.out⟩
 case false =>
  cases h4 : (s.toList == [])
  case false =>
   have HE := Hd.mk (show sizeN (d + 1) (J.mk 0 n s list names) = 401 from sizeN_bad (ownx_1 (kind := 0) h3 h4))
   go_wp2_with fail
   go_ret
   exact ⟨_, rfl, by rw [HE.out]; rfl, by omega, by omega, by exact hB.out⟩
  case true =>
   by_cases h1 : 0 < list.length
   ·skip
    have HE := Hd.mk (show sizeN (d + 1) (J.mk 0 n s list names) = 401 from sizeN_bad (ownx_2 (kind := 0) h3 h4 h1))
    go_wp2_with fail
    go_ret
    exact ⟨_, rfl, by rw [HE.out]; rfl, by omega, by omega, by exact hB.out⟩
   ·obtain rfl : list = [] := List.eq_nil_of_length_eq_zero (by omega)
    go_wp2_with fail
    refine (spec_l1Names (J.mk 0 n s ([] : List J) names) _ _ ((tJ (m + 1)).K_below hB.out HK.out)).mono ?_
    rintro e w2 ⟨rfl, hX⟩
    replace hB := Hd.mk (below_then hB.out hX)
    clear hX
    cases hq : namesOkB (J.mk 0 n s ([] : List J) names)
    case false =>
     have HE := Hd.mk (show sizeN (d + 1) (J.mk 0 n s ([] : List J) names) = 401 from sizeN_bad (ownx_3 (kind := 0) (list := []) h3 h4 hq))
     go_wp2_with fail
     go_ret
     exact ⟨_, rfl, by rw [HE.out]; rfl, by omega, by omega, by exact hB.out⟩
    case true =>
     have HE := Hd.mk (show sizeN (d + 1) (J.mk 0 n s ([] : List J) names) = 1 by
      rw [sizeN_ok (ownx_4 (kind := 0) (list := []) h3 h4 hq)]
      rfl)
     go_wp2_with fail
     go_ret
     exact ⟨_, rfl, by rw [HE.out]; rfl, by omega, by omega, by exact hB.out⟩
set_option maxHeartbeats 4000000 in
set_option maxRecDepth 100000 in
theorem great_1 {m d : Nat} {A1 A2 : Option Addr} {c1 c2 : Nat} {n : Int} {s : ByteArray} {list : List J} {names : List ByteArray} {w : World} (hd : d + 1 ≤ 6) (hk : (tJ (m + 1)).K w (J.mk 1 n s list names) [.int .i64 1, .int .i64 n, .string s, .slice A1 list.length c1, .slice A2 names.length c2]) :
  Calls Tryd.prog 53 #[.agg #[.int .i64 1, .int .i64 n, .string s, .slice A1 list.length c1, .slice A2 names.length c2], .int .i64 ((d : Int) + 1)] w (GreatPost (d + 1) (J.mk 1 n s list names) w) := by
 have hs : s.size ≤ 9223372036854775807 := by obtain ⟨_, _, _, _, _, h, _⟩ := tJ_K.1 hk; exact h
 have hm1 : list.length ≤ 9223372036854775807 := by obtain ⟨_, _, _, _, _, _, h, _⟩ := tJ_K.1 hk; exact h.2.1
 have hm2 : names.length ≤ 9223372036854775807 := by obtain ⟨_, _, _, _, _, _, _, _, h⟩ := tJ_K.1 hk; exact h.1
 have HK := Hd.mk hk; clear hk
 have hd0 : ((d : Int) + 1 == 0) = false := by rw [beq_eq_false_iff_ne]; omega
 have hB := Hd.mk (below_alloc (Below.refl w.heap.size w) (Obj.cells #[.int .i64 1, .int .i64 n, .string s, .slice A1 list.length c1, .slice A2 names.length c2] 43))
 have b0 := Blk.new w #[.int .i64 1, .int .i64 n, .string s, .slice A1 list.length c1, .slice A2 names.length c2] 43
 go_enter Tryd.func53, Tryd.ntmps53
 go_wp2_with fail
 refine (spec_l1In _ _ _ _).mono ?_
 rintro e w' ⟨rfl, rfl⟩
 cases h6 : inB n 0 1
 case false =>
  have HE := Hd.mk (show sizeN (d + 1) (J.mk 1 n s list names) = 401 from sizeN_bad (ownx_5 (kind := 0) h6))
  go_wp2_with fail
  go_ret
  exact ⟨_, rfl, by rw [HE.out]; rfl, by omega, by omega, by exact hB.out⟩
 case true =>
  cases h4 : (s.toList == [])
  case false =>
   have HE := Hd.mk (show sizeN (d + 1) (J.mk 1 n s list names) = 401 from sizeN_bad (ownx_6 (kind := 0) h6 h4))
   go_wp2_with fail
   go_ret
   exact ⟨_, rfl, by rw [HE.out]; rfl, by omega, by omega, by exact hB.out⟩
  case true =>
   by_cases h1 : 0 < list.length
   ·skip
    have HE := Hd.mk (show sizeN (d + 1) (J.mk 1 n s list names) = 401 from sizeN_bad (ownx_7 (kind := 0) h6 h4 h1))
    go_wp2_with fail
    go_ret
    exact ⟨_, rfl, by rw [HE.out]; rfl, by omega, by omega, by exact hB.out⟩
   ·obtain rfl : list = [] := List.eq_nil_of_length_eq_zero (by omega)
    go_wp2_with fail
    refine (spec_l1Names (J.mk 1 n s ([] : List J) names) _ _ ((tJ (m + 1)).K_below hB.out HK.out)).mono ?_
    rintro e w2 ⟨rfl, hX⟩
    replace hB := Hd.mk (below_then hB.out hX)
    clear hX
    cases hq : namesOkB (J.mk 1 n s ([] : List J) names)
    case false =>
     have HE := Hd.mk (show sizeN (d + 1) (J.mk 1 n s ([] : List J) names) = 401 from sizeN_bad (ownx_8 (kind := 0) (list := []) h6 h4 hq))
     go_wp2_with fail
     go_ret
     exact ⟨_, rfl, by rw [HE.out]; rfl, by omega, by omega, by exact hB.out⟩
    case true =>
     have HE := Hd.mk (show sizeN (d + 1) (J.mk 1 n s ([] : List J) names) = 1 by
      rw [sizeN_ok (ownx_9 (kind := 0) (list := []) h6 h4 hq)]
      rfl)
     go_wp2_with fail
     go_ret
     exact ⟨_, rfl, by rw [HE.out]; rfl, by omega, by omega, by exact hB.out⟩
set_option maxHeartbeats 4000000 in
set_option maxRecDepth 100000 in
theorem great_2 {m d : Nat} {A1 A2 : Option Addr} {c1 c2 : Nat} {n : Int} {s : ByteArray} {list : List J} {names : List ByteArray} {w : World} (hd : d + 1 ≤ 6) (hk : (tJ (m + 1)).K w (J.mk 2 n s list names) [.int .i64 2, .int .i64 n, .string s, .slice A1 list.length c1, .slice A2 names.length c2]) :
  Calls Tryd.prog 53 #[.agg #[.int .i64 2, .int .i64 n, .string s, .slice A1 list.length c1, .slice A2 names.length c2], .int .i64 ((d : Int) + 1)] w (GreatPost (d + 1) (J.mk 2 n s list names) w) := by
 have hs : s.size ≤ 9223372036854775807 := by obtain ⟨_, _, _, _, _, h, _⟩ := tJ_K.1 hk; exact h
 have hm1 : list.length ≤ 9223372036854775807 := by obtain ⟨_, _, _, _, _, _, h, _⟩ := tJ_K.1 hk; exact h.2.1
 have hm2 : names.length ≤ 9223372036854775807 := by obtain ⟨_, _, _, _, _, _, _, _, h⟩ := tJ_K.1 hk; exact h.1
 have HK := Hd.mk hk; clear hk
 have hd0 : ((d : Int) + 1 == 0) = false := by rw [beq_eq_false_iff_ne]; omega
 have hB := Hd.mk (below_alloc (Below.refl w.heap.size w) (Obj.cells #[.int .i64 2, .int .i64 n, .string s, .slice A1 list.length c1, .slice A2 names.length c2] 43))
 have b0 := Blk.new w #[.int .i64 2, .int .i64 n, .string s, .slice A1 list.length c1, .slice A2 names.length c2] 43
 go_enter Tryd.func53, Tryd.ntmps53
 go_wp2_with fail
 refine (spec_l1In _ _ _ _).mono ?_
 rintro e w' ⟨rfl, rfl⟩
 cases h6 : inB n (-1000000000) 1000000000
 case false =>
  have HE := Hd.mk (show sizeN (d + 1) (J.mk 2 n s list names) = 401 from sizeN_bad (ownx_10 (kind := 0) h6))
  go_wp2_with fail
  go_ret
  exact ⟨_, rfl, by rw [HE.out]; rfl, by omega, by omega, by exact hB.out⟩
 case true =>
  cases h4 : (s.toList == [])
  case false =>
   have HE := Hd.mk (show sizeN (d + 1) (J.mk 2 n s list names) = 401 from sizeN_bad (ownx_11 (kind := 0) h6 h4))
   go_wp2_with fail
   go_ret
   exact ⟨_, rfl, by rw [HE.out]; rfl, by omega, by omega, by exact hB.out⟩
  case true =>
   by_cases h1 : 0 < list.length
   ·skip
    have HE := Hd.mk (show sizeN (d + 1) (J.mk 2 n s list names) = 401 from sizeN_bad (ownx_12 (kind := 0) h6 h4 h1))
    go_wp2_with fail
    go_ret
    exact ⟨_, rfl, by rw [HE.out]; rfl, by omega, by omega, by exact hB.out⟩
   ·obtain rfl : list = [] := List.eq_nil_of_length_eq_zero (by omega)
    go_wp2_with fail
    refine (spec_l1Names (J.mk 2 n s ([] : List J) names) _ _ ((tJ (m + 1)).K_below hB.out HK.out)).mono ?_
    rintro e w2 ⟨rfl, hX⟩
    replace hB := Hd.mk (below_then hB.out hX)
    clear hX
    cases hq : namesOkB (J.mk 2 n s ([] : List J) names)
    case false =>
     have HE := Hd.mk (show sizeN (d + 1) (J.mk 2 n s ([] : List J) names) = 401 from sizeN_bad (ownx_13 (kind := 0) (list := []) h6 h4 hq))
     go_wp2_with fail
     go_ret
     exact ⟨_, rfl, by rw [HE.out]; rfl, by omega, by omega, by exact hB.out⟩
    case true =>
     have HE := Hd.mk (show sizeN (d + 1) (J.mk 2 n s ([] : List J) names) = 1 by
      rw [sizeN_ok (ownx_14 (kind := 0) (list := []) h6 h4 hq)]
      rfl)
     go_wp2_with fail
     go_ret
     exact ⟨_, rfl, by rw [HE.out]; rfl, by omega, by omega, by exact hB.out⟩
set_option maxHeartbeats 4000000 in
set_option maxRecDepth 100000 in
theorem great_3 {m d : Nat} {A1 A2 : Option Addr} {c1 c2 : Nat} {n : Int} {s : ByteArray} {list : List J} {names : List ByteArray} {w : World} (hd : d + 1 ≤ 6) (hk : (tJ (m + 1)).K w (J.mk 3 n s list names) [.int .i64 3, .int .i64 n, .string s, .slice A1 list.length c1, .slice A2 names.length c2]) :
  Calls Tryd.prog 53 #[.agg #[.int .i64 3, .int .i64 n, .string s, .slice A1 list.length c1, .slice A2 names.length c2], .int .i64 ((d : Int) + 1)] w (GreatPost (d + 1) (J.mk 3 n s list names) w) := by
 have hs : s.size ≤ 9223372036854775807 := by obtain ⟨_, _, _, _, _, h, _⟩ := tJ_K.1 hk; exact h
 have hm1 : list.length ≤ 9223372036854775807 := by obtain ⟨_, _, _, _, _, _, h, _⟩ := tJ_K.1 hk; exact h.2.1
 have hm2 : names.length ≤ 9223372036854775807 := by obtain ⟨_, _, _, _, _, _, _, _, h⟩ := tJ_K.1 hk; exact h.1
 have HK := Hd.mk hk; clear hk
 have hd0 : ((d : Int) + 1 == 0) = false := by rw [beq_eq_false_iff_ne]; omega
 have hB := Hd.mk (below_alloc (Below.refl w.heap.size w) (Obj.cells #[.int .i64 3, .int .i64 n, .string s, .slice A1 list.length c1, .slice A2 names.length c2] 43))
 have b0 := Blk.new w #[.int .i64 3, .int .i64 n, .string s, .slice A1 list.length c1, .slice A2 names.length c2] 43
 go_enter Tryd.func53, Tryd.ntmps53
 go_wp2_with fail
 refine (spec_l1Text _ _ hs).mono ?_
 rintro e w' ⟨rfl, rfl⟩
 cases h6 : textB s
 case false =>
  have HE := Hd.mk (show sizeN (d + 1) (J.mk 3 n s list names) = 401 from sizeN_bad (ownx_15 (kind := 0) h6))
  go_wp2_with fail
  go_ret
  exact ⟨_, rfl, by rw [HE.out]; rfl, by omega, by omega, by exact hB.out⟩
 case true =>
  cases h3 : (n != 0)
  case true =>
   have HE := Hd.mk (show sizeN (d + 1) (J.mk 3 n s list names) = 401 from sizeN_bad (ownx_16 (kind := 0) h6 h3))
   go_wp2_with fail
   go_ret
   exact ⟨_, rfl, by rw [HE.out]; rfl, by omega, by omega, by exact hB.out⟩
  case false =>
   by_cases h1 : 0 < list.length
   ·skip
    have HE := Hd.mk (show sizeN (d + 1) (J.mk 3 n s list names) = 401 from sizeN_bad (ownx_17 (kind := 0) h6 h3 h1))
    go_wp2_with fail
    go_ret
    exact ⟨_, rfl, by rw [HE.out]; rfl, by omega, by omega, by exact hB.out⟩
   ·obtain rfl : list = [] := List.eq_nil_of_length_eq_zero (by omega)
    go_wp2_with fail
    refine (spec_l1Names (J.mk 3 n s ([] : List J) names) _ _ ((tJ (m + 1)).K_below hB.out HK.out)).mono ?_
    rintro e w2 ⟨rfl, hX⟩
    replace hB := Hd.mk (below_then hB.out hX)
    clear hX
    cases hq : namesOkB (J.mk 3 n s ([] : List J) names)
    case false =>
     have HE := Hd.mk (show sizeN (d + 1) (J.mk 3 n s ([] : List J) names) = 401 from sizeN_bad (ownx_18 (kind := 0) (list := []) h6 h3 hq))
     go_wp2_with fail
     go_ret
     exact ⟨_, rfl, by rw [HE.out]; rfl, by omega, by omega, by exact hB.out⟩
    case true =>
     have HE := Hd.mk (show sizeN (d + 1) (J.mk 3 n s ([] : List J) names) = 1 by
      rw [sizeN_ok (ownx_19 (kind := 0) (list := []) h6 h3 hq)]
      rfl)
     go_wp2_with fail
     go_ret
     exact ⟨_, rfl, by rw [HE.out]; rfl, by omega, by omega, by exact hB.out⟩
set_option maxHeartbeats 4000000 in
set_option maxRecDepth 100000 in
theorem great_4 {m d : Nat} (ih : GreatC m) {A1 A2 : Option Addr} {c1 c2 : Nat} {n : Int} {s : ByteArray} {list : List J} {names : List ByteArray} {w : World} (hd : d + 1 ≤ 6) (hk : (tJ (m + 1)).K w (J.mk 4 n s list names) [.int .i64 4, .int .i64 n, .string s, .slice A1 list.length c1, .slice A2 names.length c2]) :
  Calls Tryd.prog 53 #[.agg #[.int .i64 4, .int .i64 n, .string s, .slice A1 list.length c1, .slice A2 names.length c2], .int .i64 ((d : Int) + 1)] w (GreatPost (d + 1) (J.mk 4 n s list names) w) := by
 have hs : s.size ≤ 9223372036854775807 := by obtain ⟨_, _, _, _, _, h, _⟩ := tJ_K.1 hk; exact h
 have hm1 : list.length ≤ 9223372036854775807 := by obtain ⟨_, _, _, _, _, _, h, _⟩ := tJ_K.1 hk; exact h.2.1
 have hm2 : names.length ≤ 9223372036854775807 := by obtain ⟨_, _, _, _, _, _, _, _, h⟩ := tJ_K.1 hk; exact h.1
 have HK := Hd.mk hk; clear hk
 have hd0 : ((d : Int) + 1 == 0) = false := by rw [beq_eq_false_iff_ne]; omega
 have hB := Hd.mk (below_alloc (Below.refl w.heap.size w) (Obj.cells #[.int .i64 4, .int .i64 n, .string s, .slice A1 list.length c1, .slice A2 names.length c2] 43))
 have b0 := Blk.new w #[.int .i64 4, .int .i64 n, .string s, .slice A1 list.length c1, .slice A2 names.length c2] 43
 go_enter Tryd.func53, Tryd.ntmps53
 go_wp2_with fail
 go_loopw [6, 7] (fun v i wr => ∃ (k : Nat) (g : Int), k ≤ list.length ∧ i = .int .i64 k ∧ v = .int .i64 g ∧ Hd (GreatMid d list k g) ∧ Hd (Below w.heap.size w wr) ∧ Blk wr w.heap.size #[.int .i64 4, .int .i64 n, .string s, .slice A1 list.length c1, .slice A2 names.length c2] 43) (fun _ i _ => list.length - (intOf i).toNat)
 case atStart => exact ⟨0, 1, Nat.zero_le _, rfl, rfl, ⟨greatMid_start⟩, hB, b0⟩
 case round =>
  clear hB b0
  obtain ⟨k, g, hk, rfl, rfl, HG, hB, b0⟩ := hrel
  have hg1 := HG.out.1
  have hg2 := HG.out.2.1
  have f0 : wr.cell? ⟨w.heap.size, 0, none⟩ = some (.int .i64 4) := b0.cell 0 rfl
  have f1 : wr.cell? ⟨w.heap.size, 1, none⟩ = some (.int .i64 n) := b0.cell 1 rfl
  have f2 : wr.cell? ⟨w.heap.size, 2, none⟩ = some (.string s) := b0.cell 2 rfl
  have f3 : wr.cell? ⟨w.heap.size, 3, none⟩ = some (.slice A1 list.length c1) := b0.cell 3 rfl
  have f4 : wr.cell? ⟨w.heap.size, 4, none⟩ = some (.slice A2 names.length c2) := b0.cell 4 rfl
  by_cases hv : g ≤ 400
  ·by_cases hlt : k < list.length
   ·obtain ⟨_, _, _, _, he, _, ⟨_, hr1⟩, _⟩ := tJ_K.1 HK.out
    simp only [List.cons.injEq, Value.slice.injEq, and_true, true_and, J.kind_mk, J.n_mk, J.s_mk, J.list_mk, J.names_mk] at he
    obtain ⟨⟨rfl, rfl⟩, rfl, rfl⟩ := he
    obtain ⟨m, rfl⟩ : ∃ m1 : Nat, m = m1 + 1 := by
     cases m with
     | zero => obtain ⟨_, _, _, h, _⟩ := C_at hr1 (Below.refl _ _) k hlt; exact h.elim
     | succ m => exact ⟨m, rfl⟩
    obtain ⟨ad, A3, c3, A4, c4, rfl, x0, x1, x2, x3, x4, hs4, hr3, hr4⟩ := C_J_at hr1 hB.out k hlt
    simp only [J.list_mk] at x0 x1 x2 x3 x4
    have HK4 := Hd.mk (tJ_K.2 ⟨A3, c3, A4, c4, rfl, hs4, hr3, hr4⟩ : (tJ (m + 1)).K wr list[k] _)
    clear hr3 hr4 hr1
    go_wp2_with fail
    refine (ih list[k] _ d _ (by omega) HK4.out).mono ?_
    rintro e w2 ⟨g2, rfl, hg3, hg4, hg5, hX⟩
    have b02 := b0.below hX
    have hB2 := Hd.mk (below_then hB.out hX)
    have HN := Hd.mk (greatMid_step hlt HG.out hv hg3 hg4 hg5)
    have HG3 := Hd.mk hg3
    clear hX hg3
    go_wp2_with fail
    go_roundw
    case rel => exact ⟨k + 1, g + g2, by omega, by go_num, rfl, HN, hB2, b02⟩
    case measure => simp [intOf]; omega
   ·obtain rfl : k = list.length := by omega
    have HF := Hd.mk (greatMid_end HG.out (.inl rfl))
    cases h4 : (s.toList == [])
    case false =>
     have HE := Hd.mk (show sizeN (d + 1) (J.mk 4 n s list names) = 401 from sizeN_bad (ownx_20 (kind := 0) h4))
     go_wp2_with fail
     go_ret
     exact ⟨_, rfl, by rw [HE.out]; rfl, by omega, by omega, by exact hB.out⟩
    case true =>
     cases h3 : (n != 0)
     case true =>
      have HE := Hd.mk (show sizeN (d + 1) (J.mk 4 n s list names) = 401 from sizeN_bad (ownx_21 (kind := 0) h4 h3))
      go_wp2_with fail
      go_ret
      exact ⟨_, rfl, by rw [HE.out]; rfl, by omega, by omega, by exact hB.out⟩
     case false =>
      go_wp2_with fail
      refine (spec_l1Names (J.mk 4 n s list names) _ _ ((tJ (m + 1)).K_below hB.out HK.out)).mono ?_
      rintro e w2 ⟨rfl, hX⟩
      replace hB := Hd.mk (below_then hB.out hX)
      clear hX
      cases hq : namesOkB (J.mk 4 n s list names)
      case false =>
       have HE := Hd.mk (show sizeN (d + 1) (J.mk 4 n s list names) = 401 from sizeN_bad (ownx_22 (kind := 0) h4 h3 hq))
       go_wp2_with fail
       go_ret
       exact ⟨_, rfl, by rw [HE.out]; rfl, by omega, by omega, by exact hB.out⟩
      case true =>
       have HE := Hd.mk (show sizeN (d + 1) (J.mk 4 n s list names) = _ from sizeN_ok (ownx_23 (kind := 0) h4 h3 hq))
       go_wp2_with fail
       go_ret
       exact ⟨_, rfl, by rw [HE.out]; exact HF.out, by omega, by omega, by exact hB.out⟩
  ·have HF := Hd.mk (greatMid_end HG.out (.inr (by omega)))
   by_cases hlt : k < list.length
   ·skip
    cases h4 : (s.toList == [])
    case false =>
     have HE := Hd.mk (show sizeN (d + 1) (J.mk 4 n s list names) = 401 from sizeN_bad (ownx_24 (kind := 0) h4))
     go_wp2_with fail
     go_ret
     exact ⟨_, rfl, by rw [HE.out]; rfl, by omega, by omega, by exact hB.out⟩
    case true =>
     cases h3 : (n != 0)
     case true =>
      have HE := Hd.mk (show sizeN (d + 1) (J.mk 4 n s list names) = 401 from sizeN_bad (ownx_25 (kind := 0) h4 h3))
      go_wp2_with fail
      go_ret
      exact ⟨_, rfl, by rw [HE.out]; rfl, by omega, by omega, by exact hB.out⟩
     case false =>
      go_wp2_with fail
      refine (spec_l1Names (J.mk 4 n s list names) _ _ ((tJ (m + 1)).K_below hB.out HK.out)).mono ?_
      rintro e w2 ⟨rfl, hX⟩
      replace hB := Hd.mk (below_then hB.out hX)
      clear hX
      cases hq : namesOkB (J.mk 4 n s list names)
      case false =>
       have HE := Hd.mk (show sizeN (d + 1) (J.mk 4 n s list names) = 401 from sizeN_bad (ownx_26 (kind := 0) h4 h3 hq))
       go_wp2_with fail
       go_ret
       exact ⟨_, rfl, by rw [HE.out]; rfl, by omega, by omega, by exact hB.out⟩
      case true =>
       have HE := Hd.mk (show sizeN (d + 1) (J.mk 4 n s list names) = _ from sizeN_ok (ownx_27 (kind := 0) h4 h3 hq))
       go_wp2_with fail
       go_ret
       exact ⟨_, rfl, by rw [HE.out]; exact HF.out, by omega, by omega, by exact hB.out⟩
   ·obtain rfl : k = list.length := by omega
    cases h4 : (s.toList == [])
    case false =>
     have HE := Hd.mk (show sizeN (d + 1) (J.mk 4 n s list names) = 401 from sizeN_bad (ownx_28 (kind := 0) h4))
     go_wp2_with fail
     go_ret
     exact ⟨_, rfl, by rw [HE.out]; rfl, by omega, by omega, by exact hB.out⟩
    case true =>
     cases h3 : (n != 0)
     case true =>
      have HE := Hd.mk (show sizeN (d + 1) (J.mk 4 n s list names) = 401 from sizeN_bad (ownx_29 (kind := 0) h4 h3))
      go_wp2_with fail
      go_ret
      exact ⟨_, rfl, by rw [HE.out]; rfl, by omega, by omega, by exact hB.out⟩
     case false =>
      go_wp2_with fail
      refine (spec_l1Names (J.mk 4 n s list names) _ _ ((tJ (m + 1)).K_below hB.out HK.out)).mono ?_
      rintro e w2 ⟨rfl, hX⟩
      replace hB := Hd.mk (below_then hB.out hX)
      clear hX
      cases hq : namesOkB (J.mk 4 n s list names)
      case false =>
       have HE := Hd.mk (show sizeN (d + 1) (J.mk 4 n s list names) = 401 from sizeN_bad (ownx_30 (kind := 0) h4 h3 hq))
       go_wp2_with fail
       go_ret
       exact ⟨_, rfl, by rw [HE.out]; rfl, by omega, by omega, by exact hB.out⟩
      case true =>
       have HE := Hd.mk (show sizeN (d + 1) (J.mk 4 n s list names) = _ from sizeN_ok (ownx_31 (kind := 0) h4 h3 hq))
       go_wp2_with fail
       go_ret
       exact ⟨_, rfl, by rw [HE.out]; exact HF.out, by omega, by omega, by exact hB.out⟩
set_option maxHeartbeats 4000000 in
set_option maxRecDepth 100000 in
theorem great_5 {m d : Nat} (ih : GreatC m) {A1 A2 : Option Addr} {c1 c2 : Nat} {n : Int} {s : ByteArray} {list : List J} {names : List ByteArray} {w : World} (hd : d + 1 ≤ 6) (hk : (tJ (m + 1)).K w (J.mk 5 n s list names) [.int .i64 5, .int .i64 n, .string s, .slice A1 list.length c1, .slice A2 names.length c2]) :
  Calls Tryd.prog 53 #[.agg #[.int .i64 5, .int .i64 n, .string s, .slice A1 list.length c1, .slice A2 names.length c2], .int .i64 ((d : Int) + 1)] w (GreatPost (d + 1) (J.mk 5 n s list names) w) := by
 have hs : s.size ≤ 9223372036854775807 := by obtain ⟨_, _, _, _, _, h, _⟩ := tJ_K.1 hk; exact h
 have hm1 : list.length ≤ 9223372036854775807 := by obtain ⟨_, _, _, _, _, _, h, _⟩ := tJ_K.1 hk; exact h.2.1
 have hm2 : names.length ≤ 9223372036854775807 := by obtain ⟨_, _, _, _, _, _, _, _, h⟩ := tJ_K.1 hk; exact h.1
 have HK := Hd.mk hk; clear hk
 have hd0 : ((d : Int) + 1 == 0) = false := by rw [beq_eq_false_iff_ne]; omega
 have hB := Hd.mk (below_alloc (Below.refl w.heap.size w) (Obj.cells #[.int .i64 5, .int .i64 n, .string s, .slice A1 list.length c1, .slice A2 names.length c2] 43))
 have b0 := Blk.new w #[.int .i64 5, .int .i64 n, .string s, .slice A1 list.length c1, .slice A2 names.length c2] 43
 go_enter Tryd.func53, Tryd.ntmps53
 go_wp2_with fail
 go_loopw [6, 7] (fun v i wr => ∃ (k : Nat) (g : Int), k ≤ list.length ∧ i = .int .i64 k ∧ v = .int .i64 g ∧ Hd (GreatMid d list k g) ∧ Hd (Below w.heap.size w wr) ∧ Blk wr w.heap.size #[.int .i64 5, .int .i64 n, .string s, .slice A1 list.length c1, .slice A2 names.length c2] 43) (fun _ i _ => list.length - (intOf i).toNat)
 case atStart => exact ⟨0, 1, Nat.zero_le _, rfl, rfl, ⟨greatMid_start⟩, hB, b0⟩
 case round =>
  clear hB b0
  obtain ⟨k, g, hk, rfl, rfl, HG, hB, b0⟩ := hrel
  have hg1 := HG.out.1
  have hg2 := HG.out.2.1
  have f0 : wr.cell? ⟨w.heap.size, 0, none⟩ = some (.int .i64 5) := b0.cell 0 rfl
  have f1 : wr.cell? ⟨w.heap.size, 1, none⟩ = some (.int .i64 n) := b0.cell 1 rfl
  have f2 : wr.cell? ⟨w.heap.size, 2, none⟩ = some (.string s) := b0.cell 2 rfl
  have f3 : wr.cell? ⟨w.heap.size, 3, none⟩ = some (.slice A1 list.length c1) := b0.cell 3 rfl
  have f4 : wr.cell? ⟨w.heap.size, 4, none⟩ = some (.slice A2 names.length c2) := b0.cell 4 rfl
  by_cases hv : g ≤ 400
  ·by_cases hlt : k < list.length
   ·obtain ⟨_, _, _, _, he, _, ⟨_, hr1⟩, _⟩ := tJ_K.1 HK.out
    simp only [List.cons.injEq, Value.slice.injEq, and_true, true_and, J.kind_mk, J.n_mk, J.s_mk, J.list_mk, J.names_mk] at he
    obtain ⟨⟨rfl, rfl⟩, rfl, rfl⟩ := he
    obtain ⟨m, rfl⟩ : ∃ m1 : Nat, m = m1 + 1 := by
     cases m with
     | zero => obtain ⟨_, _, _, h, _⟩ := C_at hr1 (Below.refl _ _) k hlt; exact h.elim
     | succ m => exact ⟨m, rfl⟩
    obtain ⟨ad, A3, c3, A4, c4, rfl, x0, x1, x2, x3, x4, hs4, hr3, hr4⟩ := C_J_at hr1 hB.out k hlt
    simp only [J.list_mk] at x0 x1 x2 x3 x4
    have HK4 := Hd.mk (tJ_K.2 ⟨A3, c3, A4, c4, rfl, hs4, hr3, hr4⟩ : (tJ (m + 1)).K wr list[k] _)
    clear hr3 hr4 hr1
    go_wp2_with fail
    refine (ih list[k] _ d _ (by omega) HK4.out).mono ?_
    rintro e w2 ⟨g2, rfl, hg3, hg4, hg5, hX⟩
    have b02 := b0.below hX
    have hB2 := Hd.mk (below_then hB.out hX)
    have HN := Hd.mk (greatMid_step hlt HG.out hv hg3 hg4 hg5)
    have HG3 := Hd.mk hg3
    clear hX hg3
    go_wp2_with fail
    go_roundw
    case rel => exact ⟨k + 1, g + g2, by omega, by go_num, rfl, HN, hB2, b02⟩
    case measure => simp [intOf]; omega
   ·obtain rfl : k = list.length := by omega
    have HF := Hd.mk (greatMid_end HG.out (.inl rfl))
    cases h4 : (s.toList == [])
    case false =>
     have HE := Hd.mk (show sizeN (d + 1) (J.mk 5 n s list names) = 401 from sizeN_bad (ownx_32 (kind := 0) h4))
     go_wp2_with fail
     go_ret
     exact ⟨_, rfl, by rw [HE.out]; rfl, by omega, by omega, by exact hB.out⟩
    case true =>
     cases h3 : (n != 0)
     case true =>
      have HE := Hd.mk (show sizeN (d + 1) (J.mk 5 n s list names) = 401 from sizeN_bad (ownx_33 (kind := 0) h4 h3))
      go_wp2_with fail
      go_ret
      exact ⟨_, rfl, by rw [HE.out]; rfl, by omega, by omega, by exact hB.out⟩
     case false =>
      go_wp2_with fail
      refine (spec_l1Names (J.mk 5 n s list names) _ _ ((tJ (m + 1)).K_below hB.out HK.out)).mono ?_
      rintro e w2 ⟨rfl, hX⟩
      replace hB := Hd.mk (below_then hB.out hX)
      clear hX
      cases hq : namesOkB (J.mk 5 n s list names)
      case false =>
       have HE := Hd.mk (show sizeN (d + 1) (J.mk 5 n s list names) = 401 from sizeN_bad (ownx_34 (kind := 0) h4 h3 hq))
       go_wp2_with fail
       go_ret
       exact ⟨_, rfl, by rw [HE.out]; rfl, by omega, by omega, by exact hB.out⟩
      case true =>
       have HE := Hd.mk (show sizeN (d + 1) (J.mk 5 n s list names) = _ from sizeN_ok (ownx_35 (kind := 0) h4 h3 hq))
       go_wp2_with fail
       go_ret
       exact ⟨_, rfl, by rw [HE.out]; exact HF.out, by omega, by omega, by exact hB.out⟩
  ·have HF := Hd.mk (greatMid_end HG.out (.inr (by omega)))
   by_cases hlt : k < list.length
   ·skip
    cases h4 : (s.toList == [])
    case false =>
     have HE := Hd.mk (show sizeN (d + 1) (J.mk 5 n s list names) = 401 from sizeN_bad (ownx_36 (kind := 0) h4))
     go_wp2_with fail
     go_ret
     exact ⟨_, rfl, by rw [HE.out]; rfl, by omega, by omega, by exact hB.out⟩
    case true =>
     cases h3 : (n != 0)
     case true =>
      have HE := Hd.mk (show sizeN (d + 1) (J.mk 5 n s list names) = 401 from sizeN_bad (ownx_37 (kind := 0) h4 h3))
      go_wp2_with fail
      go_ret
      exact ⟨_, rfl, by rw [HE.out]; rfl, by omega, by omega, by exact hB.out⟩
     case false =>
      go_wp2_with fail
      refine (spec_l1Names (J.mk 5 n s list names) _ _ ((tJ (m + 1)).K_below hB.out HK.out)).mono ?_
      rintro e w2 ⟨rfl, hX⟩
      replace hB := Hd.mk (below_then hB.out hX)
      clear hX
      cases hq : namesOkB (J.mk 5 n s list names)
      case false =>
       have HE := Hd.mk (show sizeN (d + 1) (J.mk 5 n s list names) = 401 from sizeN_bad (ownx_38 (kind := 0) h4 h3 hq))
       go_wp2_with fail
       go_ret
       exact ⟨_, rfl, by rw [HE.out]; rfl, by omega, by omega, by exact hB.out⟩
      case true =>
       have HE := Hd.mk (show sizeN (d + 1) (J.mk 5 n s list names) = _ from sizeN_ok (ownx_39 (kind := 0) h4 h3 hq))
       go_wp2_with fail
       go_ret
       exact ⟨_, rfl, by rw [HE.out]; exact HF.out, by omega, by omega, by exact hB.out⟩
   ·obtain rfl : k = list.length := by omega
    cases h4 : (s.toList == [])
    case false =>
     have HE := Hd.mk (show sizeN (d + 1) (J.mk 5 n s list names) = 401 from sizeN_bad (ownx_40 (kind := 0) h4))
     go_wp2_with fail
     go_ret
     exact ⟨_, rfl, by rw [HE.out]; rfl, by omega, by omega, by exact hB.out⟩
    case true =>
     cases h3 : (n != 0)
     case true =>
      have HE := Hd.mk (show sizeN (d + 1) (J.mk 5 n s list names) = 401 from sizeN_bad (ownx_41 (kind := 0) h4 h3))
      go_wp2_with fail
      go_ret
      exact ⟨_, rfl, by rw [HE.out]; rfl, by omega, by omega, by exact hB.out⟩
     case false =>
      go_wp2_with fail
      refine (spec_l1Names (J.mk 5 n s list names) _ _ ((tJ (m + 1)).K_below hB.out HK.out)).mono ?_
      rintro e w2 ⟨rfl, hX⟩
      replace hB := Hd.mk (below_then hB.out hX)
      clear hX
      cases hq : namesOkB (J.mk 5 n s list names)
      case false =>
       have HE := Hd.mk (show sizeN (d + 1) (J.mk 5 n s list names) = 401 from sizeN_bad (ownx_42 (kind := 0) h4 h3 hq))
       go_wp2_with fail
       go_ret
       exact ⟨_, rfl, by rw [HE.out]; rfl, by omega, by omega, by exact hB.out⟩
      case true =>
       have HE := Hd.mk (show sizeN (d + 1) (J.mk 5 n s list names) = _ from sizeN_ok (ownx_43 (kind := 0) h4 h3 hq))
       go_wp2_with fail
       go_ret
       exact ⟨_, rfl, by rw [HE.out]; exact HF.out, by omega, by omega, by exact hB.out⟩
set_option maxHeartbeats 4000000 in
set_option maxRecDepth 100000 in
theorem great_o {m d : Nat} {A1 A2 : Option Addr} {c1 c2 : Nat} {kind n : Int} {s : ByteArray} {list : List J} {names : List ByteArray} {w : World} (hd : d + 1 ≤ 6) (hk : (tJ (m + 1)).K w (J.mk kind n s list names) [.int .i64 kind, .int .i64 n, .string s, .slice A1 list.length c1, .slice A2 names.length c2]) (e0 : (kind == 0) = false) (e1 : (kind == 1) = false) (e2 : (kind == 2) = false) (e3 : (kind == 3) = false) (e4 : (kind == 4) = false) (e5 : (kind == 5) = false) :
  Calls Tryd.prog 53 #[.agg #[.int .i64 kind, .int .i64 n, .string s, .slice A1 list.length c1, .slice A2 names.length c2], .int .i64 ((d : Int) + 1)] w (GreatPost (d + 1) (J.mk kind n s list names) w) := by
 have hs : s.size ≤ 9223372036854775807 := by obtain ⟨_, _, _, _, _, h, _⟩ := tJ_K.1 hk; exact h
 have hm1 : list.length ≤ 9223372036854775807 := by obtain ⟨_, _, _, _, _, _, h, _⟩ := tJ_K.1 hk; exact h.2.1
 have hm2 : names.length ≤ 9223372036854775807 := by obtain ⟨_, _, _, _, _, _, _, _, h⟩ := tJ_K.1 hk; exact h.1
 have HK := Hd.mk hk; clear hk
 have hd0 : ((d : Int) + 1 == 0) = false := by rw [beq_eq_false_iff_ne]; omega
 have hB := Hd.mk (below_alloc (Below.refl w.heap.size w) (Obj.cells #[.int .i64 kind, .int .i64 n, .string s, .slice A1 list.length c1, .slice A2 names.length c2] 43))
 have b0 := Blk.new w #[.int .i64 kind, .int .i64 n, .string s, .slice A1 list.length c1, .slice A2 names.length c2] 43
 go_enter Tryd.func53, Tryd.ntmps53
 have HE := Hd.mk (show sizeN (d + 1) (J.mk kind n s list names) = 401 from sizeN_bad (ownx_44 e0 e1 e2 e3 e4 e5))
 go_wp2_with fail
 go_ret
 exact ⟨_, rfl, by rw [HE.out]; rfl, by omega, by omega, by exact hB.out⟩
theorem great_of {m : Nat} (ih : GreatC m) : GreatC (m + 1) := by
 intro x cs d w hd hk
 obtain ⟨A1, c1, A2, c2, rfl, hs, ⟨hc1, hr1⟩, hc2, hr2⟩ := tJ_K.1 hk
 clear hr1 hr2
 obtain ⟨kind, n, s, list, names⟩ := x
 cases d with
 | zero =>
  clear hk
  have hB := Hd.mk (below_alloc (Below.refl w.heap.size w) (Obj.cells #[.int .i64 kind, .int .i64 n, .string s, .slice A1 list.length c1, .slice A2 names.length c2] 43))
  go_enter Tryd.func53, Tryd.ntmps53
  go_wp2_with fail
  go_ret
  exact ⟨_, rfl, rfl, by omega, by omega, by exact hB.out⟩
 | succ d =>
  by_cases k0 : kind = 0
  ·subst k0; exact great_0 hd hk
  by_cases k1 : kind = 1
  ·subst k1; exact great_1 hd hk
  by_cases k2 : kind = 2
  ·subst k2; exact great_2 hd hk
  by_cases k3 : kind = 3
  ·subst k3; exact great_3 hd hk
  by_cases k4 : kind = 4
  ·subst k4; exact great_4 ih hd hk
  by_cases k5 : kind = 5
  ·subst k5; exact great_5 ih hd hk
  exact great_o hd hk (by simpa using k0) (by simpa using k1) (by simpa using k2) (by simpa using k3) (by simpa using k4) (by simpa using k5)
theorem great_all : ∀ m, GreatC m
 | 0 => fun _ _ _ _ _ hk => hk.elim
 | m + 1 => great_of (great_all m)
set_option maxRecDepth 100000 in
theorem spec_JsonOk {m : Nat} (x : J) (cs : List Value) (w : World) (hk : (tJ (m + 1)).K w x cs) :
  Calls Tryd.prog 35 #[.agg cs.toArray] w fun e w' => e = .returned (.bool (jsonOk x)) ∧ Below w.heap.size w w' := by
 have HK := Hd.mk hk
 obtain ⟨A1, c1, A2, c2, rfl, hs, ⟨hc1, hr1⟩, hc2, hr2⟩ := tJ_K.1 hk
 clear hk hr1 hr2
 have b0 := Blk.new w #[.int .i64 x.kind, .int .i64 x.n, .string x.s, .slice A1 x.list.length c1, .slice A2 x.names.length c2] 43
 have hB0 := Hd.mk (below_alloc (Below.refl w.heap.size w) (Obj.cells #[.int .i64 x.kind, .int .i64 x.n, .string x.s, .slice A1 x.list.length c1, .slice A2 x.names.length c2] 43))
 go_enter Tryd.func35, Tryd.ntmps35
 go_wp2_with fail
 apply calls_gen; intro W hW
 have hX : Below w.heap.size w W := by rw [hW]; exact hB0.out
 clear hW
 refine (great_all (m + 1) x _ 6 W (by omega) ((tJ (m + 1)).K_below hX HK.out)).mono ?_
 rintro e w1 ⟨g, rfl, h1, h2, h3, hX1⟩
 have hB := Hd.mk (below_then hX hX1); clear hX hX1
 have HE := Hd.mk (show jsonOk x = decide (g ≤ 400) by
  rw [jsonOk, ← h1]
  by_cases hg : g ≤ 400
  ·rw [if_pos hg]
  ·rw [if_neg hg]; simp [hg])
 clear h1
 go_wp2_with fail
 go_ret
 exact ⟨by rw [HE.out]; rfl, hB.out⟩
theorem Blk.new3 (w : World) (o o2 o3 : Obj) (cs : Array Value) (t : TypeId) : Blk ((((w.alloc o).alloc o2).alloc o3).alloc (.cells cs t)) (w.heap.size + 1 + 1 + 1) cs t := by simpa using Blk.new (((w.alloc o).alloc o2).alloc o3) cs t
theorem setAll_blk {g : Nat} {t : TypeId} : ∀ (us pre suf : List Value) (w : World), us.length = suf.length → Blk w g (pre ++ suf).toArray t → Blk (setAll w g pre.length us) g (pre ++ us).toArray t
 | [], pre, suf, w, hl, h => by
  obtain rfl : suf = [] := List.eq_nil_of_length_eq_zero hl.symm
  exact h
 | u :: us, pre, [], w, hl, h => by simp at hl
 | u :: us, pre, v :: suf, w, hl, h => by
  have h2 := h.set pre.length u
  have he : (pre ++ v :: suf).toArray.setIfInBounds pre.length u = ((pre ++ [u]) ++ suf).toArray := by simp
  rw [he] at h2
  have h3 := setAll_blk us (pre ++ [u]) suf _ (by simpa using hl) h2
  have e1 : (pre ++ [u]).length = pre.length + 1 := by simp
  have e2 : (pre ++ [u]) ++ us = pre ++ u :: us := by simp
  rw [e1, e2] at h3
  exact h3
theorem Blk.all {w : World} {g : Nat} {cs : Array Value} {t : TypeId} (h : Blk w g cs t) (us : List Value) (hl : us.length = cs.size) : Blk (setAll w g 0 us) g us.toArray t :=
 setAll_blk us [] cs.toList w (by simpa using hl) (by simpa using h)
def nullA : Array Value := #[.int .i64 0, .int .i64 0, .string ⟨#[]⟩, .slice none 0 0, .slice none 0 0]
def pick {α : Type} (b : Bool) (x y : α) : α := if b then x else y
def numOf (n : Int) : J := if jsonOk (J.mk 2 n ByteArray.empty [] []) then J.mk 2 n ByteArray.empty [] [] else J.null
def textOf (s : ByteArray) : J := if jsonOk (J.mk 3 0 s [] []) then J.mk 3 0 s [] [] else J.null
theorem cnt_numOf (m : Nat) (n : Int) : (bulkL (cnJ m) (numOf n).list : Int) + ((numOf n).names.length : Int) = 0 := by
 unfold numOf; split <;> rfl
theorem cnt_textOf (m : Nat) (s : ByteArray) : (bulkL (cnJ m) (textOf s).list : Int) + ((textOf s).names.length : Int) = 0 := by
 unfold textOf; split <;> rfl
theorem K_flat (m : Nat) (w : World) (k n : Int) (s : ByteArray) (hs : s.size ≤ 9223372036854775807) : (tJ (m + 1)).K w (J.mk k n s [] []) [.int .i64 k, .int .i64 n, .string s, .slice none 0 0, .slice none 0 0] :=
 tJ_K.2 ⟨_, _, _, _, rfl, hs, ⟨Nat.le_refl _, C_nil _⟩, Nat.le_refl _, C_nil _⟩
theorem O_flat (m : Nat) (w : World) (S : Nat → Prop) (k n : Int) (s : ByteArray) (hs : s.size ≤ 9223372036854775807) : (tJ (m + 1)).O w S (J.mk k n s [] []) [.int .i64 k, .int .i64 n, .string s, .slice none 0 0, .slice none 0 0] :=
 tJ_O.2 ⟨_, _, fun _ => False, fun _ => False, rfl, hs, R_nil, R_nil, fun _ h => h.elim, fun _ h => h.elim, fun _ h => h.elim⟩
end Go.Proofs.YtegcecnjmimbiaaDoor.X
namespace Go.Proofs.YtegcecnjmimbiaaDoor.X
open Go.RowKit
set_option linter.unusedVariables false
set_option linter.unusedSimpArgs false
open Ty
namespace Ty
variable {α : Type} {d : Ty α} {e : TypeId} {w w1 : World} {S S' : Nat → Prop} {xs : List α} {g n cap : Nat}
theorem R_of_parts {cur : Array Value} (hb : w.heap[g]? = some (.cells cur e (0, 0))) (hg : S g) (hn : xs.length ≤ cap) (hm : cap ≤ 9223372036854775807) (hc : cur.size = cap * d.sz) (T : Nat → Nat → Prop)
  (hT : ∀ i b, T i b → S b ∧ b ≠ g) (hd : ∀ i j b, T i b → T j b → i = j) (hO : ∀ i x, xs[i]? = some x → d.O w (T i) x ((cur.toList.drop (i * d.sz)).take d.sz)) : d.R e w S (.slice (some ⟨g, 0, none⟩) xs.length cap) xs := by
 classical
 refine R_block hb hg hn hm hc (fun b => Classical.epsilon (fun i => T i b)) (fun i x hx => d.O_mono (fun b hb => ⟨(hT i b hb).1, (hT i b hb).2, ?_⟩) (hO i x hx))
 exact hd _ _ b (Classical.epsilon_spec (p := fun i => T i b) ⟨i, hb⟩) hb
theorem R_parts (h : d.R e w S (.slice (some ⟨g, 0, none⟩) n cap) xs) : ∃ (cur : Array Value) (T : Nat → Nat → Prop), w.heap[g]? = some (.cells cur e (0, 0)) ∧ S g ∧ n = xs.length ∧ xs.length ≤ cap ∧ cap ≤ 9223372036854775807 ∧ cur.size = cap * d.sz ∧
  (∀ i b, T i b → S b ∧ b ≠ g ∧ b < w.heap.size) ∧ (∀ i j b, T i b → T j b → i = j) ∧ ∀ i x, xs[i]? = some x → d.O w (T i) x ((cur.toList.drop (i * d.sz)).take d.sz) := by
 obtain ⟨inner, f, ⟨hl, ho⟩, hv, hE⟩ := h
 rcases ho with ⟨he, _⟩ | ⟨g', cap', cur, he, _, hh, h1, h2, h3, h4⟩
 ·cases he
 ·injection he with e1 e2 e3
  injection e1 with e1
  injection e1 with e1 _ _
  subst e1; subst e2; subst e3
  simp only [maxLen] at h2
  refine ⟨cur, fun i b => S b ∧ b ≠ g ∧ f b = i ∧ b < w.heap.size, hh, hv g (by simp [Value.ownBlock]), rfl, h1, by omega, h3, fun i b hb => ⟨hb.1, hb.2.1, hb.2.2.2⟩, fun i j b hi hj => hi.2.2.1.symm.trans hj.2.2.1, fun i x hx => ?_⟩
  have hin : i < xs.length := (List.getElem?_eq_some_iff.1 hx).1
  have hle : i * d.sz + d.sz ≤ xs.length * d.sz := by
   have := Nat.mul_le_mul_right d.sz (show i + 1 ≤ xs.length by omega)
   rw [Nat.add_mul] at this
   omega
  have he : (inner.drop (i * d.sz)).take d.sz = (cur.toList.drop (i * d.sz)).take d.sz := by
   rw [← h4, List.drop_take, List.take_take, Nat.min_eq_left (by omega)]
  have := d.O_bound (hE i x hx)
  rw [he] at this
  exact d.O_mono (fun k hk => ⟨hk.1.1, fun e => hk.1.2.1 (by simp [Value.ownBlock, e]), hk.1.2.2, hk.2⟩) this
end Ty
def over {α : Type} (l : List α) (o : Nat) (vs : List α) : List α := l.take o ++ vs ++ l.drop (o + vs.length)
theorem over_length {α : Type} (l : List α) (o : Nat) (vs : List α) (h : o + vs.length ≤ l.length) : (over l o vs).length = l.length := by
 simp [over]; omega
theorem over_cons {α : Type} (l : List α) (o : Nat) (v : α) (vs : List α) (h : o < l.length) : over (l.set o v) (o + 1) vs = over l o (v :: vs) := by
 unfold over
 rw [List.take_set, List.drop_set]
 rw [if_pos (by omega)]
 rw [List.take_succ_eq_append_getElem h, List.set_append_right _ _ (by simp; omega)]
 have : o - (l.take o).length = 0 := by simp; omega
 rw [this]
 simp [List.length_cons, Nat.add_assoc, Nat.add_comm 1]
theorem heap_setCells {g : Nat} {e : TypeId} {fr : Nat × Nat} : ∀ (vs : List Value) (o : Nat) (w : World) (cur : Array Value), w.heap[g]? = some (.cells cur e fr) → o + vs.length ≤ cur.size →
  ∃ cur' : Array Value, (w.setCells g o vs).heap[g]? = some (.cells cur' e fr) ∧ cur'.toList = over cur.toList o vs
 | [], o, w, cur, h, hl => ⟨cur, h, by simp [over]⟩
 | v :: vs, o, w, cur, h, hl => by
  simp only [List.length_cons] at hl
  have h1 := heap_setCell_ h o v
  obtain ⟨cur', h2, h3⟩ := heap_setCells vs (o + 1) _ _ h1 (by simp; omega)
  refine ⟨cur', h2, ?_⟩
  rw [h3, Array.toList_setIfInBounds, over_cons _ _ _ _ (by simp; omega)]
theorem heap_setCells_ne {g : Nat} : ∀ (vs : List Value) (o : Nat) (w : World) (k : Nat), k ≠ g → (w.setCells g o vs).heap[k]? = w.heap[k]?
 | [], _, _, _, _ => rfl
 | v :: vs, o, w, k, h => (heap_setCells_ne vs (o + 1) _ k h).trans (Below.heap_setCell w _ v k h)
theorem setCells_size {g : Nat} : ∀ (vs : List Value) (o : Nat) (w : World), (w.setCells g o vs).heap.size = w.heap.size
 | [], _, _ => rfl
 | v :: vs, o, w => (setCells_size vs (o + 1) _).trans (by simp)
theorem setCells_fr {S : Nat → Prop} {w0 : World} {g : Nat} (hg : g < w0.heap.size → S g) : ∀ (us : List Value) (i : Nat) (w : World), Fr w0 w S → Fr w0 (w.setCells g i us) S
 | [], _, _, h => h
 | u :: us, i, w, h => setCells_fr hg us (i + 1) _ (h.setCell _ hg u)
theorem run_copy_wide {P : Program} (w : World) (dT sT ty elem : TypeId) (sz b o dLen dCap : Nat) (a : Addr) (sLen sCap : Nat) (cs : List Value)
  (hu : P.underlying dT = some (.slice elem)) (hs : (P.info? elem).map (·.size) = some sz) (hn : cs.length = Nat.min sLen dLen * sz)
  (hsrc : ∀ j v, cs[j]? = some v → w.cell? (a.add j) = some v) (hc : ∀ j, j < cs.length → (w.cell? ⟨b, o + j, none⟩).isSome = true) (hf : ∀ j, j < cs.length → w.frozen? ⟨b, o + j, none⟩ = false) (h1 : ∀ v ∈ cs, v.oneCell' = true) :
  (Builtin.copy_ #[dT, sT] ty #[.slice (some ⟨b, o, none⟩) dLen dCap, .slice (some a) sLen sCap]).run P w = .ok (goInt (Nat.min sLen dLen)) (w.setCells b o cs) := by
 have hl := run_loadCells_list (P := P) w a cs hsrc
 have hst := run_storeCells_cells (P := P) b o cs 0 w (by simpa using hc) (by simpa using hf) h1
 cases hq : P.info? elem with
 | none => simp [hq] at hs
 | some i =>
  have hi : i.size = sz := by simpa [hq] using hs
  simp [Builtin.copy_, run_underlying hu, Builtin.lenOf, Builtin.firstCells, sizeOf, typeInfo, hq, hi, ← hn, hl, hst]
theorem run_clear_wide {P : Program} (w : World) (t e ty : TypeId) (z : Value) (ht : P.underlying t = some (.slice e)) (hv : ∀ w, (zeroValue e).run P w = .ok z w) (h1 : ∀ u ∈ z.cells.toList, u.oneCell' = true) (b o n c : Nat) (hn : 0 < n)
  (hc : ∀ j, j < n * z.cells.size → (w.cell? ⟨b, o + j, none⟩).isSome = true) (hf : ∀ j, j < n * z.cells.size → w.frozen? ⟨b, o + j, none⟩ = false) :
  (Builtin.clear_ #[t] ty #[.slice (some ⟨b, o, none⟩) n c]).run P w = .ok (.tuple #[]) (w.setCells b o (Builtin.zeroCells z.cells n).toList) := by
 have hl : (Builtin.zeroCells z.cells n).toList.length = n * z.cells.size := by simp [Builtin.zeroCells, Nat.mul_comm]
 have hm : ∀ v ∈ (Builtin.zeroCells z.cells n).toList, v.oneCell' = true := by
  intro v hv'
  simp only [Builtin.zeroCells, Array.toList_map, List.mem_map, Array.toList_range, List.mem_range] at hv'
  obtain ⟨i, hi, rfl⟩ := hv'
  have hp : 0 < z.cells.size := by
   rcases Nat.eq_zero_or_pos z.cells.size with h | h
   ·rw [h] at hi; omega
   ·exact h
  rw [getElem!_pos z.cells _ (Nat.mod_lt i hp)]
  exact h1 _ (by simp)
 have hst := run_storeCells_cells (P := P) b o (Builtin.zeroCells z.cells n).toList 0 w (by rw [hl]; simpa using hc) (by rw [hl]; simpa using hf) hm
 simp only [Nat.add_zero] at hst
 obtain ⟨m, rfl⟩ : ∃ m, n = m + 1 := ⟨n - 1, by omega⟩
 simp [Builtin.clear_, run_underlying ht, hv, hst]
theorem R_empty {α : Type} (d : Ty α) (e : TypeId) (W : World) : d.R e (W.alloc (.cells #[] e)) (fun k => W.heap.size ≤ k) (.slice (some ⟨W.heap.size, 0, none⟩) 0 0) [] :=
 R_block (xs := []) (cap := 0) (heap_alloc_new W _) (Nat.le_refl _) (Nat.le_refl _) (by omega) (by simp) (fun _ => 0) (fun i x h => by simp at h)
end Go.Proofs.YtegcecnjmimbiaaDoor.X
namespace Go.Proofs.YtegcecnjmimbiaaDoor.X
open Go.RowKit Go.Sort Go.Proofs.YtegcecnjmimbiaaDoorW.PrintLast
set_option linter.unusedVariables false
set_option linter.unusedSimpArgs false
section
variable {P : Program} {ops : Array Oper} {Q : Exit → Act → World → Prop} {C : World → Prop} {d : Nat}
theorem mixQ_n {next : Act → World → Prop} {a : Act} {w : World} (h : next a w) : mixQ next Q .normal a w := h
theorem wp_gen {c : Code} {a : Act} {w : World} (h : ∀ W, W = w → c.wp P Q a W) : c.wp P Q a w := h w rfl
theorem exit_gen {Q : Exit → Act → World → Prop} {e : Exit} {a : Act} {w : World} (h : ∀ W, W = w → Q e a W) : Q e a w := h w rfl
def mixEB (ops : Array Oper) (d : Nat) : Array Bool → List (Bool × Nat) → Bool
 | l, [] => Region.ready .any ops l == [d] && Region.ready .any ops (l.setIfInBounds d true) == []
 | l, (true, i) :: r => (ops[i]?.map (fun o => readsB o.op && o.dst.isSome)).getD false && Region.noSelect ops && Region.free .any ops l i && (Region.ready .any ops l).contains i && Region.closedB .any ops l && Region.lastB .any ops l [d] i && mixEB ops d (l.setIfInBounds i true) r
 | l, (false, i) :: r => (Region.ready .any ops l == [i]) && !([d].contains i) && mixEB ops d (l.setIfInBounds i true) r
def wpMixE (P : Program) (ops : Array Oper) (C : World → Prop) (Q : Exit → Act → World → Prop) (d : Nat) : List (Bool × Nat) → Act → World → Prop
 | [], a, w => ∀ o, ops[d]? = some o → if Region.wanted o (yielded ops a.tmps) then Oper.wp P o a w (fun a' w' => Q .normal a' w') Q else Q .normal (a.put o.dst undef) w
 | (true, i) :: r, a, w => ∀ o, ops[i]? = some o → wpQuiet P ops C (fun a' => wpMixE P ops C Q d r a' w) [o] a
 | (false, i) :: r, a, w => ∀ o, ops[i]? = some o → if Region.wanted o (yielded ops a.tmps) then Oper.wp P o a w (fun a' w' => C w' ∧ wpMixE P ops C Q d r a' w') Q else wpMixE P ops C Q d r (a.put o.dst undef) w
theorem mixE_last (hQ : ∀ c a n v w, Q (.panic c) (a.put (some n) v) w → Q (.panic c) a w) : ∀ (r : List (Bool × Nat)) (l : Array Bool) (a : Act) (w : World), mixEB ops d l r = true → C w → wpMixE P ops C Q d r a w → wpAnyLast P .any ops Q C [d] (r.length + 1) l a w
 | [], l, a, w, hc, hw, h => by
  simp only [mixEB, Bool.and_eq_true, beq_iff_eq] at hc
  obtain ⟨h1, h2⟩ := hc
  cases ho : ops[d]? with
  | none =>
   have : d ∈ Region.ready .any ops l := by rw [h1]; simp
   obtain ⟨_, oj, hoj, _⟩ := mem_ready.1 this
   rw [ho] at hoj; cases hoj
  | some o =>
   refine wpAnyLast_ready h1 (by simp) (AllReadyL.cons_last ho (by simp) (fun K hK => ?_) AllReadyL.nil)
   have h7 := h o ho
   split at h7
   ·rename_i hw2
    rw [if_pos hw2]
    refine Oper.wp_mono ?_ h7
    intro a' w' h8
    exact hK _ _ ⟨h2, h8⟩
   ·rename_i hw2
    rw [if_neg hw2]
    exact hK _ _ ⟨h2, h7⟩
 | (true, i) :: r, l, a, w, hc, hw, h => by
  simp only [mixEB, Bool.and_eq_true] at hc
  obtain ⟨⟨⟨⟨⟨⟨h0, h1⟩, h2⟩, h3⟩, h4⟩, h5⟩, h6⟩ := hc
  cases ho : ops[i]? with
  | none => rw [ho] at h0; cases h0
  | some o =>
   rw [ho] at h0
   simp only [Option.map_some, Option.getD_some, Bool.and_eq_true] at h0
   obtain ⟨hr, hdst⟩ := h0
   obtain ⟨nd, hnd⟩ := Option.isSome_iff_exists.1 hdst
   have hQ' : ∀ v c a w, Q (.panic c) (a.put o.dst v) w → Q (.panic c) a w := fun v c a w h => hQ c a nd v w (by rw [hnd] at h; exact h)
   have h7 := h o ho
   simp only [wpQuiet] at h7
   split at h7
   ·rename_i hw2
    obtain ⟨v, hv, hk⟩ := h7
    refine wpAnyLast_take ho h1 h2 h3 h4 h5 (hQ' _) (.inl ⟨hw2, fun w' hw' => ?_⟩) hw (mixE_last hQ r _ _ _ h6 hw hk)
    have h8 := hv w' hw'
    unfold Oper.quietAt at h8
    cases hrun : (execOp a.eval o).run P w' with
    | ok n w2 =>
     obtain ⟨u, rfl⟩ := reads_value hr hrun
     rw [hrun] at h8
     obtain ⟨e1, e2⟩ := h8
     rw [e1, e2]
    | halt x w2 => rw [hrun] at h8; exact h8.elim
   ·rename_i hw2
    exact wpAnyLast_take ho h1 h2 h3 h4 h5 (hQ' _) (.inr ⟨by simpa using hw2, rfl⟩) hw (mixE_last hQ r _ _ _ h6 hw h7)
 | (false, i) :: r, l, a, w, hc, hw, h => by
  simp only [mixEB, Bool.and_eq_true, beq_iff_eq, Bool.not_eq_true'] at hc
  obtain ⟨⟨h1, h2⟩, h3⟩ := hc
  cases ho : ops[i]? with
  | none =>
   have : i ∈ Region.ready .any ops l := by rw [h1]; simp
   obtain ⟨_, oj, hoj, _⟩ := mem_ready.1 this
   rw [ho] at hoj; cases hoj
  | some o =>
   refine wpAnyLast_ready h1 (by simp) (AllReadyL.cons ho (by simpa using h2) (fun K hK => ?_) AllReadyL.nil)
   have h7 := h o ho
   split at h7
   ·rename_i hw2
    rw [if_pos hw2]
    refine Oper.wp_mono ?_ h7
    intro a' w' h8
    exact hK _ _ h8.1 (fun _ => mixE_last hQ r _ _ _ h3 h8.1 h8.2)
   ·rename_i hw2
    rw [if_neg hw2]
    exact hK _ _ hw (fun _ => mixE_last hQ r _ _ _ h3 hw h7)
theorem mixE_q {i : Nat} {o : Oper} {r : List (Bool × Nat)} {a : Act} {w : World} (hi : ops.toList[i]? = some o) (h : wpQuiet P ops C (fun a' => wpMixE P ops C Q d r a' w) [o] a) : wpMixE P ops C Q d ((true, i) :: r) a w := by
 rw [Array.getElem?_toList] at hi
 intro o' ho
 rw [hi] at ho; injection ho with ho; subst ho
 exact h
theorem mixE_b {i : Nat} {o : Oper} {r : List (Bool × Nat)} {a : Act} {w : World} (hi : ops.toList[i]? = some o) (h : wpList P ops (mixQ (fun a' w' => C w' ∧ wpMixE P ops C Q d r a' w') Q) [o] a w) (hs : Region.wanted o (yielded ops a.tmps) = true) : wpMixE P ops C Q d ((false, i) :: r) a w := by
 rw [Array.getElem?_toList] at hi
 intro o' ho
 rw [hi] at ho; injection ho with ho; subst ho
 rw [if_pos hs]
 simp only [wpList, hs, if_true] at h
 rcases h with h | h
 ·exact wp_of_mixQ (Oper.wp_mono (fun a' w' h' => h') h)
 ·obtain ⟨a', w', h'⟩ := h.2
  exact h'.elim
theorem mixE_end {o : Oper} {a : Act} {w : World} (hi : ops.toList[d]? = some o) (h : wpList P ops (mixQ (fun a' w' => Q .normal a' w') Q) [o] a w) (hs : Region.wanted o (yielded ops a.tmps) = true) : wpMixE P ops C Q d [] a w := by
 rw [Array.getElem?_toList] at hi
 intro o' ho
 rw [hi] at ho; injection ho with ho; subst ho
 rw [if_pos hs]
 simp only [wpList, hs, if_true] at h
 rcases h with h | h
 ·exact wp_of_mixQ (Oper.wp_mono (fun a' w' h' => h') h)
 ·obtain ⟨a', w', h'⟩ := h.2
  exact h'.elim
theorem region_mixE {id : Nat} {a : Act} {w : World} (order : List (Bool × Nat)) (d : Nat) (hm : P.follows .mixedOrders = true) (hc : (mixEB ops d (Array.replicate ops.size false) order && order.length + 1 == ops.size) = true)
  (hQ : ∀ c a n v w, Q (.panic c) (a.put (some n) v) w → Q (.panic c) a w) (h : wpMixE P ops (fun w' => ∃ p : Regrown, w' = grow (redrawn w p.d) p.os) Q d order a w.drew) : (Code.region id ops true).wp P Q a w := by
 simp only [Bool.and_eq_true, beq_iff_eq] at hc
 refine wp_region_last_drew (S := cls w) (ds := [d]) hm (cls_drew w) (fun hS => ?_)
 have := mixE_last hQ order _ a w.drew hc.1 (cls_drew w) h
 rwa [hc.2] at this
def reads2B : Op → Bool
 | .build .. => true
 | o => readsB o
theorem reads2_value {ρ : Operand → Value} {o : Oper} {P : Program} {w w' : World} {n : Next} (hr : reads2B o.op = true) (h : (execOp ρ o).run P w = .ok n w') : ∃ u, n = .value u := by
 by_cases hb : ∃ t ps, o.op = .build t ps
 ·obtain ⟨t, ps, he⟩ := hb
  unfold execOp at h
  simp only [he] at h
  exact andThen_value h
 ·have : readsB o.op = true := by
   unfold reads2B at hr
   split at hr
   ·rename_i t ps he; exact absurd ⟨_, _, he⟩ hb
   ·exact hr
  exact reads_value this h
theorem last_narrow {P : Program} {ops : Array Oper} {Q : Exit → Act → World → Prop} {S S' : World → Prop} {ts : List Nat} (hSS : ∀ w, S' w → S w) (hT : ∀ i, i < ops.size → i ∉ ts → ∀ d ∈ ts, Region.reachB .any ops i ops.size d = true) :
  ∀ (n : Nat) (l : Array Bool) (a : Act) (w : World), ListedClosed .any ops l → l.size = ops.size → (S' w ∨ ∀ i, l.getD i true = false → i ∈ ts) → wpAnyLast P .any ops Q S' ts n l a w → wpAnyLast P .any ops Q S ts n l a w
 | 0, l, a, w, hc, hz, hs, h => h
 | n + 1, l, a, w, hc, hz, hs, h => ⟨h.1, fun i hi => wpOp_mono (fun a' w' h' => by
   obtain ⟨h1, h2⟩ := h'
   have hun : l.getD i true = false := (mem_ready.1 hi).1
   have hS' : i ∉ ts → S' w := fun hit => by
    rcases hs with h | h
    ·exact h
    ·exact absurd (h i hun) hit
   refine ⟨fun hit _ => hSS _ (h1 hit (hS' hit)), last_narrow hSS hT n _ a' w' (hc.set hi) (by simpa using hz) ?_ h2⟩
   by_cases hit : i ∈ ts
   ·refine .inr (fun j hj => ?_)
    rcases Classical.em (j ∈ ts) with hjt | hjt
    ·exact hjt
    ·exfalso
     have hj2 : l.getD j true = false := getD_set_false hj
     have hjl : j < ops.size := by
      rw [← hz]
      rcases Nat.lt_or_ge j l.size with h | h
      ·exact h
      ·simp [Array.getD, Nat.not_lt.2 h] at hj2
     exact Region.reach_not_ready hc (hT j hjl hjt i hit) hj2 hi
   ·exact .inl (h1 hit (hS' hit))) (h.2 i hi)⟩
where
 getD_set_false {l : Array Bool} {i j : Nat} (hj : (l.setIfInBounds i true).getD j true = false) : l.getD j true = false := by
  rcases Nat.lt_or_ge j l.size with h | h
  ·by_cases e : i = j
   ·subst e
    simp [Array.getD, h] at hj
   ·simpa [Array.getD, h, Array.getElem_setIfInBounds, e] using hj
  ·simp [Array.getD, Nat.not_lt.2 h] at hj
inductive MO where
 | fin
 | q (i : Nat) (r : MO)
 | p (i : Nat) (r : MO)
 | b (i : Nat) (r : MO)
 | br (i j : Nat) (r s : MO)
 | br3 (i j k : Nat) (r s t : MO)
 | br4 (i j k m : Nat) (r s t u : MO)
 | n (r : MO)
def MO.len (n : Nat) : MO → Nat
 | .fin => n
 | .q _ r => r.len n + 1
 | .p _ r => r.len n + 1
 | .b _ r => r.len n + 1
 | .br _ _ r s => max (r.len n) (s.len n) + 1
 | .br3 _ _ _ r s t => max (r.len n) (max (s.len n) (t.len n)) + 1
 | .br4 _ _ _ _ r s t u => max (max (r.len n) (s.len n)) (max (t.len n) (u.len n)) + 1
 | .n r => r.len n
def tailB (ops : Array Oper) : Array Bool → List Nat → Bool
 | l, [] => Region.ready .any ops l == []
 | l, d :: r => Region.ready .any ops l == [d] && tailB ops (l.setIfInBounds d true) r
def mixTB (ops : Array Oper) (ts : List Nat) : Array Bool → MO → Bool
 | l, .fin => tailB ops l ts
 | l, .q i r => (ops[i]?.map (fun o => reads2B o.op && o.dst.isSome)).getD false && Region.noSelect ops && Region.free .any ops l i && (Region.ready .any ops l).contains i && Region.closedB .any ops l && Region.lastB .any ops l ts i && mixTB ops ts (l.setIfInBounds i true) r
 | l, .p i r => (ops[i]?.map (fun o => reads2B o.op && o.dst.isSome)).getD false && Region.noSelect ops && Region.free .any ops l i && (Region.ready .any ops l).contains i && mixTB ops ts (l.setIfInBounds i true) r
 | l, .b i r => (Region.ready .any ops l == [i]) && !(ts.contains i) && mixTB ops ts (l.setIfInBounds i true) r
 | l, .br i j r s => (Region.ready .any ops l == [i, j]) && !(ts.contains i) && !(ts.contains j) && mixTB ops ts (l.setIfInBounds i true) r && mixTB ops ts (l.setIfInBounds j true) s
 | l, .br3 i j k r s t => (Region.ready .any ops l == [i, j, k]) && !(ts.contains i) && !(ts.contains j) && !(ts.contains k) && mixTB ops ts (l.setIfInBounds i true) r && mixTB ops ts (l.setIfInBounds j true) s && mixTB ops ts (l.setIfInBounds k true) t
 | l, .br4 i j k m r s t u => (Region.ready .any ops l == [i, j, k, m]) && !(ts.contains i) && !(ts.contains j) && !(ts.contains k) && !(ts.contains m) && mixTB ops ts (l.setIfInBounds i true) r && mixTB ops ts (l.setIfInBounds j true) s && mixTB ops ts (l.setIfInBounds k true) t && mixTB ops ts (l.setIfInBounds m true) u
 | l, .n r => Region.closedB .any ops l && (List.range ops.size).all (fun i => ts.contains i || ts.all (fun d => Region.reachB .any ops i ops.size d)) && l.size == ops.size && mixTB ops ts l r
def wpTail (P : Program) (ops : Array Oper) (Q : Exit → Act → World → Prop) : List Nat → Act → World → Prop
 | [], a, w => Q .normal a w
 | d :: r, a, w => ∀ o, ops[d]? = some o → if Region.wanted o (yielded ops a.tmps) then Oper.wp P o a w (fun a' w' => wpTail P ops Q r a' w') Q else wpTail P ops Q r (a.put o.dst undef) w
def stepM (P : Program) (ops : Array Oper) (C : World → Prop) (Q : Exit → Act → World → Prop) (i : Nat) (K : Act → World → Prop) (a : Act) (w : World) : Prop :=
 ∀ o, ops[i]? = some o → if Region.wanted o (yielded ops a.tmps) then Oper.wp P o a w (fun a' w' => C w' ∧ K a' w') Q else K (a.put o.dst undef) w
def wpMixT (P : Program) (ops : Array Oper) (C : World → Prop) (Q : Exit → Act → World → Prop) (ts : List Nat) : MO → Act → World → Prop
 | .fin, a, w => wpTail P ops Q ts a w
 | .q i r, a, w => ∀ o, ops[i]? = some o → wpQuiet P ops C (fun a' => wpMixT P ops C Q ts r a' w) [o] a
 | .p i r, a, w => ∀ o, ops[i]? = some o → wpQuiet P ops (fun _ => True) (fun a' => wpMixT P ops C Q ts r a' w) [o] a
 | .b i r, a, w => stepM P ops C Q i (wpMixT P ops C Q ts r) a w
 | .br i j r s, a, w => stepM P ops C Q i (wpMixT P ops C Q ts r) a w ∧ stepM P ops C Q j (wpMixT P ops C Q ts s) a w
 | .br3 i j k r s t, a, w => stepM P ops C Q i (wpMixT P ops C Q ts r) a w ∧ stepM P ops C Q j (wpMixT P ops C Q ts s) a w ∧ stepM P ops C Q k (wpMixT P ops C Q ts t) a w
 | .br4 i j k m r s t u, a, w => stepM P ops C Q i (wpMixT P ops C Q ts r) a w ∧ stepM P ops C Q j (wpMixT P ops C Q ts s) a w ∧ stepM P ops C Q k (wpMixT P ops C Q ts t) a w ∧ stepM P ops C Q m (wpMixT P ops C Q ts u) a w
 | .n r, a, w => ∃ C' : World → Prop, C' w ∧ (∀ w', C' w' → C w') ∧ wpMixT P ops C' Q ts r a w
theorem tail_last {ts : List Nat} : ∀ (r : List Nat) (l : Array Bool) (a : Act) (w : World) (n : Nat), r.length ≤ n → (∀ d ∈ r, d ∈ ts) → tailB ops l r = true → wpTail P ops Q r a w → wpAnyLast P .any ops Q C ts n l a w
 | [], l, a, w, 0, hn, hs, hc, h => by
  simp only [tailB, beq_iff_eq] at hc
  exact ⟨hc, h⟩
 | [], l, a, w, n + 1, hn, hs, hc, h => by
  simp only [tailB, beq_iff_eq] at hc
  exact ⟨fun _ => h, fun i hi => by rw [hc] at hi; cases hi⟩
 | d :: r, l, a, w, 0, hn, hs, hc, h => by simp at hn
 | d :: r, l, a, w, n + 1, hn, hs, hc, h => by
  simp only [tailB, Bool.and_eq_true, beq_iff_eq] at hc
  obtain ⟨h1, h2⟩ := hc
  cases ho : ops[d]? with
  | none =>
   have : d ∈ Region.ready .any ops l := by rw [h1]; simp
   obtain ⟨_, oj, hoj, _⟩ := mem_ready.1 this
   rw [ho] at hoj; cases hoj
  | some o =>
   refine wpAnyLast_ready h1 (by simp) (AllReadyL.cons_last ho (hs d (by simp)) (fun K hK => ?_) AllReadyL.nil)
   have h7 := h o ho
   have hs' : ∀ x ∈ r, x ∈ ts := fun x hx => hs x (by simp [hx])
   split at h7
   ·rename_i hw2
    rw [if_pos hw2]
    refine Oper.wp_mono ?_ h7
    intro a' w' h8
    exact hK _ _ (tail_last r _ _ _ n (by simpa using hn) hs' h2 h8)
   ·rename_i hw2
    rw [if_neg hw2]
    exact hK _ _ (tail_last r _ _ _ n (by simpa using hn) hs' h2 h7)
theorem one_of {ts : List Nat} {i n : Nat} {l : Array Bool} {a : Act} {w : World} {K0 : Act → World → Prop} {K : Act → World → Prop} {o : Oper} (ho : ops[i]? = some o) (hw : C w) (h : stepM P ops C Q i K0 a w)
  (hK : Shut (∀ a w, C w → (C w → wpAnyLast P .any ops Q C ts n (l.setIfInBounds i true) a w) → K a w)) (hm : ∀ a' w', C w' → K0 a' w' → wpAnyLast P .any ops Q C ts n (l.setIfInBounds i true) a' w') :
  if Region.wanted o (yielded ops a.tmps) = true then Oper.wp P o a w K Q else K (a.put o.dst undef) w := by
 have h7 := h o ho
 split at h7
 ·rename_i hw2
  rw [if_pos hw2]
  refine Oper.wp_mono ?_ h7
  intro a' w' h8
  exact hK _ _ h8.1 (fun _ => hm _ _ h8.1 h8.2)
 ·rename_i hw2
  rw [if_neg hw2]
  exact hK _ _ hw (fun _ => hm _ _ hw h7)
theorem some_of {l : Array Bool} {i : Nat} {rs : List Nat} (h1 : Region.ready .any ops l = rs) (hi : i ∈ rs) : ∃ o, ops[i]? = some o := by
 rw [← h1] at hi
 obtain ⟨_, oj, hoj, _⟩ := mem_ready.1 hi
 exact ⟨oj, hoj⟩
theorem mixT_last {C : World → Prop} {ts : List Nat} (hQ : ∀ c a n v w, Q (.panic c) (a.put (some n) v) w → Q (.panic c) a w) : ∀ (r : MO) (l : Array Bool) (a : Act) (w : World) (n : Nat), r.len ts.length ≤ n → mixTB ops ts l r = true → C w → wpMixT P ops C Q ts r a w → wpAnyLast P .any ops Q C ts n l a w
 | .fin, l, a, w, n, hn, hc, hw, h => tail_last ts l a w n hn (fun _ h => h) hc h
 | .q i r, l, a, w, 0, hn, hc, hw, h => by simp [MO.len] at hn
 | .p i r, l, a, w, 0, hn, hc, hw, h => by simp [MO.len] at hn
 | .b i r, l, a, w, 0, hn, hc, hw, h => by simp [MO.len] at hn
 | .br i j r s, l, a, w, 0, hn, hc, hw, h => by simp [MO.len] at hn
 | .br3 i j k r s t, l, a, w, 0, hn, hc, hw, h => by simp [MO.len] at hn
 | .br4 i j k m r s t u, l, a, w, 0, hn, hc, hw, h => by simp [MO.len] at hn
 | .n r, l, a, w, n, hn, hc, hw, h => by
  simp only [mixTB, Bool.and_eq_true, beq_iff_eq] at hc
  obtain ⟨⟨⟨h1, h2⟩, h3⟩, h4⟩ := hc
  obtain ⟨C', hC, hCC, h⟩ := h
  refine last_narrow hCC (fun i hi hit d hd => ?_) n l a w (Region.closedB_spec h1) h3 (.inl hC) (mixT_last hQ r l a w n hn h4 hC h)
  have h5 := List.all_eq_true.1 h2 i (List.mem_range.2 hi)
  rw [Bool.or_eq_true] at h5
  rcases h5 with h5 | h5
  ·exact absurd (by simpa using h5) hit
  ·exact List.all_eq_true.1 h5 d hd
 | .q i r, l, a, w, n + 1, hn, hc, hw, h => by
  simp only [mixTB, Bool.and_eq_true] at hc
  obtain ⟨⟨⟨⟨⟨⟨h0, h1⟩, h2⟩, h3⟩, h4⟩, h5⟩, h6⟩ := hc
  simp only [MO.len] at hn
  cases ho : ops[i]? with
  | none => rw [ho] at h0; cases h0
  | some o =>
   rw [ho] at h0
   simp only [Option.map_some, Option.getD_some, Bool.and_eq_true] at h0
   obtain ⟨hr, hdst⟩ := h0
   obtain ⟨nd, hnd⟩ := Option.isSome_iff_exists.1 hdst
   have hQ' : ∀ v c a w, Q (.panic c) (a.put o.dst v) w → Q (.panic c) a w := fun v c a w h => hQ c a nd v w (by rw [hnd] at h; exact h)
   have h7 := h o ho
   simp only [wpQuiet] at h7
   split at h7
   ·rename_i hw2
    obtain ⟨v, hv, hk⟩ := h7
    refine wpAnyLast_take ho h1 h2 h3 h4 h5 (hQ' _) (.inl ⟨hw2, fun w' hw' => ?_⟩) hw (mixT_last hQ r _ _ _ n (by omega) h6 hw hk)
    have h8 := hv w' hw'
    unfold Oper.quietAt at h8
    cases hrun : (execOp a.eval o).run P w' with
    | ok n w2 =>
     obtain ⟨u, rfl⟩ := reads2_value hr hrun
     rw [hrun] at h8
     obtain ⟨e1, e2⟩ := h8
     rw [e1, e2]
    | halt x w2 => rw [hrun] at h8; exact h8.elim
   ·rename_i hw2
    exact wpAnyLast_take ho h1 h2 h3 h4 h5 (hQ' _) (.inr ⟨by simpa using hw2, rfl⟩) hw (mixT_last hQ r _ _ _ n (by omega) h6 hw h7)
 | .p i r, l, a, w, n + 1, hn, hc, hw, h => by
  simp only [mixTB, Bool.and_eq_true] at hc
  obtain ⟨⟨⟨⟨h0, h1⟩, h2⟩, h3⟩, h6⟩ := hc
  simp only [MO.len] at hn
  cases ho : ops[i]? with
  | none => rw [ho] at h0; cases h0
  | some o =>
   rw [ho] at h0
   simp only [Option.map_some, Option.getD_some, Bool.and_eq_true] at h0
   obtain ⟨hr, hdst⟩ := h0
   obtain ⟨nd, hnd⟩ := Option.isSome_iff_exists.1 hdst
   have hQ' : ∀ v c a w, Q (.panic c) (a.put o.dst v) w → Q (.panic c) a w := fun v c a w h => hQ c a nd v w (by rw [hnd] at h; exact h)
   have h7 := h o ho
   simp only [wpQuiet] at h7
   split at h7
   ·rename_i hw2
    obtain ⟨v, hv, hk⟩ := h7
    refine wpAnyLast_any ho (Region.noSelect_spec h1) (hQ' _) n l a w (Region.free_spec ho h2) (by simpa using h3) (.inl ⟨hw2, fun w' => ?_⟩) (mixT_last hQ r _ _ _ n (by omega) h6 hw hk)
    have h8 := hv w' trivial
    unfold Oper.quietAt at h8
    cases hrun : (execOp a.eval o).run P w' with
    | ok nx w2 =>
     obtain ⟨u, rfl⟩ := reads2_value hr hrun
     rw [hrun] at h8
     obtain ⟨e1, e2⟩ := h8
     rw [e1, e2]
    | halt x w2 => rw [hrun] at h8; exact h8.elim
   ·rename_i hw2
    exact wpAnyLast_any ho (Region.noSelect_spec h1) (hQ' _) n l a w (Region.free_spec ho h2) (by simpa using h3) (.inr ⟨by simpa using hw2, rfl⟩) (mixT_last hQ r _ _ _ n (by omega) h6 hw h7)
 | .b i r, l, a, w, n + 1, hn, hc, hw, h => by
  simp only [mixTB, Bool.and_eq_true, beq_iff_eq, Bool.not_eq_true'] at hc
  obtain ⟨⟨h1, h2⟩, h3⟩ := hc
  simp only [MO.len] at hn
  obtain ⟨o, ho⟩ := some_of h1 (i := i) (by simp)
  exact wpAnyLast_ready h1 (by simp) (AllReadyL.cons ho (by simpa using h2) (fun K hK => one_of ho hw h hK (fun a' w' hw' h' => mixT_last hQ r _ _ _ n (by omega) h3 hw' h')) AllReadyL.nil)
 | .br i j r s, l, a, w, n + 1, hn, hc, hw, h => by
  simp only [mixTB, Bool.and_eq_true, beq_iff_eq, Bool.not_eq_true'] at hc
  obtain ⟨⟨⟨⟨h1, h2⟩, h2j⟩, h3⟩, h3j⟩ := hc
  simp only [MO.len] at hn
  obtain ⟨o, ho⟩ := some_of h1 (i := i) (by simp)
  obtain ⟨oj, hoj⟩ := some_of h1 (i := j) (by simp)
  exact wpAnyLast_ready h1 (by simp) (AllReadyL.cons ho (by simpa using h2) (fun K hK => one_of ho hw h.1 hK (fun a' w' hw' h' => mixT_last hQ r _ _ _ n (by omega) h3 hw' h'))
   (AllReadyL.cons hoj (by simpa using h2j) (fun K hK => one_of hoj hw h.2 hK (fun a' w' hw' h' => mixT_last hQ s _ _ _ n (by omega) h3j hw' h')) AllReadyL.nil))
 | .br3 i j k r s t, l, a, w, n + 1, hn, hc, hw, h => by
  simp only [mixTB, Bool.and_eq_true, beq_iff_eq, Bool.not_eq_true'] at hc
  obtain ⟨⟨⟨⟨⟨⟨h1, h2⟩, h2j⟩, h2k⟩, h3⟩, h3j⟩, h3k⟩ := hc
  simp only [MO.len] at hn
  obtain ⟨o, ho⟩ := some_of h1 (i := i) (by simp)
  obtain ⟨oj, hoj⟩ := some_of h1 (i := j) (by simp)
  obtain ⟨ok, hok⟩ := some_of h1 (i := k) (by simp)
  exact wpAnyLast_ready h1 (by simp) (AllReadyL.cons ho (by simpa using h2) (fun K hK => one_of ho hw h.1 hK (fun a' w' hw' h' => mixT_last hQ r _ _ _ n (by omega) h3 hw' h'))
   (AllReadyL.cons hoj (by simpa using h2j) (fun K hK => one_of hoj hw h.2.1 hK (fun a' w' hw' h' => mixT_last hQ s _ _ _ n (by omega) h3j hw' h'))
    (AllReadyL.cons hok (by simpa using h2k) (fun K hK => one_of hok hw h.2.2 hK (fun a' w' hw' h' => mixT_last hQ t _ _ _ n (by omega) h3k hw' h')) AllReadyL.nil)))
 | .br4 i j k m r s t u, l, a, w, n + 1, hn, hc, hw, h => by
  simp only [mixTB, Bool.and_eq_true, beq_iff_eq, Bool.not_eq_true'] at hc
  obtain ⟨⟨⟨⟨⟨⟨⟨⟨h1, h2⟩, h2j⟩, h2k⟩, h2m⟩, h3⟩, h3j⟩, h3k⟩, h3m⟩ := hc
  simp only [MO.len] at hn
  obtain ⟨o, ho⟩ := some_of h1 (i := i) (by simp)
  obtain ⟨oj, hoj⟩ := some_of h1 (i := j) (by simp)
  obtain ⟨ok, hok⟩ := some_of h1 (i := k) (by simp)
  obtain ⟨om, hom⟩ := some_of h1 (i := m) (by simp)
  exact wpAnyLast_ready h1 (by simp) (AllReadyL.cons ho (by simpa using h2) (fun K hK => one_of ho hw h.1 hK (fun a' w' hw' h' => mixT_last hQ r _ _ _ n (by omega) h3 hw' h'))
   (AllReadyL.cons hoj (by simpa using h2j) (fun K hK => one_of hoj hw h.2.1 hK (fun a' w' hw' h' => mixT_last hQ s _ _ _ n (by omega) h3j hw' h'))
    (AllReadyL.cons hok (by simpa using h2k) (fun K hK => one_of hok hw h.2.2.1 hK (fun a' w' hw' h' => mixT_last hQ t _ _ _ n (by omega) h3k hw' h'))
     (AllReadyL.cons hom (by simpa using h2m) (fun K hK => one_of hom hw h.2.2.2 hK (fun a' w' hw' h' => mixT_last hQ u _ _ _ n (by omega) h3m hw' h')) AllReadyL.nil))))
theorem mixT_q {ts : List Nat} {i : Nat} {o : Oper} {r : MO} {a : Act} {w : World} (hi : ops.toList[i]? = some o) (h : wpQuiet P ops C (fun a' => wpMixT P ops C Q ts r a' w) [o] a) : wpMixT P ops C Q ts (.q i r) a w := by
 rw [Array.getElem?_toList] at hi
 intro o' ho
 rw [hi] at ho; injection ho with ho; subst ho
 exact h
theorem mixT_p {ts : List Nat} {i : Nat} {o : Oper} {r : MO} {a : Act} {w : World} (hi : ops.toList[i]? = some o) (h : wpQuiet P ops (fun _ => True) (fun a' => wpMixT P ops C Q ts r a' w) [o] a) : wpMixT P ops C Q ts (.p i r) a w := by
 rw [Array.getElem?_toList] at hi
 intro o' ho
 rw [hi] at ho; injection ho with ho; subst ho
 exact h
theorem stepM_of {i : Nat} {o : Oper} {K : Act → World → Prop} {a : Act} {w : World} (hi : ops.toList[i]? = some o) (h : wpList P ops (mixQ (fun a' w' => C w' ∧ K a' w') Q) [o] a w) (hs : Region.wanted o (yielded ops a.tmps) = true) : stepM P ops C Q i K a w := by
 rw [Array.getElem?_toList] at hi
 intro o' ho
 rw [hi] at ho; injection ho with ho; subst ho
 rw [if_pos hs]
 simp only [wpList, hs, if_true] at h
 rcases h with h | h
 ·exact wp_of_mixQ (Oper.wp_mono (fun a' w' h' => h') h)
 ·obtain ⟨a', w', h'⟩ := h.2
  exact h'.elim
theorem mixT_b {ts : List Nat} {i : Nat} {o : Oper} {r : MO} {a : Act} {w : World} (hi : ops.toList[i]? = some o) (h : wpList P ops (mixQ (fun a' w' => C w' ∧ wpMixT P ops C Q ts r a' w') Q) [o] a w) (hs : Region.wanted o (yielded ops a.tmps) = true) : wpMixT P ops C Q ts (.b i r) a w := stepM_of hi h hs
theorem genT {ts : List Nat} {r : MO} {a : Act} {w : World} (h : ∀ W, W = w → wpMixT P ops C Q ts r a W) : wpMixT P ops C Q ts r a w := h w rfl
theorem mixT_n {C C' : World → Prop} {ts : List Nat} {r : MO} {a : Act} {w : World} (hC : C' w) (hCC : ∀ w', C' w' → C w') (h : wpMixT P ops C' Q ts r a w) : wpMixT P ops C Q ts (.n r) a w := ⟨C', hC, hCC, h⟩
theorem mixT_fin {ts : List Nat} {a : Act} {w : World} (h : wpTail P ops Q ts a w) : wpMixT P ops C Q ts .fin a w := h
theorem tail_nil {a : Act} {w : World} (h : Q .normal a w) : wpTail P ops Q [] a w := h
theorem tail_b {i : Nat} {o : Oper} {r : List Nat} {a : Act} {w : World} (hi : ops.toList[i]? = some o) (h : wpList P ops (mixQ (fun a' w' => wpTail P ops Q r a' w') Q) [o] a w) (hs : Region.wanted o (yielded ops a.tmps) = true) : wpTail P ops Q (i :: r) a w := by
 rw [Array.getElem?_toList] at hi
 intro o' ho
 rw [hi] at ho; injection ho with ho; subst ho
 rw [if_pos hs]
 simp only [wpList, hs, if_true] at h
 rcases h with h | h
 ·exact wp_of_mixQ (Oper.wp_mono (fun a' w' h' => h') h)
 ·obtain ⟨a', w', h'⟩ := h.2
  exact h'.elim
theorem region_mixT {id : Nat} {a : Act} {w : World} (order : MO) (ts : List Nat) (hm : P.follows .mixedOrders = true) (hc : (mixTB ops ts (Array.replicate ops.size false) order && decide (order.len ts.length ≤ ops.size)) = true)
  (hQ : ∀ c a n v w, Q (.panic c) (a.put (some n) v) w → Q (.panic c) a w) (h : wpMixT P ops (fun w' => ∃ p : Regrown, w' = grow (redrawn w p.d) p.os) Q ts order a w.drew) : (Code.region id ops true).wp P Q a w := by
 simp only [Bool.and_eq_true, decide_eq_true_eq] at hc
 exact wp_region_last_drew (S := cls w) (ds := ts) hm (cls_drew w) (fun hS => mixT_last hQ order _ a w.drew _ hc.2 hc.1 (cls_drew w) h)
def onlyN (R : Act → World → Prop) : Exit → Act → World → Prop
 | .normal, a, w => R a w
 | _, _, _ => False
theorem region_gen {R : Act → World → Prop} {a : Act} {w : World} (h : ∀ W, W = w → R a W) : onlyN R .normal a w := h w rfl
theorem region_to {c : Code} (R : Act → World → Prop) {a : Act} {w : World} (h : c.wp P (onlyN R) a w) (k : ∀ a' w', R a' w' → Q .normal a' w') : c.wp P Q a w :=
 Code.wp_mono (fun e a' w' h' => by
  cases e with
  | normal => exact k a' w' h'
  | _ => exact h'.elim) h
end
/-! The cells of a variable, all at once. -/
theorem blk5 {w : World} {g : Nat} {a b c d e : Value} {t : TypeId} (h : Blk w g #[a, b, c, d, e] t) : w.cell? ⟨g, 0, none⟩ = some a ∧ w.cell? ⟨g, 1, none⟩ = some b ∧ w.cell? ⟨g, 2, none⟩ = some c ∧ w.cell? ⟨g, 3, none⟩ = some d ∧ w.cell? ⟨g, 4, none⟩ = some e ∧ ∀ j, w.frozen? ⟨g, j, none⟩ = false :=
 ⟨h.cell 0 rfl, h.cell 1 rfl, h.cell 2 rfl, h.cell 3 rfl, h.cell 4 rfl, h.frozen⟩
theorem blk7 {w : World} {g : Nat} {a b c d e f i : Value} {t : TypeId} (h : Blk w g #[a, b, c, d, e, f, i] t) : w.cell? ⟨g, 0, none⟩ = some a ∧ w.cell? ⟨g, 1, none⟩ = some b ∧ w.cell? ⟨g, 2, none⟩ = some c ∧ w.cell? ⟨g, 3, none⟩ = some d ∧ w.cell? ⟨g, 4, none⟩ = some e ∧ w.cell? ⟨g, 5, none⟩ = some f ∧ w.cell? ⟨g, 6, none⟩ = some i ∧ ∀ j, w.frozen? ⟨g, j, none⟩ = false :=
 ⟨h.cell 0 rfl, h.cell 1 rfl, h.cell 2 rfl, h.cell 3 rfl, h.cell 4 rfl, h.cell 5 rfl, h.cell 6 rfl, h.frozen⟩
theorem upE {n a : Nat} {w w1 : World} (h : Hd (a ≤ w.heap.size)) (hE : Below n w w1) : Hd (a ≤ w1.heap.size) := ⟨Nat.le_trans h.out hE.size⟩
theorem Hd.dn {w w1 : World} {g : Nat} {c : Array Value} {t : TypeId} (h : Hd (Blk w g c t)) (hb : Below w.heap.size w w1) : Hd (Blk w1 g c t) := ⟨h.out.below hb⟩
theorem Hd.ob {α : Type} {d : Ty α} {w w1 : World} {S : Nat → Prop} {x : α} {cs : List Value} (h : Hd (d.O w S x cs)) (hb : Below w.heap.size w w1) : Hd (d.O w1 S x cs) := ⟨Ty.O_below h.out hb⟩
theorem Hd.th {w w1 w2 : World} (h : Hd (Below w.heap.size w w1)) (hb : Below w1.heap.size w1 w2) : Hd (Below w.heap.size w w2) := ⟨below_then h.out hb⟩
theorem reg5 {w : World} {a0 a1 a2 a3 a4 : Addr} {v0 v1 v2 v3 v4 : Value} (h0 : w.cell? a0 = some v0) (h1 : w.cell? a1 = some v1) (h2 : w.cell? a2 = some v2) (h3 : w.cell? a3 = some v3) (h4 : w.cell? a4 = some v4) : (∀ (d : Nat) (os : Array Obj), (grow (redrawn w d) os).cell? a0 = some v0) ∧ (∀ (d : Nat) (os : Array Obj), (grow (redrawn w d) os).cell? a1 = some v1) ∧ (∀ (d : Nat) (os : Array Obj), (grow (redrawn w d) os).cell? a2 = some v2) ∧ (∀ (d : Nat) (os : Array Obj), (grow (redrawn w d) os).cell? a3 = some v3) ∧ (∀ (d : Nat) (os : Array Obj), (grow (redrawn w d) os).cell? a4 = some v4) :=
 ⟨cell_regrown h0, cell_regrown h1, cell_regrown h2, cell_regrown h3, cell_regrown h4⟩
theorem reg7 {w : World} {a0 a1 a2 a3 a4 a5 a6 : Addr} {v0 v1 v2 v3 v4 v5 v6 : Value} (h0 : w.cell? a0 = some v0) (h1 : w.cell? a1 = some v1) (h2 : w.cell? a2 = some v2) (h3 : w.cell? a3 = some v3) (h4 : w.cell? a4 = some v4) (h5 : w.cell? a5 = some v5) (h6 : w.cell? a6 = some v6) : (∀ (d : Nat) (os : Array Obj), (grow (redrawn w d) os).cell? a0 = some v0) ∧ (∀ (d : Nat) (os : Array Obj), (grow (redrawn w d) os).cell? a1 = some v1) ∧ (∀ (d : Nat) (os : Array Obj), (grow (redrawn w d) os).cell? a2 = some v2) ∧ (∀ (d : Nat) (os : Array Obj), (grow (redrawn w d) os).cell? a3 = some v3) ∧ (∀ (d : Nat) (os : Array Obj), (grow (redrawn w d) os).cell? a4 = some v4) ∧ (∀ (d : Nat) (os : Array Obj), (grow (redrawn w d) os).cell? a5 = some v5) ∧ (∀ (d : Nat) (os : Array Obj), (grow (redrawn w d) os).cell? a6 = some v6) :=
 ⟨cell_regrown h0, cell_regrown h1, cell_regrown h2, cell_regrown h3, cell_regrown h4, cell_regrown h5, cell_regrown h6⟩
end Go.Proofs.YtegcecnjmimbiaaDoor.X
namespace Go.Proofs.YtegcecnjmimbiaaDoor.X
open Go.RowKit Go.Sort
set_option linter.unusedVariables false
set_option linter.unusedSimpArgs false
open Ty
section
variable {P : Program} {ops : Array Oper} {rest : List Oper} {o : Oper} {a : Act} {Q : Exit → Act → World → Prop}
theorem append_str {W : World} (hgd : o.guard = none) (s x : Operand) (t e : TypeId) (z : Value) (bytes : Nat)
  (ho : o.op = .call { callee := .builtin .append, args := #[s, x], argTypes := #[t, t] })
  (ht : P.underlying t = some (.slice e)) (hinfo : (P.info? e).map (fun i => (i.zero, i.size, i.bytes)) = some (some z, 1, bytes)) (hz : z.cells.size = 1) (hb0 : 0 < bytes)
  {S S' : Nat → Prop} {v : Value} {xs ys : List ByteArray} {A : Option Addr} {c : Nat}
  (hs : a.eval s = v) (hx : a.eval x = .slice A ys.length c) (HR : str.R e W S v xs) (HC : str.C W A ys)
  (hS : ∀ k, S k → S' k) (hnew : ∀ k, W.heap.size ≤ k → S' k) (hbytes : (xs.length + ys.length) * bytes ≤ 140737488355328)
  (h : ∀ v1 w1, str.R e w1 S' v1 (xs ++ ys) → Fr W w1 S → wpList P ops Q rest (a.put o.dst v1) w1) :
  wpList P ops Q (o :: rest) a W := by
 refine append_gen str (S := S) (S' := S') (v := v) (xs := xs) (ys := ys) hgd s x t e z bytes ho ht hinfo hz (Nat.le_refl 1) hb0 (fun i k => False) A ys.length c (ys.map Value.string) hs hx HR rfl (by simp [str]) (fun j u hu => ?_) (fun u hu => ?_) (fun i y hi => ?_)
  (fun i j k h1 h2 => h1.elim) (fun i k hk => hk.elim) hS (fun i k hk => hk.elim) hnew hbytes h
 ·rw [List.getElem?_map] at hu
  obtain ⟨y, hy, rfl⟩ := Option.map_eq_some_iff.1 hu
  obtain ⟨ad, cs, e1, hk, hc⟩ := HC.2 j y hy
  refine ⟨ad, e1, ?_⟩
  have := hc 0 (.string y) (by rw [hk.1]; rfl)
  simpa [str] using this
 ·obtain ⟨y, _, rfl⟩ := List.mem_map.1 hu
  rfl
 ·have hil := (List.getElem?_eq_some_iff.1 hi).1
  obtain ⟨ad, cs, e1, hk, hc⟩ := HC.2 i y hi
  refine ⟨?_, hk.2⟩
  show ((ys.map Value.string).drop (i * 1)).take 1 = [.string y]
  rw [Nat.mul_one, ← List.map_drop, ← List.map_take, List.drop_eq_getElem_cons hil]
  simp [(List.getElem?_eq_some_iff.1 hi).2]
end
theorem below_frS {w w1 w2 : World} {S : Nat → Prop} (h : Below w.heap.size w w1) (hf : Fr w1 w2 S) (hs : ∀ k, S k → w.heap.size ≤ k) : Below w.heap.size w w2 :=
 ((Fr.of_below h S).trans hf).below hs
set_option maxRecDepth 100000 in
theorem impl_copyTexts (A : Option Addr) (c : Nat) (l : List ByteArray) (w : World) (hr : str.C w A l) (hl : l.length ≤ 4194304) :
  Calls Tryd.prog 49 #[.slice A l.length c] w fun e w' => ∃ v, e = .returned v ∧ str.R 9 w' (fun k => w.heap.size ≤ k) v l ∧ Below w.heap.size w w' := by
 have HC := Hd.mk hr; clear hr
 have HR := Hd.mk (R_empty str 9 w)
 go_enter Tryd.func49, Tryd.ntmps49
 go_wp2_with (at_builtin; refine append_str rfl _ _ 38 9 (.string ByteArray.empty) 16 rfl Tryd.underlying38 info_str rfl (by decide) (S' := fun k => w.heap.size ≤ k) rfl rfl HR.out (C_below HC.out (below_alloc (Below.refl _ _) _)) (fun _ h => h) (fun k h => by simp at h; omega) (by simp; omega) (fun v1 w1 hv hf => ?_))
 go_wp2_with fail
 go_ret
 exact ⟨_, rfl, hv, ((Fr.of_below (below_alloc (Below.refl _ _) _) _).then_ hf (fun k h _ => h)).below (fun k h => h)⟩
def CopyJ (m : Nat) : Prop := ∀ (x : J) (cs : List Value) (w : World), (tJ m).K w x cs → bulkJ m x ≤ 4194304 →
 Calls Tryd.prog 25 #[.agg cs.toArray] w fun e w' => ∃ cs', e = .returned (.agg cs'.toArray) ∧ (tJ m).O w' (fun k => w.heap.size ≤ k) x cs' ∧ Below w.heap.size w w'
set_option maxHeartbeats 4000000 in
set_option maxRecDepth 100000 in
theorem impl_copyJson_of {m : Nat} (ih : CopyJ m) : CopyJ (m + 1) := by
 intro x cs w hk hl
 obtain ⟨A1, c1, A2, c2, rfl, hs, ⟨hc1, hr1⟩, hc2, hr2⟩ := tJ_K.1 hk
 have hm1 := hr1.1
 have HR1 := Hd.mk hr1; clear hr1
 have HR2 := Hd.mk hr2; clear hr2 hk
 replace hl : x.s.size + bulkJS m x.list + bulkStringS x.names ≤ 4194304 := hl
 have hlN : x.names.length ≤ 4194304 := by simp only [bulkStringS] at hl; omega
 have hlL : x.list.length ≤ 4194304 := by simp only [bulkJS] at hl; omega
 have HLL := Hd.mk (show bulkJS m x.list ≤ 4194304 by omega); clear hl
 have hB := Hd.mk (Below.refl w.heap.size w)
 go_enter Tryd.func25, Tryd.ntmps25
 go_wp2_with fail
 apply wp_gen; intro W1 hW
 have hz_ : w.heap.size + 2 ≤ W1.heap.size := by rw [hW]; simp
 have hE : Below w.heap.size w W1 := by rw [hW]; (repeat (first | with_reducible refine below_alloc ?_ _ | with_reducible refine below_drew ?_)); exact Below.refl _ _
 have hB := hB.th hE
 have b0 := Hd.mk (show Blk W1 (w.heap.size) #[.int .i64 x.kind, .int .i64 x.n, .string x.s, .slice A1 x.list.length c1, .slice A2 x.names.length c2] 43 by rw [hW]; first | exact ((Blk.new _ _ _).alloc _) | (simpa using ((Blk.new _ _ _).alloc _)))
 have b1 := Hd.mk (show Blk W1 (w.heap.size + 1) #[.int .i64 0, .int .i64 0, .string ⟨#[]⟩, .slice none 0 0, .slice none 0 0] 43 by rw [hW]; first | exact (Blk.new1 _ _ _ _) | (simpa using (Blk.new1 _ _ _ _)))
 clear hW hE
 have z1 := Hd.mk hz_; clear hz_
 obtain ⟨RR, hRR⟩ : ∃ RR : Act → World → Prop, RR = (fun a w' => ∃ (p : Nat) (SN : Nat → Prop) (D : Option Addr) (d : Nat) (u6 u7 u8 u9 u10 u11 u12 u13 u14 u15 : Value), a = ⟨#[.agg #[.int .i64 x.kind, .int .i64 x.n, .string x.s, .slice A1 x.list.length c1, .slice A2 x.names.length c2], .pointer (some ⟨w.heap.size, 0, none⟩), .pointer (some ⟨w.heap.size + 1, 0, none⟩), .pointer (some ⟨p, 0, none⟩), undef, undef, u6, u7, u8, u9, u10, u11, u12, u13, u14, u15, undef, undef, undef, undef, undef, undef, undef, undef, undef, undef, undef, undef, undef, undef, undef, undef], []⟩ ∧ Hd (Blk w' p #[.int .i64 x.kind, .int .i64 x.n, .string x.s, .slice none 0 0, .slice D x.names.length d] 43) ∧ Hd (Blk w' w.heap.size #[.int .i64 x.kind, .int .i64 x.n, .string x.s, .slice A1 x.list.length c1, .slice A2 x.names.length c2] 43) ∧ Hd (Blk w' (w.heap.size + 1) #[.int .i64 0, .int .i64 0, .string ⟨#[]⟩, .slice none 0 0, .slice none 0 0] 43) ∧ Hd (w.heap.size + 2 ≤ p) ∧ Hd (∀ k, SN k → w.heap.size + 2 ≤ k ∧ k < w'.heap.size ∧ k ≠ p) ∧ Hd (str.R 9 w' SN (.slice D x.names.length d) x.names) ∧ Hd (Below w.heap.size w w')) := ⟨_, rfl⟩
 have HRR := Hd.mk hRR; clear hRR
 refine region_to RR ?_ ?_
 case refine_1 =>
  obtain ⟨v00, v01, v02, v03, v04, v0z⟩ := blk5 b0.out
  obtain ⟨v10, v11, v12, v13, v14, v1z⟩ := blk5 b1.out
  obtain ⟨rv00, rv01, rv02, rv03, rv04⟩ := reg5 v00 v01 v02 v03 v04
  obtain ⟨rv10, rv11, rv12, rv13, rv14⟩ := reg5 v10 v11 v12 v13 v14
  refine region_mixT (.q 0 (.q 1 (.q 2 (.q 3 (.q 4 (.q 5 (.q 6 (.q 7 (.br 8 10 (.q 9 (.b 10 .fin)) (.b 8 (.q 9 .fin))))))))))) [11] (by kernel_rfl) (by kernel_rfl) (fun _ _ _ _ _ h => h) ?_
  refine genT ?_
  intro W2 hW
  have hS := Hd.mk (show Below W1.heap.size W1 W2 by rw [hW]; exact below_drew (Below.refl _ _))
  have hz_ : W1.heap.size ≤ W2.heap.size := by rw [hW]; simp
  have hE : Below W1.heap.size W1 W2 := by rw [hW]; (repeat (first | with_reducible refine below_alloc ?_ _ | with_reducible refine below_drew ?_)); exact Below.refl _ _
  have hB := hB.th hE
  have b0 := b0.dn hE
  have b1 := b1.dn hE
  clear hW hE
  have z2 := Hd.mk hz_; clear hz_
  iterate 8 (refine mixT_q rfl ?_; go_big_quiet_want; go_big_quiet_op; go_big_quiet_on; refine wpQuiet_nil ?_)
  refine ⟨?_, ?_⟩
  ·refine stepM_of rfl ?_ (by rfl)
   go_wp2_with fail
   apply calls_gen; intro W3 hW
   have hz_ : W2.heap.size ≤ W3.heap.size := by rw [hW]; simp
   have hE : Below W2.heap.size W2 W3 := by rw [hW]; (repeat (first | with_reducible refine below_alloc ?_ _ | with_reducible refine below_drew ?_)); exact Below.refl _ _
   have hB := hB.th hE
   replace hS := Hd.mk (below_then hS.out hE)
   have b0 := b0.dn hE
   have b1 := b1.dn hE
   clear hW hE
   have z3 := Hd.mk hz_; clear hz_
   refine (impl_copyTexts _ _ x.names _ (C_below HR2.out hB.out) hlN).mono ?_
   rintro e w4 ⟨v1, rfl, hO, hX⟩
   have b0 := b0.dn hX
   have b1 := b1.dn hX
   have hB := hB.th hX
   replace hS := Hd.mk (below_then hS.out hX)
   have hz_ := hX.size
   clear hX
   have z4 := Hd.mk hz_; clear hz_
   obtain ⟨D1, d1, rfl, _, _⟩ := R_C hO
   replace hO := Hd.mk (show str.R 9 w4 (rng W3.heap.size w4.heap.size) _ x.names from R_bound hO)
   go_wp2_with fail
   refine ⟨cls_below hS.out, ?_⟩
   refine mixT_q rfl ?_
   go_big_quiet_want; go_big_quiet_op; go_big_quiet_on; refine wpQuiet_nil ?_
   refine mixT_b rfl ?_ (by rfl)
   go_wp2_with fail
   refine ⟨cls_below (below_alloc hS.out _), ?_⟩
   refine genT ?_; intro W5 hW
   have hz_ : w4.heap.size + 1 ≤ W5.heap.size := by rw [hW]; simp
   have hE : Below w4.heap.size w4 W5 := by rw [hW]; (repeat (first | with_reducible refine below_alloc ?_ _ | with_reducible refine below_drew ?_)); exact Below.refl _ _
   have hB := hB.th hE
   replace hS := Hd.mk (below_then hS.out hE)
   have b0 := b0.dn hE
   have b1 := b1.dn hE
   have b2 := Hd.mk (show Blk W5 (w4.heap.size) #[.int .i64 0, .int .i64 0, .string ⟨#[]⟩, .slice none 0 0, .slice none 0 0] 43 by rw [hW]; first | exact (Blk.new _ _ _) | (simpa using (Blk.new _ _ _)))
   have hO := Hd.mk (R_below hO.out hE)
   clear hW hE
   have z5 := Hd.mk hz_; clear hz_
   refine mixT_fin ?_
   clear hS
   clear rv00 rv01 rv02 rv03 rv04 rv10 rv11 rv12 rv13 rv14
   clear v00 v01 v02 v03 v04 v0z v10 v11 v12 v13 v14 v1z
   obtain ⟨v00, v01, v02, v03, v04, v0z⟩ := blk5 b0.out
   obtain ⟨v10, v11, v12, v13, v14, v1z⟩ := blk5 b1.out
   obtain ⟨v20, v21, v22, v23, v24, v2z⟩ := blk5 b2.out
   refine tail_b rfl ?_ (by rfl)
   go_wp2_with fail
   refine mixQ_n ?_
   refine tail_nil ?_
   refine region_gen ?_; intro W hW
   clear v00 v01 v02 v03 v04 v0z v10 v11 v12 v13 v14 v1z v20 v21 v22 v23 v24 v2z
   have hz_ : W5.heap.size ≤ W.heap.size := by rw [hW]; simp
   have eF : Fr W5 W (fun k => k = w4.heap.size ∨ W5.heap.size ≤ k) := by rw [hW]; (repeat (first | with_reducible refine Fr.setCell ?_ _ (fun _ => by simp <;> omega) _ | with_reducible refine Fr.alloc ?_ _ | with_reducible refine Fr.drew ?_)); exact Fr.refl _ _
   have z1_ := z1.out; have z2_ := z2.out; have z3_ := z3.out; have z4_ := z4.out; have z5_ := z5.out
   have hB := Hd.mk (((Fr.of_below hB.out (fun k => k = w4.heap.size ∨ W5.heap.size ≤ k)).then_ eF (fun k hk _ => hk)).below (fun k hk => by have := hB.out.size; omega))
   have b0 := Hd.mk (b0.out.fr eF (fun h => by have hlt_ := b0.out.lt; (try simp only at h); omega))
   have b1 := Hd.mk (b1.out.fr eF (fun h => by have hlt_ := b1.out.lt; (try simp only at h); omega))
   have b2 := Hd.mk (show Blk W (w4.heap.size) #[.int .i64 x.kind, .int .i64 x.n, .string x.s, .slice none 0 0, .slice D1 x.names.length d1] 43 by rw [hW]; exact (Blk.all b2.out [Value.int IntKind.i64 x.kind, .int .i64 x.n, .string x.s, .slice none 0 0, .slice D1 x.names.length d1] rfl))
   have hO := Hd.mk (R_fr hO.out eF (fun k hk hl h => by skip; (try simp only [rng] at hk); (try simp only at hk); (try simp only at h); omega))
   clear hW eF
   have z6 := Hd.mk hz_; clear hz_
   have hBs := hB.out.size
   have z1_ := z1.out; have z2_ := z2.out; have z3_ := z3.out; have z4_ := z4.out; have z5_ := z5.out; have z6_ := z6.out
   rw [HRR.out]
   exact ⟨w4.heap.size, _, D1, d1, _, _, _, _, _, _, _, _, _, _, rfl, b2, b0, b1, ⟨by omega⟩, ⟨fun k hk => by have h1 := hk.1; have h2 := hk.2; refine ⟨by omega, by omega, by omega⟩⟩, hO, hB⟩
  ·refine stepM_of rfl ?_ (by rfl)
   go_wp2_with fail
   refine ⟨cls_below (below_alloc hS.out _), ?_⟩
   refine genT ?_; intro W3 hW
   have hz_ : W2.heap.size + 1 ≤ W3.heap.size := by rw [hW]; simp
   have hE : Below W2.heap.size W2 W3 := by rw [hW]; (repeat (first | with_reducible refine below_alloc ?_ _ | with_reducible refine below_drew ?_)); exact Below.refl _ _
   have hB := hB.th hE
   replace hS := Hd.mk (below_then hS.out hE)
   have b0 := b0.dn hE
   have b1 := b1.dn hE
   have b2 := Hd.mk (show Blk W3 (W2.heap.size) #[.int .i64 0, .int .i64 0, .string ⟨#[]⟩, .slice none 0 0, .slice none 0 0] 43 by rw [hW]; first | exact (Blk.new _ _ _) | (simpa using (Blk.new _ _ _)))
   clear hW hE
   have z3 := Hd.mk hz_; clear hz_
   refine mixT_b rfl ?_ (by rfl)
   go_wp2_with fail
   apply calls_gen; intro W4 hW
   have hz_ : W3.heap.size ≤ W4.heap.size := by rw [hW]; simp
   have hE : Below W3.heap.size W3 W4 := by rw [hW]; (repeat (first | with_reducible refine below_alloc ?_ _ | with_reducible refine below_drew ?_)); exact Below.refl _ _
   have hB := hB.th hE
   replace hS := Hd.mk (below_then hS.out hE)
   have b0 := b0.dn hE
   have b1 := b1.dn hE
   have b2 := b2.dn hE
   clear hW hE
   have z4 := Hd.mk hz_; clear hz_
   refine (impl_copyTexts _ _ x.names _ (C_below HR2.out hB.out) hlN).mono ?_
   rintro e w5 ⟨v1, rfl, hO, hX⟩
   have b0 := b0.dn hX
   have b1 := b1.dn hX
   have b2 := b2.dn hX
   have hB := hB.th hX
   replace hS := Hd.mk (below_then hS.out hX)
   have hz_ := hX.size
   clear hX
   have z5 := Hd.mk hz_; clear hz_
   obtain ⟨D1, d1, rfl, _, _⟩ := R_C hO
   replace hO := Hd.mk (show str.R 9 w5 (rng W4.heap.size w5.heap.size) _ x.names from R_bound hO)
   go_wp2_with fail
   refine ⟨cls_below hS.out, ?_⟩
   refine mixT_q rfl ?_
   go_big_quiet_want; go_big_quiet_op; go_big_quiet_on; refine wpQuiet_nil ?_
   refine mixT_fin ?_
   clear hS
   clear rv00 rv01 rv02 rv03 rv04 rv10 rv11 rv12 rv13 rv14
   clear v00 v01 v02 v03 v04 v0z v10 v11 v12 v13 v14 v1z
   obtain ⟨v00, v01, v02, v03, v04, v0z⟩ := blk5 b0.out
   obtain ⟨v10, v11, v12, v13, v14, v1z⟩ := blk5 b1.out
   obtain ⟨v20, v21, v22, v23, v24, v2z⟩ := blk5 b2.out
   refine tail_b rfl ?_ (by rfl)
   go_wp2_with fail
   refine mixQ_n ?_
   refine tail_nil ?_
   refine region_gen ?_; intro W hW
   clear v00 v01 v02 v03 v04 v0z v10 v11 v12 v13 v14 v1z v20 v21 v22 v23 v24 v2z
   have hz_ : w5.heap.size ≤ W.heap.size := by rw [hW]; simp
   have eF : Fr w5 W (fun k => k = W2.heap.size ∨ w5.heap.size ≤ k) := by rw [hW]; (repeat (first | with_reducible refine Fr.setCell ?_ _ (fun _ => by simp <;> omega) _ | with_reducible refine Fr.alloc ?_ _ | with_reducible refine Fr.drew ?_)); exact Fr.refl _ _
   have z1_ := z1.out; have z2_ := z2.out; have z3_ := z3.out; have z4_ := z4.out; have z5_ := z5.out
   have hB := Hd.mk (((Fr.of_below hB.out (fun k => k = W2.heap.size ∨ w5.heap.size ≤ k)).then_ eF (fun k hk _ => hk)).below (fun k hk => by have := hB.out.size; omega))
   have b0 := Hd.mk (b0.out.fr eF (fun h => by have hlt_ := b0.out.lt; (try simp only at h); omega))
   have b1 := Hd.mk (b1.out.fr eF (fun h => by have hlt_ := b1.out.lt; (try simp only at h); omega))
   have b2 := Hd.mk (show Blk W (W2.heap.size) #[.int .i64 x.kind, .int .i64 x.n, .string x.s, .slice none 0 0, .slice D1 x.names.length d1] 43 by rw [hW]; exact (Blk.all b2.out [Value.int IntKind.i64 x.kind, .int .i64 x.n, .string x.s, .slice none 0 0, .slice D1 x.names.length d1] rfl))
   have hO := Hd.mk (R_fr hO.out eF (fun k hk hl h => by skip; (try simp only [rng] at hk); (try simp only at hk); (try simp only at h); omega))
   clear hW eF
   have z6 := Hd.mk hz_; clear hz_
   have hBs := hB.out.size
   have z1_ := z1.out; have z2_ := z2.out; have z3_ := z3.out; have z4_ := z4.out; have z5_ := z5.out; have z6_ := z6.out
   rw [HRR.out]
   exact ⟨W2.heap.size, _, D1, d1, _, _, _, _, _, _, _, _, _, _, rfl, b2, b0, b1, ⟨by omega⟩, ⟨fun k hk => by have h1 := hk.1; have h2 := hk.2; refine ⟨by omega, by omega, by omega⟩⟩, hO, hB⟩
 case refine_2 =>
  rw [HRR.out]
  clear HRR
  rintro a w1 ⟨p, SN, D, d, u6, u7, u8, u9, u10, u11, u12, u13, u14, u15, rfl, bo, b0, b1, hp, hN, hO, hB1⟩
  replace hB := hB1; clear hB1
  have hlt := Hd.mk bo.out.lt
  obtain ⟨fbo_0, fbo_1, fbo_2, fbo_3, fbo_4, fbo_z⟩ := blk5 bo.out
  obtain ⟨v00, v01, v02, v03, v04, v0z⟩ := blk5 b0.out
  obtain ⟨v10, v11, v12, v13, v14, v1z⟩ := blk5 b1.out
  go_wp2_with fail
  clear fbo_0 fbo_1 fbo_2 fbo_3 fbo_4 fbo_z v00 v01 v02 v03 v04 v0z v10 v11 v12 v13 v14 v1z
  go_loopw [19] (fun i wr => ∃ k : Nat, ∃ vL : Value, k ≤ x.list.length ∧ i = .int .i64 k ∧ Hd (Blk wr p #[.int .i64 x.kind, .int .i64 x.n, .string x.s, vL, .slice D x.names.length d] 43) ∧ Hd (Blk wr w.heap.size #[.int .i64 x.kind, .int .i64 x.n, .string x.s, .slice A1 x.list.length c1, .slice A2 x.names.length c2] 43) ∧ Hd (Blk wr (w.heap.size + 1) #[.int .i64 0, .int .i64 0, .string ⟨#[]⟩, .slice none 0 0, .slice none 0 0] 43) ∧ Hd ((tJ m).R 43 wr (fun k => w.heap.size + 2 ≤ k ∧ k ≠ p ∧ ¬ SN k) vL (x.list.take k)) ∧ Hd (str.R 9 wr SN (.slice D x.names.length d) x.names) ∧ Hd (Below w.heap.size w wr) ∧ Hd (w1.heap.size ≤ wr.heap.size)) (fun i _ => x.list.length - (intOf i).toNat)
  case atStart => exact ⟨0, .slice none 0 0, Nat.zero_le _, rfl, bo, b0, b1, ⟨R_nil⟩, hO, hB, ⟨Nat.le_refl _⟩⟩
  case round =>
   clear bo b0 b1 hO hB
   obtain ⟨k, vL, hk, rfl, bo, b0, b1, hL, hO, hB, hsz1⟩ := hrel
   by_cases hlt2 : k < x.list.length
   ·obtain ⟨ad, cs0, rfl, hK0, e0, e1⟩ := C_at HR1.out hB.out k hlt2
    obtain ⟨m, rfl⟩ : ∃ m1 : Nat, m = m1 + 1 := by cases m with | zero => exact hK0.elim | succ m => exact ⟨m, rfl⟩
    obtain ⟨A3, c3, A4, c4, rfl, hs3, ⟨hc3, hr3⟩, hc4, hr4⟩ := tJ_K.1 hK0
    have hbk := Nat.le_trans (bulkL_mem (bulkJ (m + 1)) (List.getElem_mem hlt2)) (Nat.le_trans (Nat.le_add_left _ _) HLL.out)
    obtain ⟨AL, cL, hvL, hcL, _⟩ := R_C hL.out
    have htk : (x.list.take k).length = k := by rw [List.length_take]; omega
    rw [htk] at hvL
    subst hvL
    clear htk
    have x0 : wr.cell? (ad.add (k * 5)) = some (.int .i64 x.list[k].kind) := e0 _ rfl
    have x1 : wr.cell? ⟨(ad.add (k * 5)).block, (ad.add (k * 5)).off + 1, none⟩ = some (.int .i64 x.list[k].n) := e1 0 _ rfl
    have x2 : wr.cell? ⟨(ad.add (k * 5)).block, (ad.add (k * 5)).off + 2, none⟩ = some (.string x.list[k].s) := e1 1 _ rfl
    have x3 : wr.cell? ⟨(ad.add (k * 5)).block, (ad.add (k * 5)).off + 3, none⟩ = some (.slice A3 x.list[k].list.length c3) := e1 2 _ rfl
    have x4 : wr.cell? ⟨(ad.add (k * 5)).block, (ad.add (k * 5)).off + 4, none⟩ = some (.slice A4 x.list[k].names.length c4) := e1 3 _ rfl
    have HK := Hd.mk hK0; clear hK0 e0 e1 hr3 hr4
    have hlt := Hd.mk (show p < wr.heap.size from bo.out.lt)
    have hzp := hp.out
    have hzl := hlt.out
    have hsb := hB.out.size
    obtain ⟨fbo_0, fbo_1, fbo_2, fbo_3, fbo_4, fbo_z⟩ := blk5 bo.out
    obtain ⟨v00, v01, v02, v03, v04, v0z⟩ := blk5 b0.out
    obtain ⟨v10, v11, v12, v13, v14, v1z⟩ := blk5 b1.out
    go_wp2_with fail
    clear fbo_0 fbo_1 fbo_2 fbo_3 fbo_4 fbo_z v00 v01 v02 v03 v04 v0z v10 v11 v12 v13 v14 v1z
    clear x0 x1 x2 x3 x4
    have hBW := Hd.mk (Below.refl wr.heap.size wr)
    apply wp_gen; intro W3 hW
    have hz_ : wr.heap.size + 1 ≤ W3.heap.size := by rw [hW]; simp
    have hE : Below wr.heap.size wr W3 := by rw [hW]; (repeat (first | with_reducible refine below_alloc ?_ _ | with_reducible refine below_drew ?_)); exact Below.refl _ _
    have hB := hB.th hE
    have hBW := Hd.mk (below_then hBW.out hE)
    have bo := bo.dn hE
    have b0 := b0.dn hE
    have b1 := b1.dn hE
    have bp := Hd.mk (show Blk W3 (wr.heap.size) #[.int .i64 x.list[k].kind, .int .i64 x.list[k].n, .string x.list[k].s, .slice A3 x.list[k].list.length c3, .slice A4 x.list[k].names.length c4] 43 by rw [hW]; first | exact (Blk.new _ _ _) | (simpa using (Blk.new _ _ _)))
    clear hW hE
    have z1 := Hd.mk hz_; clear hz_
    obtain ⟨fbo_0, fbo_1, fbo_2, fbo_3, fbo_4, fbo_z⟩ := blk5 bo.out
    obtain ⟨v00, v01, v02, v03, v04, v0z⟩ := blk5 b0.out
    obtain ⟨v10, v11, v12, v13, v14, v1z⟩ := blk5 b1.out
    obtain ⟨fbp_0, fbp_1, fbp_2, fbp_3, fbp_4, fbp_z⟩ := blk5 bp.out
    obtain ⟨rfbo_0, rfbo_1, rfbo_2, rfbo_3, rfbo_4⟩ := reg5 fbo_0 fbo_1 fbo_2 fbo_3 fbo_4
    obtain ⟨rv00, rv01, rv02, rv03, rv04⟩ := reg5 v00 v01 v02 v03 v04
    obtain ⟨rv10, rv11, rv12, rv13, rv14⟩ := reg5 v10 v11 v12 v13 v14
    obtain ⟨rfbp_0, rfbp_1, rfbp_2, rfbp_3, rfbp_4⟩ := reg5 fbp_0 fbp_1 fbp_2 fbp_3 fbp_4
    refine region_mixT (.q 0 (.q 1 (.q 2 (.b 3 (.b 4 .fin))))) [5, 6, 7] (by kernel_rfl) (by kernel_rfl) (fun _ _ _ _ _ h => h) ?_
    refine genT ?_
    intro W4 hW
    have hS := Hd.mk (show Below W3.heap.size W3 W4 by rw [hW]; exact below_drew (Below.refl _ _))
    have hz_ : W3.heap.size ≤ W4.heap.size := by rw [hW]; simp
    have hE : Below W3.heap.size W3 W4 := by rw [hW]; (repeat (first | with_reducible refine below_alloc ?_ _ | with_reducible refine below_drew ?_)); exact Below.refl _ _
    have hB := hB.th hE
    have hBW := Hd.mk (below_then hBW.out hE)
    have bo := bo.dn hE
    have b0 := b0.dn hE
    have b1 := b1.dn hE
    have bp := bp.dn hE
    clear hW hE
    have z2 := Hd.mk hz_; clear hz_
    iterate 3 (refine mixT_q rfl ?_; go_big_quiet_want; go_big_quiet_op; go_big_quiet_on; refine wpQuiet_nil ?_)
    refine mixT_b rfl ?_ (by rfl)
    go_wp2_with fail
    apply calls_gen; intro W5 hW
    have hz_ : W4.heap.size ≤ W5.heap.size := by rw [hW]; simp
    have hE : Below W4.heap.size W4 W5 := by rw [hW]; (repeat (first | with_reducible refine below_alloc ?_ _ | with_reducible refine below_drew ?_)); exact Below.refl _ _
    have hB := hB.th hE
    have hBW := Hd.mk (below_then hBW.out hE)
    replace hS := Hd.mk (below_then hS.out hE)
    have bo := bo.dn hE
    have b0 := b0.dn hE
    have b1 := b1.dn hE
    have bp := bp.dn hE
    clear hW hE
    have z3 := Hd.mk hz_; clear hz_
    have hWs := Hd.mk (show wr.heap.size ≤ W5.heap.size by have z1_ := z1.out; have z2_ := z2.out; have z3_ := z3.out; omega)
    refine (ih x.list[k] _ _ (Ty.K_below _ hBW.out HK.out) hbk).mono ?_
    rintro e w6 ⟨cs', rfl, hO3, hX⟩
    have bo := bo.dn hX
    have b0 := b0.dn hX
    have b1 := b1.dn hX
    have bp := bp.dn hX
    have hB := hB.th hX
    replace hS := Hd.mk (below_then hS.out hX)
    have hz_ := hX.size
    have hBW := Hd.mk (below_then hBW.out hX)
    have z4 := Hd.mk hz_; clear hz_
    obtain ⟨v3, v4, _, _, rfl, hsz3, hr3, hr4, _⟩ := tJ_O.1 hO3
    obtain ⟨D3, d3, rfl, _, _⟩ := R_C hr3
    obtain ⟨D4, d4, rfl, _, _⟩ := R_C hr4
    have HO3 := Hd.mk hO3; clear hO3 hr3 hr4 hX
    go_wp2_with fail
    refine ⟨cls_below hS.out, ?_⟩
    refine mixT_b rfl ?_ (by rfl)
    go_wp2_with fail
    refine ⟨cls_below (below_alloc hS.out _), ?_⟩
    refine mixT_fin ?_
    clear hS
    clear rfbo_0 rfbo_1 rfbo_2 rfbo_3 rfbo_4 rv00 rv01 rv02 rv03 rv04 rv10 rv11 rv12 rv13 rv14 rfbp_0 rfbp_1 rfbp_2 rfbp_3 rfbp_4
    clear fbo_0 fbo_1 fbo_2 fbo_3 fbo_4 fbo_z v00 v01 v02 v03 v04 v0z v10 v11 v12 v13 v14 v1z fbp_0 fbp_1 fbp_2 fbp_3 fbp_4 fbp_z
    obtain ⟨fbo_0, fbo_1, fbo_2, fbo_3, fbo_4, fbo_z⟩ := blk5 bo.out
    obtain ⟨v00, v01, v02, v03, v04, v0z⟩ := blk5 b0.out
    obtain ⟨v10, v11, v12, v13, v14, v1z⟩ := blk5 b1.out
    obtain ⟨fbp_0, fbp_1, fbp_2, fbp_3, fbp_4, fbp_z⟩ := blk5 bp.out
    refine tail_b rfl ?_ (by rfl)
    have hLb := Hd.mk (R_below (R_bound hL.out) hBW.out)
    have hOb := Hd.mk (R_below (R_bound hO.out) hBW.out)
    have hsW := hWs.out
    go_wp2_with (at_builtin; refine append_one (tJ (m + 1)) rfl _ _ 27 43 (.agg #[.int .i64 0, .int .i64 0, .string ByteArray.empty, .slice none 0 0, .slice none 0 0]) 80 rfl Tryd.underlying27 info_JsonS rfl (by rw [tJ_sz]; omega) (by decide) (S := fun k => (fun k => w.heap.size + 2 ≤ k ∧ k ≠ p ∧ ¬ SN k) k ∧ k < wr.heap.size) (T := fun k => W5.heap.size ≤ k) (S' := (fun k => w.heap.size + 2 ≤ k ∧ k ≠ p ∧ ¬ SN k)) (v := .slice AL k cL) (xs := x.list.take k) x.list[k] [Value.int IntKind.i64 x.list[k].kind, .int .i64 x.list[k].n, .string x.list[k].s, .slice D3 x.list[k].list.length d3, .slice D4 x.list[k].names.length d4] rfl rfl hLb.out HO3.out (fun k h1 hl h2 => by have := h2.2; omega) (fun k h => h.1) (fun k h => ⟨by omega, by omega, fun h3 => by have := (hN.out k h3).2.1; have := hsz1.out; omega⟩) (fun k h => ⟨by have z1_ := z1.out; have z2_ := z2.out; have z3_ := z3.out; have z4_ := z4.out; omega, by have z1_ := z1.out; have z2_ := z2.out; have z3_ := z3.out; have z4_ := z4.out; omega, fun h3 => by have z1_ := z1.out; have z2_ := z2.out; have z3_ := z3.out; have z4_ := z4.out; have := (hN.out k h3).2.1; have := hsz1.out; omega⟩) (by simp; omega) (fun v5 w7 hv5 hX => ?_); obtain ⟨D5, d5, hv5e, _, _⟩ := R_C hv5; subst hv5e)
    have z1_ := z1.out; have z2_ := z2.out; have z3_ := z3.out; have z4_ := z4.out
    have bo := Hd.mk (bo.out.fr (S := _) hX (fun h => by have h1 := h.1.1; have h2 := h.1.2.1; have h3 := h.2; omega))
    have b0 := Hd.mk (b0.out.fr (S := _) hX (fun h => by have h1 := h.1.1; have h2 := h.1.2.1; have h3 := h.2; omega))
    have b1 := Hd.mk (b1.out.fr (S := _) hX (fun h => by have h1 := h.1.1; have h2 := h.1.2.1; have h3 := h.2; omega))
    have bp := Hd.mk (bp.out.fr (S := _) hX (fun h => by have h1 := h.1.1; have h2 := h.1.2.1; have h3 := h.2; omega))
    have hO6 := Hd.mk (R_fr hOb.out hX (fun k hk _ h => h.1.2.2 hk.1))
    have hB := Hd.mk (below_frS hB.out hX (fun k h => by have := h.1.1; omega))
    have hw5 := Hd.mk (show w1.heap.size ≤ w7.heap.size by have := hX.size; have := hsz1.out; omega)
    clear hX hOb
    have hL5 := Hd.mk hv5; clear hv5 hLb
    obtain ⟨fbo_0, fbo_1, fbo_2, fbo_3, fbo_4, fbo_z⟩ := blk5 bo.out
    obtain ⟨v00, v01, v02, v03, v04, v0z⟩ := blk5 b0.out
    obtain ⟨v10, v11, v12, v13, v14, v1z⟩ := blk5 b1.out
    obtain ⟨fbp_0, fbp_1, fbp_2, fbp_3, fbp_4, fbp_z⟩ := blk5 bp.out
    refine mixQ_n ?_
    refine tail_b rfl ?_ (by rfl)
    go_wp2_with fail
    refine mixQ_n ?_
    refine tail_b rfl ?_ (by rfl)
    go_wp2_with fail
    refine mixQ_n ?_
    refine tail_nil ?_
    go_wp2_with fail
    clear fbo_0 fbo_1 fbo_2 fbo_3 fbo_4 fbo_z v00 v01 v02 v03 v04 v0z v10 v11 v12 v13 v14 v1z fbp_0 fbp_1 fbp_2 fbp_3 fbp_4 fbp_z
    go_roundw
    case rel =>
     refine ⟨k + 1, _, by omega, by go_num, ⟨bo.out.set 3 _⟩, ⟨b0.out.other _ (by simp only; omega) _⟩, ⟨b1.out.other _ (by simp only; omega) _⟩, ⟨?_⟩, ⟨?_⟩, ⟨?_⟩, ⟨?_⟩⟩
     ·rw [List.take_succ_eq_append_getElem hlt2]
      have h5 := hL5.out
      exact R_setCell (by simpa using h5) (fun h => h.2.1 rfl) _
     ·exact R_mono (fun k h => h.1) (R_setCell hO6.out (fun h => (hN.out _ h.1).2.2 rfl) _)
     ·exact ((Fr.of_below hB.out (fun k => k = p)).setCell ⟨p, 3, none⟩ (fun _ => rfl) _).below (fun k h => by omega)
     ·simp; exact hw5.out
    case measure => simp [intOf]; omega
   ·obtain rfl : k = x.list.length := by omega
    obtain ⟨AL, cL, hvL, hcL, _⟩ := R_C hL.out
    subst hvL
    have hzp := hp.out
    have hzl := bo.out.lt
    have hsb := hB.out.size
    obtain ⟨fbo_0, fbo_1, fbo_2, fbo_3, fbo_4, fbo_z⟩ := blk5 bo.out
    obtain ⟨v00, v01, v02, v03, v04, v0z⟩ := blk5 b0.out
    obtain ⟨v10, v11, v12, v13, v14, v1z⟩ := blk5 b1.out
    go_wp2_with fail
    refine bodyPost_retW (v := .agg #[.int .i64 x.kind, .int .i64 x.n, .string x.s, .slice AL x.list.length cL, .slice D x.names.length d]) (by simp [results, Tryd.results25, go_sem, fbo_0, fbo_1, fbo_2, fbo_3, fbo_4, fbo_z, v00, v01, v02, v03, v04, v0z, v10, v11, v12, v13, v14, v1z]) rfl ?_
    intro W hW
    clear fbo_0 fbo_1 fbo_2 fbo_3 fbo_4 fbo_z v00 v01 v02 v03 v04 v0z v10 v11 v12 v13 v14 v1z
    have eF : Fr wr W (fun k => k = w.heap.size + 1) := by rw [hW]; (repeat (first | with_reducible refine Fr.setCell ?_ _ (fun _ => by simp) _)); exact Fr.refl _ _
    have hLf := R_fr hL.out eF (fun k hk _ h => by have := hk.1; (try simp only at h); omega)
    rw [List.take_length] at hLf
    have hOf := R_fr hO.out eF (fun k hk _ h => by have := (hN.out k hk).1; (try simp only at h); omega)
    skip
    refine ⟨[Value.int IntKind.i64 x.kind, .int .i64 x.n, .string x.s, .slice AL x.list.length cL, .slice D x.names.length d], rfl, tJ_O.2 ⟨_, _, (fun k => w.heap.size + 2 ≤ k ∧ k ≠ p ∧ ¬ SN k), SN, rfl, hs, by simpa using hLf, hOf, fun k h => by have := h.1; omega, fun k h => by have := (hN.out k h).1; omega, fun k h h2 => h.2.2 h2⟩, ((Fr.of_below hB.out (fun k => k = w.heap.size + 1)).then_ eF (fun k h _ => h)).below (fun k h => by omega)⟩
theorem impl_copyJson_all : ∀ m, CopyJ m
 | 0 => fun x cs w hk _ => hk.elim
 | m + 1 => impl_copyJson_of (impl_copyJson_all m)
theorem impl_copyJson {m : Nat} (x : J) (cs : List Value) (w : World) (hk : (tJ m).K w x cs) (hl : bulkJ m x ≤ 4194304) :
  Calls Tryd.prog 25 #[.agg cs.toArray] w fun e w' => ∃ cs', e = .returned (.agg cs'.toArray) ∧ (tJ m).O w' (fun k => w.heap.size ≤ k) x cs' ∧ Below w.heap.size w w' := impl_copyJson_all m x cs w hk hl
def CopyL (m : Nat) : Prop := ∀ (x : J) (cs : List Value) (w : World), (tJ m).K w x cs → bulkJ m x ≤ 4194304 →
 Calls Tryd.prog 39 #[.agg cs.toArray] w fun e w' => ∃ cs', e = .returned (.agg cs'.toArray) ∧ (tJ m).O w' (fun k => w.heap.size ≤ k) x cs' ∧ Below w.heap.size w w'
set_option maxHeartbeats 4000000 in
set_option maxRecDepth 100000 in
theorem spec_l1Copy_of {m : Nat} (ih : CopyL m) : CopyL (m + 1) := by
 intro x cs w hk hl
 obtain ⟨A1, c1, A2, c2, rfl, hs, ⟨hc1, hr1⟩, hc2, hr2⟩ := tJ_K.1 hk
 have hm1 := hr1.1
 have HR1 := Hd.mk hr1; clear hr1
 have HR2 := Hd.mk hr2; clear hr2 hk
 replace hl : x.s.size + bulkJS m x.list + bulkStringS x.names ≤ 4194304 := hl
 have hlN : x.names.length ≤ 4194304 := by simp only [bulkStringS] at hl; omega
 have hlL : x.list.length ≤ 4194304 := by simp only [bulkJS] at hl; omega
 have HLL := Hd.mk (show bulkJS m x.list ≤ 4194304 by omega); clear hl
 have hB := Hd.mk (Below.refl w.heap.size w)
 go_enter Tryd.func39, Tryd.ntmps39
 go_wp2_with fail
 apply wp_gen; intro W1 hW
 have hz_ : w.heap.size + 2 ≤ W1.heap.size := by rw [hW]; simp
 have hE : Below w.heap.size w W1 := by rw [hW]; (repeat (first | with_reducible refine below_alloc ?_ _ | with_reducible refine below_drew ?_)); exact Below.refl _ _
 have hB := hB.th hE
 have b0 := Hd.mk (show Blk W1 (w.heap.size) #[.int .i64 x.kind, .int .i64 x.n, .string x.s, .slice A1 x.list.length c1, .slice A2 x.names.length c2] 43 by rw [hW]; first | exact ((Blk.new _ _ _).alloc _) | (simpa using ((Blk.new _ _ _).alloc _)))
 have b1 := Hd.mk (show Blk W1 (w.heap.size + 1) #[.int .i64 0, .int .i64 0, .string ⟨#[]⟩, .slice none 0 0, .slice none 0 0] 43 by rw [hW]; first | exact (Blk.new1 _ _ _ _) | (simpa using (Blk.new1 _ _ _ _)))
 clear hW hE
 have z1 := Hd.mk hz_; clear hz_
 obtain ⟨RR, hRR⟩ : ∃ RR : Act → World → Prop, RR = (fun a w' => ∃ (p : Nat) (SN : Nat → Prop) (D : Option Addr) (d : Nat) (u5 u6 u7 u8 u9 u10 u11 u12 u13 u14 u15 : Value), a = ⟨#[.agg #[.int .i64 x.kind, .int .i64 x.n, .string x.s, .slice A1 x.list.length c1, .slice A2 x.names.length c2], .pointer (some ⟨w.heap.size, 0, none⟩), .pointer (some ⟨w.heap.size + 1, 0, none⟩), .pointer (some ⟨p, 0, none⟩), undef, u5, u6, u7, u8, u9, u10, u11, u12, u13, u14, u15, undef, undef, undef, undef, undef, undef, undef, undef, undef, undef, undef, undef, undef, undef, undef, undef, undef, undef, undef], []⟩ ∧ Hd (Blk w' p #[.int .i64 x.kind, .int .i64 x.n, .string x.s, .slice none 0 0, .slice D x.names.length d] 43) ∧ Hd (Blk w' w.heap.size #[.int .i64 x.kind, .int .i64 x.n, .string x.s, .slice A1 x.list.length c1, .slice A2 x.names.length c2] 43) ∧ Hd (Blk w' (w.heap.size + 1) #[.int .i64 0, .int .i64 0, .string ⟨#[]⟩, .slice none 0 0, .slice none 0 0] 43) ∧ Hd (w.heap.size + 2 ≤ p) ∧ Hd (∀ k, SN k → w.heap.size + 2 ≤ k ∧ k < w'.heap.size ∧ k ≠ p) ∧ Hd (str.R 9 w' SN (.slice D x.names.length d) x.names) ∧ Hd (Below w.heap.size w w')) := ⟨_, rfl⟩
 have HRR := Hd.mk hRR; clear hRR
 refine region_to RR ?_ ?_
 case refine_1 =>
  obtain ⟨v00, v01, v02, v03, v04, v0z⟩ := blk5 b0.out
  obtain ⟨v10, v11, v12, v13, v14, v1z⟩ := blk5 b1.out
  obtain ⟨rv00, rv01, rv02, rv03, rv04⟩ := reg5 v00 v01 v02 v03 v04
  obtain ⟨rv10, rv11, rv12, rv13, rv14⟩ := reg5 v10 v11 v12 v13 v14
  refine region_mixT (.q 0 (.q 1 (.q 2 (.q 3 (.q 4 (.q 5 (.q 7 (.q 8 (.br 6 11 (.br 9 11 (.q 10 (.b 11 .fin)) (.b 9 (.q 10 .fin))) (.b 6 (.b 9 (.q 10 .fin)))))))))))) [12] (by kernel_rfl) (by kernel_rfl) (fun _ _ _ _ _ h => h) ?_
  refine genT ?_
  intro W2 hW
  have hS := Hd.mk (show Below W1.heap.size W1 W2 by rw [hW]; exact below_drew (Below.refl _ _))
  have hz_ : W1.heap.size ≤ W2.heap.size := by rw [hW]; simp
  have hE : Below W1.heap.size W1 W2 := by rw [hW]; (repeat (first | with_reducible refine below_alloc ?_ _ | with_reducible refine below_drew ?_)); exact Below.refl _ _
  have hB := hB.th hE
  have b0 := b0.dn hE
  have b1 := b1.dn hE
  clear hW hE
  have z2 := Hd.mk hz_; clear hz_
  iterate 8 (refine mixT_q rfl ?_; go_big_quiet_want; go_big_quiet_op; go_big_quiet_on; refine wpQuiet_nil ?_)
  refine ⟨?_, ?_⟩
  ·refine stepM_of rfl ?_ (by rfl)
   go_wp2_with fail
   refine ⟨cls_below (below_alloc hS.out _), ?_⟩
   refine genT ?_; intro W3 hW
   have hE0 := Hd.mk (show str.R 9 W3 (rng W2.heap.size (W2.heap.size + 1)) (.slice (some ⟨W2.heap.size, 0, none⟩) 0 0) [] by rw [hW]; exact R_mono (fun k h => by simpa [rng] using h) (R_bound (R_empty str 9 W2)))
   have hz_ : W2.heap.size + 1 ≤ W3.heap.size := by rw [hW]; simp
   have hE : Below W2.heap.size W2 W3 := by rw [hW]; (repeat (first | with_reducible refine below_alloc ?_ _ | with_reducible refine below_drew ?_)); exact Below.refl _ _
   have hB := hB.th hE
   replace hS := Hd.mk (below_then hS.out hE)
   have b0 := b0.dn hE
   have b1 := b1.dn hE
   clear hW hE
   have z3 := Hd.mk hz_; clear hz_
   refine ⟨?_, ?_⟩
   ·refine stepM_of rfl ?_ (by rfl)
    have hSz := hB.out.size
    have z1_ := z1.out; have z2_ := z2.out; have z3_ := z3.out
    go_wp2_with (at_builtin; refine append_str rfl _ _ 38 9 (.string ByteArray.empty) 16 rfl Tryd.underlying38 info_str rfl (by decide) (S := rng W2.heap.size (W2.heap.size + 1)) (S' := (fun k => k = W2.heap.size ∨ W3.heap.size ≤ k)) rfl rfl hE0.out (C_below HR2.out hB.out) (fun k h => Or.inl (by have h1 := h.1; have h2 := h.2; omega)) (fun k h => Or.inr h) (by simp; omega) (fun v1 w4 hv hX => ?_); obtain ⟨D1, d1, rfl, _, _⟩ := R_C hv)
    clear hE0
    have z1_ := z1.out; have z2_ := z2.out; have z3_ := z3.out
    have hSz := hB.out.size
    have b0 := Hd.mk (b0.out.fr hX (fun h => by have hlt_ := b0.out.lt; skip; (try simp only [rng] at h); (try simp only at h); omega))
    have b1 := Hd.mk (b1.out.fr hX (fun h => by have hlt_ := b1.out.lt; skip; (try simp only [rng] at h); (try simp only at h); omega))
    replace hS := Hd.mk (below_frS hS.out hX (fun k h => by (try simp only [rng] at h); (try simp only at h); omega))
    have hB := Hd.mk (below_frS hB.out hX (fun k h => by skip; (try simp only [rng] at h); (try simp only at h); omega))
    have hz_ := hX.size
    clear hX
    have z4 := Hd.mk hz_; clear hz_
    have hO := Hd.mk (R_bound hv); clear hv
    refine ⟨cls_below hS.out, ?_⟩
    refine mixT_q rfl ?_
    go_big_quiet_want; go_big_quiet_op; go_big_quiet_on; refine wpQuiet_nil ?_
    refine mixT_b rfl ?_ (by rfl)
    go_wp2_with fail
    refine ⟨cls_below (below_alloc hS.out _), ?_⟩
    refine genT ?_; intro W5 hW
    have hz_ : w4.heap.size + 1 ≤ W5.heap.size := by rw [hW]; simp
    have hE : Below w4.heap.size w4 W5 := by rw [hW]; (repeat (first | with_reducible refine below_alloc ?_ _ | with_reducible refine below_drew ?_)); exact Below.refl _ _
    have hB := hB.th hE
    replace hS := Hd.mk (below_then hS.out hE)
    have b0 := b0.dn hE
    have b1 := b1.dn hE
    have b2 := Hd.mk (show Blk W5 (w4.heap.size) #[.int .i64 0, .int .i64 0, .string ⟨#[]⟩, .slice none 0 0, .slice none 0 0] 43 by rw [hW]; first | exact (Blk.new _ _ _) | (simpa using (Blk.new _ _ _)))
    have hO := Hd.mk (R_below hO.out hE)
    clear hW hE
    have z5 := Hd.mk hz_; clear hz_
    refine mixT_fin ?_
    clear hS
    clear rv00 rv01 rv02 rv03 rv04 rv10 rv11 rv12 rv13 rv14
    clear v00 v01 v02 v03 v04 v0z v10 v11 v12 v13 v14 v1z
    obtain ⟨v00, v01, v02, v03, v04, v0z⟩ := blk5 b0.out
    obtain ⟨v10, v11, v12, v13, v14, v1z⟩ := blk5 b1.out
    obtain ⟨v20, v21, v22, v23, v24, v2z⟩ := blk5 b2.out
    refine tail_b rfl ?_ (by rfl)
    go_wp2_with fail
    refine mixQ_n ?_
    refine tail_nil ?_
    refine region_gen ?_; intro W hW
    clear v00 v01 v02 v03 v04 v0z v10 v11 v12 v13 v14 v1z v20 v21 v22 v23 v24 v2z
    have hz_ : W5.heap.size ≤ W.heap.size := by rw [hW]; simp
    have eF : Fr W5 W (fun k => k = w4.heap.size ∨ W5.heap.size ≤ k) := by rw [hW]; (repeat (first | with_reducible refine Fr.setCell ?_ _ (fun _ => by simp <;> omega) _ | with_reducible refine Fr.alloc ?_ _ | with_reducible refine Fr.drew ?_)); exact Fr.refl _ _
    have z1_ := z1.out; have z2_ := z2.out; have z3_ := z3.out; have z4_ := z4.out; have z5_ := z5.out
    have hB := Hd.mk (((Fr.of_below hB.out (fun k => k = w4.heap.size ∨ W5.heap.size ≤ k)).then_ eF (fun k hk _ => hk)).below (fun k hk => by have := hB.out.size; omega))
    have b0 := Hd.mk (b0.out.fr eF (fun h => by have hlt_ := b0.out.lt; (try simp only at h); omega))
    have b1 := Hd.mk (b1.out.fr eF (fun h => by have hlt_ := b1.out.lt; (try simp only at h); omega))
    have b2 := Hd.mk (show Blk W (w4.heap.size) #[.int .i64 x.kind, .int .i64 x.n, .string x.s, .slice none 0 0, .slice D1 x.names.length d1] 43 by rw [hW]; exact (Blk.all b2.out [Value.int IntKind.i64 x.kind, .int .i64 x.n, .string x.s, .slice none 0 0, .slice D1 x.names.length d1] rfl))
    have hO := Hd.mk (R_fr hO.out eF (fun k hk hl h => by skip; (try simp only [rng] at hk); (try simp only at hk); (try simp only at h); omega))
    clear hW eF
    have z6 := Hd.mk hz_; clear hz_
    have hBs := hB.out.size
    have z1_ := z1.out; have z2_ := z2.out; have z3_ := z3.out; have z4_ := z4.out; have z5_ := z5.out; have z6_ := z6.out
    rw [HRR.out]
    exact ⟨w4.heap.size, _, D1, d1, _, _, _, _, _, _, _, _, _, _, _, rfl, b2, b0, b1, ⟨by omega⟩, ⟨fun k hk => by have h2 := hk.2; rcases hk.1 with h1 | h1 <;> refine ⟨by omega, by omega, by omega⟩⟩, hO, hB⟩
   ·refine stepM_of rfl ?_ (by rfl)
    go_wp2_with fail
    refine ⟨cls_below (below_alloc hS.out _), ?_⟩
    refine genT ?_; intro W4 hW
    have hz_ : W3.heap.size + 1 ≤ W4.heap.size := by rw [hW]; simp
    have hE : Below W3.heap.size W3 W4 := by rw [hW]; (repeat (first | with_reducible refine below_alloc ?_ _ | with_reducible refine below_drew ?_)); exact Below.refl _ _
    have hB := hB.th hE
    replace hS := Hd.mk (below_then hS.out hE)
    have b0 := b0.dn hE
    have b1 := b1.dn hE
    have b2 := Hd.mk (show Blk W4 (W3.heap.size) #[.int .i64 0, .int .i64 0, .string ⟨#[]⟩, .slice none 0 0, .slice none 0 0] 43 by rw [hW]; first | exact (Blk.new _ _ _) | (simpa using (Blk.new _ _ _)))
    have hE0 := Hd.mk (R_below hE0.out hE)
    clear hW hE
    have z4 := Hd.mk hz_; clear hz_
    refine mixT_b rfl ?_ (by rfl)
    have hSz := hB.out.size
    have z1_ := z1.out; have z2_ := z2.out; have z3_ := z3.out; have z4_ := z4.out
    go_wp2_with (at_builtin; refine append_str rfl _ _ 38 9 (.string ByteArray.empty) 16 rfl Tryd.underlying38 info_str rfl (by decide) (S := rng W2.heap.size (W2.heap.size + 1)) (S' := (fun k => k = W2.heap.size ∨ W4.heap.size ≤ k)) rfl rfl hE0.out (C_below HR2.out hB.out) (fun k h => Or.inl (by have h1 := h.1; have h2 := h.2; omega)) (fun k h => Or.inr h) (by simp; omega) (fun v1 w5 hv hX => ?_); obtain ⟨D1, d1, rfl, _, _⟩ := R_C hv)
    clear hE0
    have z1_ := z1.out; have z2_ := z2.out; have z3_ := z3.out; have z4_ := z4.out
    have hSz := hB.out.size
    have b0 := Hd.mk (b0.out.fr hX (fun h => by have hlt_ := b0.out.lt; skip; (try simp only [rng] at h); (try simp only at h); omega))
    have b1 := Hd.mk (b1.out.fr hX (fun h => by have hlt_ := b1.out.lt; skip; (try simp only [rng] at h); (try simp only at h); omega))
    have b2 := Hd.mk (b2.out.fr hX (fun h => by have hlt_ := b2.out.lt; skip; (try simp only [rng] at h); (try simp only at h); omega))
    replace hS := Hd.mk (below_frS hS.out hX (fun k h => by (try simp only [rng] at h); (try simp only at h); omega))
    have hB := Hd.mk (below_frS hB.out hX (fun k h => by skip; (try simp only [rng] at h); (try simp only at h); omega))
    have hz_ := hX.size
    clear hX
    have z5 := Hd.mk hz_; clear hz_
    have hO := Hd.mk (R_bound hv); clear hv
    refine ⟨cls_below hS.out, ?_⟩
    refine mixT_q rfl ?_
    go_big_quiet_want; go_big_quiet_op; go_big_quiet_on; refine wpQuiet_nil ?_
    refine mixT_fin ?_
    clear hS
    clear rv00 rv01 rv02 rv03 rv04 rv10 rv11 rv12 rv13 rv14
    clear v00 v01 v02 v03 v04 v0z v10 v11 v12 v13 v14 v1z
    obtain ⟨v00, v01, v02, v03, v04, v0z⟩ := blk5 b0.out
    obtain ⟨v10, v11, v12, v13, v14, v1z⟩ := blk5 b1.out
    obtain ⟨v20, v21, v22, v23, v24, v2z⟩ := blk5 b2.out
    refine tail_b rfl ?_ (by rfl)
    go_wp2_with fail
    refine mixQ_n ?_
    refine tail_nil ?_
    refine region_gen ?_; intro W hW
    clear v00 v01 v02 v03 v04 v0z v10 v11 v12 v13 v14 v1z v20 v21 v22 v23 v24 v2z
    have hz_ : w5.heap.size ≤ W.heap.size := by rw [hW]; simp
    have eF : Fr w5 W (fun k => k = W3.heap.size ∨ w5.heap.size ≤ k) := by rw [hW]; (repeat (first | with_reducible refine Fr.setCell ?_ _ (fun _ => by simp <;> omega) _ | with_reducible refine Fr.alloc ?_ _ | with_reducible refine Fr.drew ?_)); exact Fr.refl _ _
    have z1_ := z1.out; have z2_ := z2.out; have z3_ := z3.out; have z4_ := z4.out; have z5_ := z5.out
    have hB := Hd.mk (((Fr.of_below hB.out (fun k => k = W3.heap.size ∨ w5.heap.size ≤ k)).then_ eF (fun k hk _ => hk)).below (fun k hk => by have := hB.out.size; omega))
    have b0 := Hd.mk (b0.out.fr eF (fun h => by have hlt_ := b0.out.lt; (try simp only at h); omega))
    have b1 := Hd.mk (b1.out.fr eF (fun h => by have hlt_ := b1.out.lt; (try simp only at h); omega))
    have b2 := Hd.mk (show Blk W (W3.heap.size) #[.int .i64 x.kind, .int .i64 x.n, .string x.s, .slice none 0 0, .slice D1 x.names.length d1] 43 by rw [hW]; exact (Blk.all b2.out [Value.int IntKind.i64 x.kind, .int .i64 x.n, .string x.s, .slice none 0 0, .slice D1 x.names.length d1] rfl))
    have hO := Hd.mk (R_fr hO.out eF (fun k hk hl h => by skip; (try simp only [rng] at hk); (try simp only at hk); (try simp only at h); omega))
    clear hW eF
    have z6 := Hd.mk hz_; clear hz_
    have hBs := hB.out.size
    have z1_ := z1.out; have z2_ := z2.out; have z3_ := z3.out; have z4_ := z4.out; have z5_ := z5.out; have z6_ := z6.out
    rw [HRR.out]
    exact ⟨W3.heap.size, _, D1, d1, _, _, _, _, _, _, _, _, _, _, _, rfl, b2, b0, b1, ⟨by omega⟩, ⟨fun k hk => by have h2 := hk.2; rcases hk.1 with h1 | h1 <;> refine ⟨by omega, by omega, by omega⟩⟩, hO, hB⟩
  ·refine stepM_of rfl ?_ (by rfl)
   go_wp2_with fail
   refine ⟨cls_below (below_alloc hS.out _), ?_⟩
   refine genT ?_; intro W3 hW
   have hz_ : W2.heap.size + 1 ≤ W3.heap.size := by rw [hW]; simp
   have hE : Below W2.heap.size W2 W3 := by rw [hW]; (repeat (first | with_reducible refine below_alloc ?_ _ | with_reducible refine below_drew ?_)); exact Below.refl _ _
   have hB := hB.th hE
   replace hS := Hd.mk (below_then hS.out hE)
   have b0 := b0.dn hE
   have b1 := b1.dn hE
   have b2 := Hd.mk (show Blk W3 (W2.heap.size) #[.int .i64 0, .int .i64 0, .string ⟨#[]⟩, .slice none 0 0, .slice none 0 0] 43 by rw [hW]; first | exact (Blk.new _ _ _) | (simpa using (Blk.new _ _ _)))
   clear hW hE
   have z3 := Hd.mk hz_; clear hz_
   refine mixT_b rfl ?_ (by rfl)
   go_wp2_with fail
   refine ⟨cls_below (below_alloc hS.out _), ?_⟩
   refine genT ?_; intro W4 hW
   have hE0 := Hd.mk (show str.R 9 W4 (rng W3.heap.size (W3.heap.size + 1)) (.slice (some ⟨W3.heap.size, 0, none⟩) 0 0) [] by rw [hW]; exact R_mono (fun k h => by simpa [rng] using h) (R_bound (R_empty str 9 W3)))
   have hz_ : W3.heap.size + 1 ≤ W4.heap.size := by rw [hW]; simp
   have hE : Below W3.heap.size W3 W4 := by rw [hW]; (repeat (first | with_reducible refine below_alloc ?_ _ | with_reducible refine below_drew ?_)); exact Below.refl _ _
   have hB := hB.th hE
   replace hS := Hd.mk (below_then hS.out hE)
   have b0 := b0.dn hE
   have b1 := b1.dn hE
   have b2 := b2.dn hE
   clear hW hE
   have z4 := Hd.mk hz_; clear hz_
   refine mixT_b rfl ?_ (by rfl)
   have hSz := hB.out.size
   have z1_ := z1.out; have z2_ := z2.out; have z3_ := z3.out; have z4_ := z4.out
   go_wp2_with (at_builtin; refine append_str rfl _ _ 38 9 (.string ByteArray.empty) 16 rfl Tryd.underlying38 info_str rfl (by decide) (S := rng W3.heap.size (W3.heap.size + 1)) (S' := (fun k => k = W3.heap.size ∨ W4.heap.size ≤ k)) rfl rfl hE0.out (C_below HR2.out hB.out) (fun k h => Or.inl (by have h1 := h.1; have h2 := h.2; omega)) (fun k h => Or.inr h) (by simp; omega) (fun v1 w5 hv hX => ?_); obtain ⟨D1, d1, rfl, _, _⟩ := R_C hv)
   clear hE0
   have z1_ := z1.out; have z2_ := z2.out; have z3_ := z3.out; have z4_ := z4.out
   have hSz := hB.out.size
   have b0 := Hd.mk (b0.out.fr hX (fun h => by have hlt_ := b0.out.lt; skip; (try simp only [rng] at h); (try simp only at h); omega))
   have b1 := Hd.mk (b1.out.fr hX (fun h => by have hlt_ := b1.out.lt; skip; (try simp only [rng] at h); (try simp only at h); omega))
   have b2 := Hd.mk (b2.out.fr hX (fun h => by have hlt_ := b2.out.lt; skip; (try simp only [rng] at h); (try simp only at h); omega))
   replace hS := Hd.mk (below_frS hS.out hX (fun k h => by (try simp only [rng] at h); (try simp only at h); omega))
   have hB := Hd.mk (below_frS hB.out hX (fun k h => by skip; (try simp only [rng] at h); (try simp only at h); omega))
   have hz_ := hX.size
   clear hX
   have z5 := Hd.mk hz_; clear hz_
   have hO := Hd.mk (R_bound hv); clear hv
   refine ⟨cls_below hS.out, ?_⟩
   refine mixT_q rfl ?_
   go_big_quiet_want; go_big_quiet_op; go_big_quiet_on; refine wpQuiet_nil ?_
   refine mixT_fin ?_
   clear hS
   clear rv00 rv01 rv02 rv03 rv04 rv10 rv11 rv12 rv13 rv14
   clear v00 v01 v02 v03 v04 v0z v10 v11 v12 v13 v14 v1z
   obtain ⟨v00, v01, v02, v03, v04, v0z⟩ := blk5 b0.out
   obtain ⟨v10, v11, v12, v13, v14, v1z⟩ := blk5 b1.out
   obtain ⟨v20, v21, v22, v23, v24, v2z⟩ := blk5 b2.out
   refine tail_b rfl ?_ (by rfl)
   go_wp2_with fail
   refine mixQ_n ?_
   refine tail_nil ?_
   refine region_gen ?_; intro W hW
   clear v00 v01 v02 v03 v04 v0z v10 v11 v12 v13 v14 v1z v20 v21 v22 v23 v24 v2z
   have hz_ : w5.heap.size ≤ W.heap.size := by rw [hW]; simp
   have eF : Fr w5 W (fun k => k = W2.heap.size ∨ w5.heap.size ≤ k) := by rw [hW]; (repeat (first | with_reducible refine Fr.setCell ?_ _ (fun _ => by simp <;> omega) _ | with_reducible refine Fr.alloc ?_ _ | with_reducible refine Fr.drew ?_)); exact Fr.refl _ _
   have z1_ := z1.out; have z2_ := z2.out; have z3_ := z3.out; have z4_ := z4.out; have z5_ := z5.out
   have hB := Hd.mk (((Fr.of_below hB.out (fun k => k = W2.heap.size ∨ w5.heap.size ≤ k)).then_ eF (fun k hk _ => hk)).below (fun k hk => by have := hB.out.size; omega))
   have b0 := Hd.mk (b0.out.fr eF (fun h => by have hlt_ := b0.out.lt; (try simp only at h); omega))
   have b1 := Hd.mk (b1.out.fr eF (fun h => by have hlt_ := b1.out.lt; (try simp only at h); omega))
   have b2 := Hd.mk (show Blk W (W2.heap.size) #[.int .i64 x.kind, .int .i64 x.n, .string x.s, .slice none 0 0, .slice D1 x.names.length d1] 43 by rw [hW]; exact (Blk.all b2.out [Value.int IntKind.i64 x.kind, .int .i64 x.n, .string x.s, .slice none 0 0, .slice D1 x.names.length d1] rfl))
   have hO := Hd.mk (R_fr hO.out eF (fun k hk hl h => by skip; (try simp only [rng] at hk); (try simp only at hk); (try simp only at h); omega))
   clear hW eF
   have z6 := Hd.mk hz_; clear hz_
   have hBs := hB.out.size
   have z1_ := z1.out; have z2_ := z2.out; have z3_ := z3.out; have z4_ := z4.out; have z5_ := z5.out; have z6_ := z6.out
   rw [HRR.out]
   exact ⟨W2.heap.size, _, D1, d1, _, _, _, _, _, _, _, _, _, _, _, rfl, b2, b0, b1, ⟨by omega⟩, ⟨fun k hk => by have h2 := hk.2; rcases hk.1 with h1 | h1 <;> refine ⟨by omega, by omega, by omega⟩⟩, hO, hB⟩
 case refine_2 =>
  rw [HRR.out]
  clear HRR
  rintro a w1 ⟨p, SN, D, d, u5, u6, u7, u8, u9, u10, u11, u12, u13, u14, u15, rfl, bo, b0, b1, hp, hN, hO, hB1⟩
  replace hB := hB1; clear hB1
  have hlt := Hd.mk bo.out.lt
  obtain ⟨fbo_0, fbo_1, fbo_2, fbo_3, fbo_4, fbo_z⟩ := blk5 bo.out
  obtain ⟨v00, v01, v02, v03, v04, v0z⟩ := blk5 b0.out
  obtain ⟨v10, v11, v12, v13, v14, v1z⟩ := blk5 b1.out
  go_wp2_with fail
  clear fbo_0 fbo_1 fbo_2 fbo_3 fbo_4 fbo_z v00 v01 v02 v03 v04 v0z v10 v11 v12 v13 v14 v1z
  go_loopw [4] (fun i wr => ∃ k : Nat, ∃ vL : Value, k ≤ x.list.length ∧ i = .int .i64 k ∧ Hd (Blk wr p #[.int .i64 x.kind, .int .i64 x.n, .string x.s, vL, .slice D x.names.length d] 43) ∧ Hd (Blk wr w.heap.size #[.int .i64 x.kind, .int .i64 x.n, .string x.s, .slice A1 x.list.length c1, .slice A2 x.names.length c2] 43) ∧ Hd (Blk wr (w.heap.size + 1) #[.int .i64 0, .int .i64 0, .string ⟨#[]⟩, .slice none 0 0, .slice none 0 0] 43) ∧ Hd ((tJ m).R 43 wr (fun k => w.heap.size + 2 ≤ k ∧ k ≠ p ∧ ¬ SN k) vL (x.list.take k)) ∧ Hd (str.R 9 wr SN (.slice D x.names.length d) x.names) ∧ Hd (Below w.heap.size w wr) ∧ Hd (w1.heap.size ≤ wr.heap.size)) (fun i _ => x.list.length - (intOf i).toNat)
  case atStart => exact ⟨0, .slice none 0 0, Nat.zero_le _, rfl, bo, b0, b1, ⟨R_nil⟩, hO, hB, ⟨Nat.le_refl _⟩⟩
  case round =>
   clear bo b0 b1 hO hB
   obtain ⟨k, vL, hk, rfl, bo, b0, b1, hL, hO, hB, hsz1⟩ := hrel
   by_cases hlt2 : k < x.list.length
   ·obtain ⟨ad, cs0, rfl, hK0, e0, e1⟩ := C_at HR1.out hB.out k hlt2
    obtain ⟨m, rfl⟩ : ∃ m1 : Nat, m = m1 + 1 := by cases m with | zero => exact hK0.elim | succ m => exact ⟨m, rfl⟩
    obtain ⟨A3, c3, A4, c4, rfl, hs3, ⟨hc3, hr3⟩, hc4, hr4⟩ := tJ_K.1 hK0
    have hbk := Nat.le_trans (bulkL_mem (bulkJ (m + 1)) (List.getElem_mem hlt2)) (Nat.le_trans (Nat.le_add_left _ _) HLL.out)
    obtain ⟨AL, cL, hvL, hcL, _⟩ := R_C hL.out
    have htk : (x.list.take k).length = k := by rw [List.length_take]; omega
    rw [htk] at hvL
    subst hvL
    clear htk
    have x0 : wr.cell? (ad.add (k * 5)) = some (.int .i64 x.list[k].kind) := e0 _ rfl
    have x1 : wr.cell? ⟨(ad.add (k * 5)).block, (ad.add (k * 5)).off + 1, none⟩ = some (.int .i64 x.list[k].n) := e1 0 _ rfl
    have x2 : wr.cell? ⟨(ad.add (k * 5)).block, (ad.add (k * 5)).off + 2, none⟩ = some (.string x.list[k].s) := e1 1 _ rfl
    have x3 : wr.cell? ⟨(ad.add (k * 5)).block, (ad.add (k * 5)).off + 3, none⟩ = some (.slice A3 x.list[k].list.length c3) := e1 2 _ rfl
    have x4 : wr.cell? ⟨(ad.add (k * 5)).block, (ad.add (k * 5)).off + 4, none⟩ = some (.slice A4 x.list[k].names.length c4) := e1 3 _ rfl
    have HK := Hd.mk hK0; clear hK0 e0 e1 hr3 hr4
    have hlt := Hd.mk (show p < wr.heap.size from bo.out.lt)
    have hzp := hp.out
    have hzl := hlt.out
    have hsb := hB.out.size
    obtain ⟨fbo_0, fbo_1, fbo_2, fbo_3, fbo_4, fbo_z⟩ := blk5 bo.out
    obtain ⟨v00, v01, v02, v03, v04, v0z⟩ := blk5 b0.out
    obtain ⟨v10, v11, v12, v13, v14, v1z⟩ := blk5 b1.out
    go_wp2_with fail
    clear fbo_0 fbo_1 fbo_2 fbo_3 fbo_4 fbo_z v00 v01 v02 v03 v04 v0z v10 v11 v12 v13 v14 v1z
    obtain ⟨y_0, y_1, y_2, y_3, y_4⟩ := reg5 x0 x1 x2 x3 x4
    have hBW := Hd.mk (Below.refl wr.heap.size wr)
    obtain ⟨fbo_0, fbo_1, fbo_2, fbo_3, fbo_4, fbo_z⟩ := blk5 bo.out
    obtain ⟨v00, v01, v02, v03, v04, v0z⟩ := blk5 b0.out
    obtain ⟨v10, v11, v12, v13, v14, v1z⟩ := blk5 b1.out
    obtain ⟨rfbo_0, rfbo_1, rfbo_2, rfbo_3, rfbo_4⟩ := reg5 fbo_0 fbo_1 fbo_2 fbo_3 fbo_4
    obtain ⟨rv00, rv01, rv02, rv03, rv04⟩ := reg5 v00 v01 v02 v03 v04
    obtain ⟨rv10, rv11, rv12, rv13, rv14⟩ := reg5 v10 v11 v12 v13 v14
    refine region_mixT (.q 0 (.q 1 (.q 2 (.q 3 (.q 4 (.q 5 (.q 6 (.b 7 (.b 8 .fin))))))))) [9, 10, 11] (by kernel_rfl) (by kernel_rfl) (fun _ _ _ _ _ h => h) ?_
    refine genT ?_
    intro W3 hW
    have hS := Hd.mk (show Below wr.heap.size wr W3 by rw [hW]; exact below_drew (Below.refl _ _))
    have hz_ : wr.heap.size ≤ W3.heap.size := by rw [hW]; simp
    have hE : Below wr.heap.size wr W3 := by rw [hW]; (repeat (first | with_reducible refine below_alloc ?_ _ | with_reducible refine below_drew ?_)); exact Below.refl _ _
    have hB := hB.th hE
    have hBW := Hd.mk (below_then hBW.out hE)
    have bo := bo.dn hE
    have b0 := b0.dn hE
    have b1 := b1.dn hE
    clear hW hE
    have z1 := Hd.mk hz_; clear hz_
    iterate 7 (refine mixT_q rfl ?_; go_big_quiet_want; go_big_quiet_op; go_big_quiet_on; refine wpQuiet_nil ?_)
    refine mixT_b rfl ?_ (by rfl)
    go_wp2_with fail
    apply calls_gen; intro W4 hW
    have hz_ : W3.heap.size ≤ W4.heap.size := by rw [hW]; simp
    have hE : Below W3.heap.size W3 W4 := by rw [hW]; (repeat (first | with_reducible refine below_alloc ?_ _ | with_reducible refine below_drew ?_)); exact Below.refl _ _
    have hB := hB.th hE
    have hBW := Hd.mk (below_then hBW.out hE)
    replace hS := Hd.mk (below_then hS.out hE)
    have bo := bo.dn hE
    have b0 := b0.dn hE
    have b1 := b1.dn hE
    clear hW hE
    have z2 := Hd.mk hz_; clear hz_
    have hWs := Hd.mk (show wr.heap.size ≤ W4.heap.size by have z1_ := z1.out; have z2_ := z2.out; omega)
    refine (ih x.list[k] _ _ (Ty.K_below _ hBW.out HK.out) hbk).mono ?_
    rintro e w5 ⟨cs', rfl, hO3, hX⟩
    have bo := bo.dn hX
    have b0 := b0.dn hX
    have b1 := b1.dn hX
    have hB := hB.th hX
    replace hS := Hd.mk (below_then hS.out hX)
    have hz_ := hX.size
    have hBW := Hd.mk (below_then hBW.out hX)
    have z3 := Hd.mk hz_; clear hz_
    obtain ⟨v3, v4, _, _, rfl, hsz3, hr3, hr4, _⟩ := tJ_O.1 hO3
    obtain ⟨D3, d3, rfl, _, _⟩ := R_C hr3
    obtain ⟨D4, d4, rfl, _, _⟩ := R_C hr4
    have HO3 := Hd.mk hO3; clear hO3 hr3 hr4 hX
    go_wp2_with fail
    refine ⟨cls_below hS.out, ?_⟩
    refine mixT_b rfl ?_ (by rfl)
    go_wp2_with fail
    refine ⟨cls_below (below_alloc hS.out _), ?_⟩
    refine mixT_fin ?_
    clear hS
    clear rfbo_0 rfbo_1 rfbo_2 rfbo_3 rfbo_4 rv00 rv01 rv02 rv03 rv04 rv10 rv11 rv12 rv13 rv14
    clear fbo_0 fbo_1 fbo_2 fbo_3 fbo_4 fbo_z v00 v01 v02 v03 v04 v0z v10 v11 v12 v13 v14 v1z
    obtain ⟨fbo_0, fbo_1, fbo_2, fbo_3, fbo_4, fbo_z⟩ := blk5 bo.out
    obtain ⟨v00, v01, v02, v03, v04, v0z⟩ := blk5 b0.out
    obtain ⟨v10, v11, v12, v13, v14, v1z⟩ := blk5 b1.out
    refine tail_b rfl ?_ (by rfl)
    have hLb := Hd.mk (R_below (R_bound hL.out) hBW.out)
    have hOb := Hd.mk (R_below (R_bound hO.out) hBW.out)
    have hsW := hWs.out
    go_wp2_with (at_builtin; refine append_one (tJ (m + 1)) rfl _ _ 27 43 (.agg #[.int .i64 0, .int .i64 0, .string ByteArray.empty, .slice none 0 0, .slice none 0 0]) 80 rfl Tryd.underlying27 info_JsonS rfl (by rw [tJ_sz]; omega) (by decide) (S := fun k => (fun k => w.heap.size + 2 ≤ k ∧ k ≠ p ∧ ¬ SN k) k ∧ k < wr.heap.size) (T := fun k => W4.heap.size ≤ k) (S' := (fun k => w.heap.size + 2 ≤ k ∧ k ≠ p ∧ ¬ SN k)) (v := .slice AL k cL) (xs := x.list.take k) x.list[k] [Value.int IntKind.i64 x.list[k].kind, .int .i64 x.list[k].n, .string x.list[k].s, .slice D3 x.list[k].list.length d3, .slice D4 x.list[k].names.length d4] rfl rfl hLb.out HO3.out (fun k h1 hl h2 => by have := h2.2; omega) (fun k h => h.1) (fun k h => ⟨by omega, by omega, fun h3 => by have := (hN.out k h3).2.1; have := hsz1.out; omega⟩) (fun k h => ⟨by have z1_ := z1.out; have z2_ := z2.out; have z3_ := z3.out; omega, by have z1_ := z1.out; have z2_ := z2.out; have z3_ := z3.out; omega, fun h3 => by have z1_ := z1.out; have z2_ := z2.out; have z3_ := z3.out; have := (hN.out k h3).2.1; have := hsz1.out; omega⟩) (by simp; omega) (fun v5 w6 hv5 hX => ?_); obtain ⟨D5, d5, hv5e, _, _⟩ := R_C hv5; subst hv5e)
    have z1_ := z1.out; have z2_ := z2.out; have z3_ := z3.out
    have bo := Hd.mk (bo.out.fr (S := _) hX (fun h => by have h1 := h.1.1; have h2 := h.1.2.1; have h3 := h.2; omega))
    have b0 := Hd.mk (b0.out.fr (S := _) hX (fun h => by have h1 := h.1.1; have h2 := h.1.2.1; have h3 := h.2; omega))
    have b1 := Hd.mk (b1.out.fr (S := _) hX (fun h => by have h1 := h.1.1; have h2 := h.1.2.1; have h3 := h.2; omega))
    have hO6 := Hd.mk (R_fr hOb.out hX (fun k hk _ h => h.1.2.2 hk.1))
    have hB := Hd.mk (below_frS hB.out hX (fun k h => by have := h.1.1; omega))
    have hw5 := Hd.mk (show w1.heap.size ≤ w6.heap.size by have := hX.size; have := hsz1.out; omega)
    clear hX hOb
    have hL5 := Hd.mk hv5; clear hv5 hLb
    obtain ⟨fbo_0, fbo_1, fbo_2, fbo_3, fbo_4, fbo_z⟩ := blk5 bo.out
    obtain ⟨v00, v01, v02, v03, v04, v0z⟩ := blk5 b0.out
    obtain ⟨v10, v11, v12, v13, v14, v1z⟩ := blk5 b1.out
    refine mixQ_n ?_
    refine tail_b rfl ?_ (by rfl)
    go_wp2_with fail
    refine mixQ_n ?_
    refine tail_b rfl ?_ (by rfl)
    go_wp2_with fail
    refine mixQ_n ?_
    refine tail_nil ?_
    go_wp2_with fail
    clear fbo_0 fbo_1 fbo_2 fbo_3 fbo_4 fbo_z v00 v01 v02 v03 v04 v0z v10 v11 v12 v13 v14 v1z
    go_roundw
    case rel =>
     refine ⟨k + 1, _, by omega, by go_num, ⟨bo.out.set 3 _⟩, ⟨b0.out.other _ (by simp only; omega) _⟩, ⟨b1.out.other _ (by simp only; omega) _⟩, ⟨?_⟩, ⟨?_⟩, ⟨?_⟩, ⟨?_⟩⟩
     ·rw [List.take_succ_eq_append_getElem hlt2]
      have h5 := hL5.out
      exact R_setCell (by simpa using h5) (fun h => h.2.1 rfl) _
     ·exact R_mono (fun k h => h.1) (R_setCell hO6.out (fun h => (hN.out _ h.1).2.2 rfl) _)
     ·exact ((Fr.of_below hB.out (fun k => k = p)).setCell ⟨p, 3, none⟩ (fun _ => rfl) _).below (fun k h => by omega)
     ·simp; exact hw5.out
    case measure => simp [intOf]; omega
   ·obtain rfl : k = x.list.length := by omega
    obtain ⟨AL, cL, hvL, hcL, _⟩ := R_C hL.out
    subst hvL
    have hzp := hp.out
    have hzl := bo.out.lt
    have hsb := hB.out.size
    obtain ⟨fbo_0, fbo_1, fbo_2, fbo_3, fbo_4, fbo_z⟩ := blk5 bo.out
    obtain ⟨v00, v01, v02, v03, v04, v0z⟩ := blk5 b0.out
    obtain ⟨v10, v11, v12, v13, v14, v1z⟩ := blk5 b1.out
    go_wp2_with fail
    refine bodyPost_retW (v := .agg #[.int .i64 x.kind, .int .i64 x.n, .string x.s, .slice AL x.list.length cL, .slice D x.names.length d]) (by simp [results, Tryd.results39, go_sem, fbo_0, fbo_1, fbo_2, fbo_3, fbo_4, fbo_z, v00, v01, v02, v03, v04, v0z, v10, v11, v12, v13, v14, v1z]) rfl ?_
    intro W hW
    clear fbo_0 fbo_1 fbo_2 fbo_3 fbo_4 fbo_z v00 v01 v02 v03 v04 v0z v10 v11 v12 v13 v14 v1z
    have eF : Fr wr W (fun k => k = w.heap.size + 1) := by rw [hW]; (repeat (first | with_reducible refine Fr.setCell ?_ _ (fun _ => by simp) _)); exact Fr.refl _ _
    have hLf := R_fr hL.out eF (fun k hk _ h => by have := hk.1; (try simp only at h); omega)
    rw [List.take_length] at hLf
    have hOf := R_fr hO.out eF (fun k hk _ h => by have := (hN.out k hk).1; (try simp only at h); omega)
    skip
    refine ⟨[Value.int IntKind.i64 x.kind, .int .i64 x.n, .string x.s, .slice AL x.list.length cL, .slice D x.names.length d], rfl, tJ_O.2 ⟨_, _, (fun k => w.heap.size + 2 ≤ k ∧ k ≠ p ∧ ¬ SN k), SN, rfl, hs, by simpa using hLf, hOf, fun k h => by have := h.1; omega, fun k h => by have := (hN.out k h).1; omega, fun k h h2 => h.2.2 h2⟩, ((Fr.of_below hB.out (fun k => k = w.heap.size + 1)).then_ eF (fun k h _ => h)).below (fun k h => by omega)⟩
theorem spec_l1Copy_all : ∀ m, CopyL m
 | 0 => fun x cs w hk _ => hk.elim
 | m + 1 => spec_l1Copy_of (spec_l1Copy_all m)
theorem spec_l1Copy {m : Nat} (x : J) (cs : List Value) (w : World) (hk : (tJ m).K w x cs) (hl : bulkJ m x ≤ 4194304) :
  Calls Tryd.prog 39 #[.agg cs.toArray] w fun e w' => ∃ cs', e = .returned (.agg cs'.toArray) ∧ (tJ m).O w' (fun k => w.heap.size ≤ k) x cs' ∧ Below w.heap.size w w' := spec_l1Copy_all m x cs w hk hl
structure Keyed where
 key : Int
 val : J
def tKey (w0 : World) (m : Nat) : Ty Keyed where
 sz := 6
 K := fun _ x cs => ∃ c, cs = .int .i64 x.key :: c ∧ (tJ (m + 1)).K w0 x.val c
 O := fun _ _ x cs => ∃ c, cs = .int .i64 x.key :: c ∧ (tJ (m + 1)).K w0 x.val c
 K_len := fun h => by
  obtain ⟨c, rfl, h⟩ := h
  have := (tJ (m + 1)).K_len h
  simp only [List.length_cons]
  rw [this]; rfl
 K_one := fun h u hu => by
  obtain ⟨c, rfl, h⟩ := h
  rcases List.mem_cons.1 hu with rfl | hu
  ·rfl
  ·exact (tJ (m + 1)).K_one h u hu
 K_below := fun _ h => h
 O_K := fun h => h
 O_mono := fun _ h => h
 O_bound := fun h => h
 O_move := fun _ h => h
theorem info_KeyS : (Tryd.prog.info? 50).map (fun i => (i.zero, i.size, i.bytes)) = some (some (.agg #[.int .i64 0, .int .i64 0, .int .i64 0, .string ByteArray.empty, .slice none 0 0, .slice none 0 0]), 6, 88) := by kernel_rfl
theorem tKey_C {w0 w : World} {m : Nat} {A : Option Addr} {l : List Keyed} (h : (tKey w0 m).C w A l) {W : World} (hb : Below w.heap.size w W) (k : Nat) (hk : k < l.length) : ∃ ad A1 c1 A2 c2, A = some ad ∧ (tJ (m + 1)).K w0 l[k].val [.int .i64 l[k].val.kind, .int .i64 l[k].val.n, .string l[k].val.s, .slice A1 l[k].val.list.length c1, .slice A2 l[k].val.names.length c2] ∧
  W.cell? (ad.add (k * 6)) = some (.int .i64 l[k].key) ∧ W.cell? ⟨(ad.add (k * 6)).block, (ad.add (k * 6)).off + 1, none⟩ = some (.int .i64 l[k].val.kind) ∧ W.cell? ⟨(ad.add (k * 6)).block, (ad.add (k * 6)).off + 2, none⟩ = some (.int .i64 l[k].val.n) ∧
  W.cell? ⟨(ad.add (k * 6)).block, (ad.add (k * 6)).off + 3, none⟩ = some (.string l[k].val.s) ∧ W.cell? ⟨(ad.add (k * 6)).block, (ad.add (k * 6)).off + 4, none⟩ = some (.slice A1 l[k].val.list.length c1) ∧ W.cell? ⟨(ad.add (k * 6)).block, (ad.add (k * 6)).off + 5, none⟩ = some (.slice A2 l[k].val.names.length c2) := by
 obtain ⟨ad, cs, rfl, hK, h0, h1⟩ := C_at h hb k hk
 obtain ⟨c, rfl, hJ⟩ := hK
 obtain ⟨A1, c1, A2, c2, rfl, hs, h2, h3⟩ := tJ_K.1 hJ
 exact ⟨ad, A1, c1, A2, c2, rfl, hJ, h0 _ rfl, h1 0 _ rfl, h1 1 _ rfl, h1 2 _ rfl, h1 3 _ rfl, h1 4 _ rfl⟩
def idxF {α : Type} (p : α → Bool) (l : List α) : Int := if l.findIdx p < l.length then (l.findIdx p : Int) else -1
theorem idxF_found {α : Type} (p : α → Bool) (l : List α) (k : Nat) (hk : k < l.length) (h : (l.take k).all (fun x => !p x) = true) (hp : p l[k] = true) : idxF p l = k := by
 have : l.findIdx p = k := by
  rw [List.findIdx_eq hk]
  refine ⟨hp, fun j hj => ?_⟩
  rw [List.all_eq_true] at h
  have := h l[j] (by rw [List.mem_take_iff_getElem]; exact ⟨j, by omega, rfl⟩)
  simpa using this
 unfold idxF
 rw [this, if_pos hk]
theorem idxF_none {α : Type} (p : α → Bool) (l : List α) (h : l.all (fun x => !p x) = true) : idxF p l = -1 := by
 have : l.findIdx p = l.length := by
  rw [List.findIdx_eq_length]
  intro x hx
  rw [List.all_eq_true] at h
  simpa using h x hx
 unfold idxF
 rw [if_neg (by omega)]
def rowAt (l : List Row) (n : Int) : Int := idxF (fun r => r.id == n) l
end Go.Proofs.YtegcecnjmimbiaaDoor.X
namespace Go.Proofs.YtegcecnjmimbiaaDoor.X
open Go.Lib
set_option linter.unusedVariables false
set_option linter.unusedSimpArgs false

def isDig (c : UInt8) : Bool := decide (48 ≤ c.toNat ∧ c.toNat ≤ 57)
def stepD (x : Nat) (c : UInt8) : Nat := x * 10 + (c.toNat - 48)
def valD (l : List UInt8) : Nat := l.foldl stepD 0
theorem ofNat_dig (d : Nat) (h : d < 10) : (UInt8.ofNat (48 + d)).toNat = 48 + d := by
 rw [UInt8.toNat_ofNat']; omega
theorem isDig_ofNat (d : Nat) (h : d < 10) : isDig (UInt8.ofNat (48 + d)) = true := by
 unfold isDig
 rw [ofNat_dig d h]; simp; omega
theorem decDigits_all (u : Nat) : (decDigits u).all isDig = true := by
 induction u using Nat.strongRecOn with
 | _ u ih =>
  rw [decDigits]
  split
  ·rename_i h
   rw [List.all_cons, isDig_ofNat u h]; rfl
  ·rename_i h
   rw [List.all_append, ih (u / 10) (by omega)]
   rw [List.all_cons, isDig_ofNat (u % 10) (by omega)]; rfl
theorem decDigits_val (u : Nat) : valD (decDigits u) = u := by
 induction u using Nat.strongRecOn with
 | _ u ih =>
  rw [decDigits]
  split
  ·rename_i h
   simp only [valD, List.foldl_cons, List.foldl_nil, stepD]
   rw [ofNat_dig u h]; omega
  ·rename_i h
   have := ih (u / 10) (by omega)
   unfold valD at this ⊢
   rw [List.foldl_append, this]
   simp only [List.foldl_cons, List.foldl_nil, stepD]
   rw [ofNat_dig (u % 10) (by omega)]; omega
theorem decDigits_ne (u : Nat) : decDigits u ≠ [] := by
 rw [decDigits]
 split <;> simp
theorem decDigits_len (u k : Nat) (h : u < 10 ^ (k + 1)) : (decDigits u).length ≤ k + 1 := by
 induction k generalizing u with
 | zero =>
  rw [decDigits, dif_pos (by simpa using h)]; simp
 | succ k ih =>
  rw [decDigits]
  split
  ·simp
  ·rw [List.length_append]
   have := ih (u / 10) (by rw [Nat.pow_succ] at h; omega)
   simp only [List.length_cons, List.length_nil]; omega
theorem parse_dig : ∀ (l : List UInt8) (acc : Nat), l.all isDig = true → (acc + 1) * 10 ^ l.length ≤ 1000000000000000000 → parseUint10 acc l = .ok (l.foldl stepD acc)
 | [], acc, _, _ => rfl
 | c :: r, acc, ha, hb => by
  rw [List.all_cons, Bool.and_eq_true] at ha
  have hc : 48 ≤ c.toNat ∧ c.toNat ≤ 57 := by simpa [isDig] using ha.1
  have h1 : 0 < 10 ^ r.length := Nat.pow_pos (by omega)
  have h2 : (acc * 10 + (c.toNat - 48) + 1) * 10 ^ r.length ≤ 1000000000000000000 := by
   have h3 : (acc * 10 + (c.toNat - 48) + 1) ≤ (acc + 1) * 10 := by omega
   have h4 := Nat.mul_le_mul_right (10 ^ r.length) h3
   rw [List.length_cons, Nat.pow_succ, Nat.mul_comm (10 ^ r.length), ← Nat.mul_assoc] at hb
   omega
  have h5 : acc * 10 + (c.toNat - 48) + 1 ≤ 1000000000000000000 := Nat.le_trans (Nat.le_mul_of_pos_right _ h1) h2
  rw [parseUint10, if_pos hc, if_neg (by omega), if_neg (by omega), parse_dig r _ ha.2 h2]
  rfl
theorem valD_lt : ∀ (l : List UInt8) (acc : Nat), l.all isDig = true → l.foldl stepD acc < (acc + 1) * 10 ^ l.length
 | [], acc, _ => by simp
 | c :: r, acc, ha => by
  rw [List.all_cons, Bool.and_eq_true] at ha
  have hc : 48 ≤ c.toNat ∧ c.toNat ≤ 57 := by simpa [isDig] using ha.1
  have := valD_lt r (stepD acc c) ha.2
  have h3 : stepD acc c + 1 ≤ (acc + 1) * 10 := by unfold stepD; omega
  have h4 := Nat.mul_le_mul_right (10 ^ r.length) h3
  rw [List.length_cons, Nat.pow_succ, Nat.mul_comm (10 ^ r.length), ← Nat.mul_assoc, List.foldl_cons]
  omega
theorem atoi_dig (l : List UInt8) (hne : l ≠ []) (ha : l.all isDig = true) (hl : l.length ≤ 17) : atoiAll l = .ok (valD l) := by
 have hb : 10 ^ l.length ≤ 10 ^ 17 := Nat.pow_le_pow_right (by omega) hl
 have hp := parse_dig l 0 ha (by omega)
 have hv := valD_lt l 0 ha
 cases l with
 | nil => exact absurd rfl hne
 | cons c r =>
  have hc : 48 ≤ c.toNat ∧ c.toNat ≤ 57 := by
   rw [List.all_cons, Bool.and_eq_true] at ha
   simpa [isDig] using ha.1
  unfold atoiAll
  simp only
  rw [if_neg (by omega), parseMag, if_neg (by simp), hp]
  have e : List.foldl stepD 0 (c :: r) = valD (c :: r) := rfl
  rw [e] at hv ⊢
  simp only
  rw [if_neg (by omega), if_neg (by omega), if_neg (by omega)]
def idxI (s : List UInt8) : Int := match atoiAll s with
 | .ok n => if 0 ≤ n ∧ n ≤ 999 ∧ itoa n = s then n else -1
 | _ => -1
def idxS (s : List UInt8) : Int := if s = [] ∨ 3 < s.length then -1 else if s.all isDig then (if decDigits (valD s) = s then (valD s : Int) else -1) else -1
theorem idx_eq (s : List UInt8) : idxI s = idxS s := by
 unfold idxS
 split
 ·rename_i h
  unfold idxI
  split
  ·rename_i n hn
   split
   ·rename_i h2
    obtain ⟨h0, h9, h3⟩ := h2
    obtain ⟨u, rfl⟩ := Int.eq_ofNat_of_zero_le h0
    rw [itoa_nonneg] at h3
    have := decDigits_len u 2 (by omega)
    rw [h3] at this
    rcases h with h | h
    ·exact absurd (h3.trans h) (decDigits_ne u)
    ·omega
   ·rfl
  ·rfl
 ·rename_i h
  simp only [not_or] at h
  split
  ·rename_i ha
   have hat := atoi_dig s h.1 ha (by omega)
   have hv := valD_lt s 0 ha
   have hp : 10 ^ s.length ≤ 10 ^ 3 := Nat.pow_le_pow_right (by omega) (by omega)
   unfold idxI
   rw [hat]
   simp only
   have e : List.foldl stepD 0 s = valD s := rfl
   rw [e] at hv
   rw [itoa_nonneg]
   by_cases h2 : decDigits (valD s) = s
   ·rw [if_pos ⟨by omega, by omega, h2⟩, if_pos h2]
   ·rw [if_neg (fun x => h2 x.2.2), if_neg h2]
  ·rename_i ha
   unfold idxI
   split
   ·rename_i n hn
    split
    ·rename_i h2
     obtain ⟨h0, h9, h3⟩ := h2
     obtain ⟨u, rfl⟩ := Int.eq_ofNat_of_zero_le h0
     rw [itoa_nonneg] at h3
     rw [← h3, decDigits_all] at ha
     exact absurd rfl ha
    ·rfl
   ·rfl
theorem idxS_le (s : List UInt8) : -1 ≤ idxS s ∧ idxS s ≤ 999 := by
 rw [← idx_eq]
 unfold idxI
 split
 ·split
  ·omega
  ·omega
 ·omega
def ddig (u : Nat) : List UInt8 := if u = 0 then [] else decDigits u
theorem ddig_step (u : Nat) (h : u ≠ 0) : ddig u = ddig (u / 10) ++ [UInt8.ofNat (48 + u % 10)] := by
 unfold ddig
 rw [if_neg h, decDigits]
 split
 ·rename_i h2
  rw [if_pos (by omega), Nat.mod_eq_of_lt h2]; rfl
 ·rw [if_neg (by omega)]
end Go.Proofs.YtegcecnjmimbiaaDoor.X
namespace Go.Proofs.YtegcecnjmimbiaaDoor.X
open Go.RowKit Go.Sort
open Go.Lib (itoa decDigits atoiAll)
set_option linter.unusedVariables false
set_option linter.unusedSimpArgs false
open Ty
theorem itoa_zero : (⟨(itoa 0).toArray⟩ : ByteArray) = ⟨#[48]⟩ := by
 unfold itoa
 rw [if_neg (by omega), decDigits, dif_pos (by simp)]
 rfl
theorem ddig_len (u : Nat) (h : u ≤ 1000000000) : (ddig u).length ≤ 10 := by
 unfold ddig
 split
 ·simp
 ·exact decDigits_len u 9 (by omega)
theorem conv_one (W : World) (b : Int) (B : UInt8) (h : (B.toNat : Int) = b) : (convert 72 9 (.slice (some ⟨W.heap.size, 0, none⟩) 1 1)).run Tryd.prog (W.alloc (.cells #[.int .u8 b] 5)) = .ok (.string ⟨#[B]⟩) (W.alloc (.cells #[.int .u8 b] 5)) := by
 subst h
 refine run_convert_bytes_back (P := Tryd.prog) (W.alloc (.cells #[.int .u8 (B.toNat : Int)] 5)) 72 9 5 ⟨W.heap.size, 0, none⟩ 1 [B] (by kernel_rfl) (by kernel_rfl) (by kernel_rfl) (fun j hj => ?_)
 obtain rfl : j = 0 := by simpa using hj
 exact (Blk.new W #[.int .u8 (B.toNat : Int)] 5).cell 0 rfl
theorem dig_wrap (d : Nat) (h : d < 10) : wrap64 (48 + (d : Int)) % 256 = 48 + (d : Int) := by
 unfold wrap64; omega
theorem itoa_neg_ (n : Int) (h : n < 0) : (⟨(itoa n).toArray⟩ : ByteArray) = ⟨#[45]⟩ ++ ⟨(ddig n.natAbs).toArray⟩ := by
 unfold itoa ddig
 rw [if_pos h, if_neg (by omega)]
 apply ByteArray.ext
 simp
theorem itoa_pos_ (n : Int) (h : 0 < n) : itoa n = ddig n.natAbs := by
 unfold itoa ddig
 rw [if_neg (by omega), if_neg (by omega)]
 congr 1
 omega
theorem app_dig (u : Nat) (h : u ≠ 0) (s : ByteArray) (l : List UInt8) (hl : l = ddig u ++ s.data.toList) : l = ddig (u / 10) ++ ((⟨#[UInt8.ofNat (48 + u % 10)]⟩ : ByteArray) ++ s).data.toList := by
 rw [hl, ddig_step u h]; simp
theorem dig_neg (m : Int) (s : ByteArray) (l : List UInt8) (hm : m ≠ 0) (h : -1000000000 ≤ m ∧ m ≤ 0 ∧ l = ddig m.natAbs ++ s.data.toList) : ∃ (q r t b : Int) (B : UInt8), m.tdiv 10 = q ∧ m.tmod 10 = r ∧ ((r < 0 → wrap64 (-r) = t) ∧ (¬ r < 0 → r = t)) ∧ wrap64 q = q ∧ wrap64 (48 + t) % 256 = b ∧ (B.toNat : Int) = b ∧
  Hd ((-1000000000 ≤ q ∧ q ≤ 0 ∧ l = ddig q.natAbs ++ ((⟨#[B]⟩ : ByteArray) ++ s).data.toList) ∧ q.natAbs < m.natAbs) := by
 obtain ⟨h0, h1, h2⟩ := h
 obtain ⟨u, rfl⟩ : ∃ u : Nat, m = -(u : Int) := ⟨m.natAbs, by omega⟩
 have hqt : (-(u : Int)).tdiv 10 = -((u / 10 : Nat) : Int) := by rw [Int.neg_tdiv, Int.tdiv_eq_ediv_of_nonneg (by omega)]; omega
 have hrt : (-(u : Int)).tmod 10 = -((u % 10 : Nat) : Int) := by rw [Int.neg_tmod, Int.tmod_eq_emod_of_nonneg (by omega)]; omega
 have hU := app_dig u (by omega) s l (by rw [h2]; simp)
 refine ⟨_, _, ((u % 10 : Nat) : Int), _, UInt8.ofNat (48 + u % 10), hqt, hrt, ⟨fun h => by unfold wrap64; omega, fun h => by omega⟩, by unfold wrap64; omega, rfl, ?_, ⟨⟨by omega, by omega, ?_⟩, by omega⟩⟩
 ·rw [dig_wrap _ (by omega), ofNat_dig _ (by omega)]; omega
 ·rw [hU]; congr 2; omega
theorem dig_pos (m : Int) (s : ByteArray) (l : List UInt8) (hm : m ≠ 0) (h : 0 ≤ m ∧ m ≤ 1000000000 ∧ l = ddig m.natAbs ++ s.data.toList) : ∃ (q r b : Int) (B : UInt8), m.tdiv 10 = q ∧ m.tmod 10 = r ∧ ¬ r < 0 ∧ wrap64 q = q ∧ wrap64 (48 + r) % 256 = b ∧ (B.toNat : Int) = b ∧
  Hd ((0 ≤ q ∧ q ≤ 1000000000 ∧ l = ddig q.natAbs ++ ((⟨#[B]⟩ : ByteArray) ++ s).data.toList) ∧ q.natAbs < m.natAbs) := by
 obtain ⟨h0, h1, h2⟩ := h
 obtain ⟨u, rfl⟩ := Int.eq_ofNat_of_zero_le h0
 have hqt : (u : Int).tdiv 10 = ((u / 10 : Nat) : Int) := by rw [Int.tdiv_eq_ediv_of_nonneg (by omega)]; omega
 have hrt : (u : Int).tmod 10 = ((u % 10 : Nat) : Int) := by rw [Int.tmod_eq_emod_of_nonneg (by omega)]; omega
 have hU := app_dig u (by omega) s l (by rw [h2]; simp)
 refine ⟨_, _, _, UInt8.ofNat (48 + u % 10), hqt, hrt, by omega, by unfold wrap64; omega, rfl, ?_, ⟨⟨by omega, by omega, ?_⟩, by omega⟩⟩
 ·rw [dig_wrap _ (by omega), ofNat_dig _ (by omega)]; omega
 ·rw [hU]; rfl
set_option maxRecDepth 100000 in
theorem spec_l2Digits (n : Int) (w : World) (h0 : -1000000000 ≤ n) (h1 : n ≤ 1000000000) :
  Calls Tryd.prog 36 #[.int .i64 n] w fun e w' => e = .returned (.string ⟨(itoa n).toArray⟩) ∧ Below w.heap.size w w' := by
 go_enter Tryd.func36, Tryd.ntmps36
 by_cases hz : n = 0
 ·subst hz
  go_wp2_with fail
  go_ret
  exact ⟨by rw [itoa_zero]; rfl, Below.refl _ _⟩
 have HL := Hd.mk (ddig_len n.natAbs (by omega))
 have HI := Hd.mk (And.intro h0 h1); clear h0 h1
 by_cases hn : n < 0
 ·have HN := Hd.mk hn
  go_wp2_with fail
  go_loopw [0, 4, 5] (fun a o d wr => ∃ (m : Int) (s : ByteArray), a = .int .i64 m ∧ o = .string s ∧ Hd (-1000000000 ≤ m ∧ m ≤ 0 ∧ ddig n.natAbs = ddig m.natAbs ++ s.data.toList) ∧ Hd (Below w.heap.size w wr)) (fun a _ _ _ => (intOf a).natAbs)
  case atStart => exact ⟨n, ⟨#[]⟩, rfl, rfl, ⟨HI.out.1, by omega, by simp⟩, ⟨Below.refl _ _⟩⟩
  case round =>
   obtain ⟨m, s, rfl, rfl, HD, hB⟩ := hrel
   have hs : s.size ≤ 10 := by
    have h2 := congrArg List.length HD.out.2.2
    have h3 := HL.out
    rw [List.length_append, show s.data.toList.length = s.size by simp] at h2
    omega
   by_cases hm : m = 0
   ·subst hm
    go_wp2_with fail
    go_ret
    refine ⟨?_, hB.out⟩
    rw [itoa_neg_ n HN.out, HD.out.2.2]
    simp [ddig]
   ·obtain ⟨q, r, t, b, B, hqt, hrt, hw1, hw3, hw4, hb, HU⟩ := dig_neg m s _ hm HD.out
    have hc := conv_one wr b B hb; clear hb
    by_cases hr0 : r < 0
    ·have hw1 := hw1.1 hr0
     go_wp2_with fail
     rw [hw3]
     go_roundw
     case rel => exact ⟨q, _, rfl, rfl, ⟨HU.out.1⟩, ⟨below_alloc hB.out _⟩⟩
     case measure => simp only [intOf]; exact HU.out.2
    ·obtain rfl := hw1.2 hr0
     clear hw1
     go_wp2_with fail
     rw [hw3]
     go_roundw
     case rel => exact ⟨q, _, rfl, rfl, ⟨HU.out.1⟩, ⟨below_alloc hB.out _⟩⟩
     case measure => simp only [intOf]; exact HU.out.2
 ·have HN := Hd.mk hn
  go_wp2_with fail
  go_loopw [0, 4, 5] (fun a o d wr => ∃ (m : Int) (s : ByteArray), a = .int .i64 m ∧ o = .string s ∧ Hd (0 ≤ m ∧ m ≤ 1000000000 ∧ ddig n.natAbs = ddig m.natAbs ++ s.data.toList) ∧ Hd (Below w.heap.size w wr)) (fun a _ _ _ => (intOf a).natAbs)
  case atStart => exact ⟨n, ⟨#[]⟩, rfl, rfl, ⟨by omega, HI.out.2, by simp⟩, ⟨Below.refl _ _⟩⟩
  case round =>
   obtain ⟨m, s, rfl, rfl, HD, hB⟩ := hrel
   have hs : s.size ≤ 10 := by
    have h2 := congrArg List.length HD.out.2.2
    have h3 := HL.out
    rw [List.length_append, show s.data.toList.length = s.size by simp] at h2
    omega
   by_cases hm : m = 0
   ·subst hm
    go_wp2_with fail
    go_ret
    refine ⟨?_, hB.out⟩
    rw [itoa_pos_ n (by omega), HD.out.2.2]
    simp [ddig]
   ·obtain ⟨q, r, b, B, hqt, hrt, hr0, hw3, hw4, hb, HU⟩ := dig_pos m s _ hm HD.out
    have hc := conv_one wr b B hb; clear hb
    go_wp2_with fail
    rw [hw3]
    go_roundw
    case rel => exact ⟨q, _, rfl, rfl, ⟨HU.out.1⟩, ⟨below_alloc hB.out _⟩⟩
    case measure => simp only [intOf]; exact HU.out.2
end Go.Proofs.YtegcecnjmimbiaaDoor.X
namespace Go.Proofs.YtegcecnjmimbiaaDoor.X
open Go.RowKit Go.Sort
set_option linter.unusedVariables false
set_option linter.unusedSimpArgs false
open Ty
def atI (l : List Int) (k : Int) : Int := idxF (fun x => (k == x)) l
def atK (l : List Keyed) (k : Int) : Int := atI (l.map Keyed.key) k
theorem atI_found {l : List Int} {k : Int} {i : Nat} (hi : i < l.length) (h : (l.take i).all (fun x => !(k == x)) = true) (he : (k == l[i]) = true) : atI l k = i := idxF_found _ l i hi h he
theorem atI_none {l : List Int} {k : Int} (h : l.all (fun x => !(k == x)) = true) : atI l k = -1 := idxF_none _ l h
theorem C_takeK {α : Type} {d : Ty α} {w : World} {A : Option Addr} {xs : List α} (h : d.C w A xs) (q : Nat) : d.C w A (xs.take q) :=
 ⟨by have := h.1; rw [List.length_take]; omega, fun i x hx => h.2 i x (by
  rw [List.getElem?_take] at hx
  split at hx
  ·exact hx
  ·cases hx)⟩
set_option maxRecDepth 100000 in
theorem spec_l5At (A : Option Addr) (c : Nat) (l : List Int) (k : Int) (w : World) (hr : int.C w A l) :
  Calls Tryd.prog 34 #[.slice A l.length c, .int .i64 k] w fun e w' => e = .returned (.int .i64 (atI l k)) ∧ Below w.heap.size w w' := by
 have hm := hr.1
 have HC := Hd.mk hr; clear hr
 go_enter Tryd.func34, Tryd.ntmps34
 go_wp2
 go_loop [5] (fun i => ∃ j : Nat, j ≤ l.length ∧ i = .int .i64 j ∧ Hd ((l.take j).all (fun x => !(k == x)) = true)) (fun i => l.length - (intOf i).toNat)
 case atStart => exact ⟨0, Nat.zero_le _, rfl, ⟨rfl⟩⟩
 case round =>
  obtain ⟨j, hj, rfl, HA⟩ := hrel
  by_cases hlt : j < l.length
  ·obtain ⟨ad, rfl, x0⟩ := C_int_at HC.out (Below.refl _ _) j hlt
   have HA2 := Hd.mk (all_take (fun x => !(k == x)) l j hlt HA.out)
   by_cases hb : l[j] = k
   ·have hd : (l[j] == k) = true := by simpa using hb
    have Hb := Hd.mk (show atI l k = j from atI_found hlt HA.out (by simpa using hb.symm))
    have Hk := Hd.mk hb; clear hb
    go_wp2_with fail
    go_ret
    exact ⟨by rw [Hb.out]; rfl, Below.refl _ _⟩
   ·have hd : (l[j] == k) = false := by simpa using hb
    have Hb := Hd.mk (show (k == l[j]) = false by simpa using fun h => hb h.symm)
    clear hb
    go_wp2_with fail
    go_round
    case rel => exact ⟨j + 1, by omega, by go_num, ⟨by rw [HA2.out, Hb.out]; rfl⟩⟩
    case measure => simp [intOf]; omega
  ·obtain rfl : j = l.length := by omega
   go_wp2_with fail
   go_ret
   have := HA.out
   rw [List.take_length] at this
   exact ⟨by rw [atI_none this]; rfl, Below.refl _ _⟩
set_option maxRecDepth 100000 in
theorem slices_Index_int (A : Option Addr) (c : Nat) (l : List Int) (k : Int) (w : World) (hr : int.C w A l) :
  Calls Tryd.prog 55 #[.slice A l.length c, .int .i64 k] w fun e w' => e = .returned (.int .i64 (atI l k)) ∧ Below w.heap.size w w' := by
 have hm := hr.1
 have HC := Hd.mk hr; clear hr
 go_enter Tryd.func55, Tryd.ntmps55
 go_wp2
 go_loop [8] (fun i => ∃ j : Nat, j ≤ l.length ∧ i = .int .i64 j ∧ Hd ((l.take j).all (fun x => !(k == x)) = true)) (fun i => l.length - (intOf i).toNat)
 case atStart => exact ⟨0, Nat.zero_le _, rfl, ⟨rfl⟩⟩
 case round =>
  obtain ⟨j, hj, rfl, HA⟩ := hrel
  by_cases hlt : j < l.length
  ·obtain ⟨ad, rfl, x0⟩ := C_int_at HC.out (Below.refl _ _) j hlt
   have HA2 := Hd.mk (all_take (fun x => !(k == x)) l j hlt HA.out)
   by_cases hb : k = l[j]
   ·have hd : (k == l[j]) = true := by simpa using hb
    have Hb := Hd.mk (show atI l k = j from atI_found hlt HA.out hd)
    have Hk := Hd.mk hb; clear hb
    go_wp2_with fail
    go_ret
    exact ⟨by rw [Hb.out]; rfl, Below.refl _ _⟩
   ·have hd : (k == l[j]) = false := by simpa using hb
    have Hb := Hd.mk hd
    clear hb
    go_wp2_with fail
    go_round
    case rel => exact ⟨j + 1, by omega, by go_num, ⟨by rw [HA2.out, Hb.out]; rfl⟩⟩
    case measure => simp [intOf]; omega
  ·obtain rfl : j = l.length := by omega
   go_wp2_with fail
   go_ret
   have := HA.out
   rw [List.take_length] at this
   exact ⟨by rw [atI_none this]; rfl, Below.refl _ _⟩
set_option maxRecDepth 100000 in
theorem slices_Contains_int (A : Option Addr) (c : Nat) (l : List Int) (k : Int) (w : World) (hr : int.C w A l) :
  Calls Tryd.prog 43 #[.slice A l.length c, .int .i64 k] w fun e w' => e = .returned (.bool (decide (0 ≤ atI l k))) ∧ Below w.heap.size w w' := by
 have HC := Hd.mk hr; clear hr
 go_enter Tryd.func43, Tryd.ntmps43
 go_wp2_with fail
 refine (slices_Index_int _ _ l k w HC.out).mono ?_
 rintro e w1 ⟨rfl, hX⟩
 have HX := Hd.mk hX; clear hX
 go_wp2_with fail
 go_ret
 exact ⟨rfl, HX.out⟩
set_option maxRecDepth 100000 in
theorem impl_keyAt1 (a b n : Int) (s : ByteArray) (u v : Value) (p : Nat) (key : Int) (w : World) (hp : w.cell? ⟨p, 0, none⟩ = some (.int .i64 key)) :
  Calls Tryd.prog 45 #[.agg #[.int .i64 a, .int .i64 b, .int .i64 n, .string s, u, v], .pointer (some ⟨p, 0, none⟩)] w fun e w' => e = .returned (.bool (a == key)) ∧ Below w.heap.size w w' := by
 go_enter Tryd.func45, Tryd.ntmps45
 have hlt := World.block_lt_of_cell? w _ hp
 have hlt2 : p < w.heap.size := hlt
 have hne : ¬ p = w.heap.size := by omega
 have hp2 := cell_below (below_alloc (Below.refl w.heap.size w) (.cells #[.int .i64 a, .int .i64 b, .int .i64 n, .string s, u, v] 50)) hp
 go_wp2_with fail
 go_ret
 exact ⟨rfl, below_alloc (Below.refl _ _) _⟩
end Go.Proofs.YtegcecnjmimbiaaDoor.X
namespace Go.Proofs.YtegcecnjmimbiaaDoor.X
open Go.Lib
set_option linter.unusedVariables false
set_option linter.unusedSimpArgs false

def q1 (b : UInt8) : List UInt8 := if b = 34 ∨ b = 92 then [92, b] else [b]
def quoteL (s : List UInt8) : List UInt8 := 34 :: (s.flatMap q1 ++ [34])
theorem quoteL_length (s : List UInt8) : (quoteL s).length ≤ 2 * s.length + 2 := by
 have h : (s.flatMap q1).length ≤ 2 * s.length := by
  induction s with
  | nil => simp
  | cons b l ih =>
   rw [List.flatMap_cons, List.length_append]
   have : (q1 b).length ≤ 2 := by unfold q1; split <;> simp
   simp only [List.length_cons]; omega
 unfold quoteL
 simp only [List.length_cons, List.length_append, List.length_nil]; omega
def pieceE (k5 : Bool) (n : ByteArray) (t : List UInt8) : List UInt8 := if k5 then quoteL n.data.toList ++ 58 :: t else t
def piecesE (enc : J → List UInt8) (j : J) : List (List UInt8) := (List.range j.list.length).map (fun i => pieceE (j.kind == 5) (j.names.getD i ByteArray.empty) (enc (j.list.getD i J.null)))
def encJ : Nat → J → List UInt8
 | 0, _ => []
 | k + 1, j => if j.kind = 0 then [110, 117, 108, 108] else if j.kind = 1 then (if j.n = 1 then [116, 114, 117, 101] else [102, 97, 108, 115, 101]) else if j.kind = 2 then itoa j.n else if j.kind = 3 then quoteL j.s.data.toList else
  if j.kind = 4 then 91 :: (join (piecesE (encJ k) j) [44] ++ [93]) else 123 :: (join (piecesE (encJ k) j) [44] ++ [125])
theorem piecesE_length (enc : J → List UInt8) (j : J) : (piecesE enc j).length = j.list.length := by simp [piecesE]
theorem piecesE_take (enc : J → List UInt8) (j : J) (i : Nat) (hi : i < j.list.length) : (piecesE enc j).take (i + 1) = (piecesE enc j).take i ++ [pieceE (j.kind == 5) (j.names.getD i ByteArray.empty) (enc j.list[i])] := by
 have h : i < (piecesE enc j).length := by rw [piecesE_length]; exact hi
 rw [List.take_succ_eq_append_getElem h]
 congr 2
 simp [piecesE, List.getD_eq_getElem?_getD, hi]
theorem join_snoc (xs : List (List UInt8)) (y sep : List UInt8) : join (xs ++ [y]) sep = if xs = [] then y else join xs sep ++ sep ++ y := by
 cases xs with
 | nil => simp [join_one]
 | cons x r =>
  rw [if_neg (by simp), List.cons_append, join_cons, join_cons]
  simp [joinTail]
def lenE (l : List (List UInt8)) : Nat := lens l + l.length
theorem join_le (l : List (List UInt8)) : (join l [44]).length ≤ lenE l := by
 cases l with
 | nil => simp [join_nil, lenE, lens]
 | cons x r =>
  rw [join_length]
  unfold lenE
  simp only [List.length_cons, List.length_nil]; omega
theorem lenE_take (l : List (List UInt8)) (i : Nat) : lenE (l.take i) ≤ lenE l := by
 unfold lenE
 have := lens_take_le l i
 have : (l.take i).length ≤ l.length := by simp; omega
 omega
theorem itoa_len (n : Int) (h : -1000000000 ≤ n ∧ n ≤ 1000000000) : (itoa n).length ≤ 21 := itoa_length_le n (by omega) (by omega)
theorem sizeN_own {k : Nat} {j : J} (h : sizeN (k + 1) j ≤ 400) : ownB j = true ∧ sizeN (k + 1) j = 1 + sumZ (sizeN k) j.list := by
 unfold sizeN at h ⊢
 split at h
 ·rename_i h1; rw [if_pos h1]; exact ⟨h1.1, rfl⟩
 ·omega
theorem sizeN_part {k : Nat} {j : J} (h : sizeN (k + 1) j ≤ 400) (i : Nat) (hi : i < j.list.length) : sizeN k j.list[i] ≤ 400 := by
 have h1 := (sizeN_own h).2
 have h2 := sumZ_take (sizeN k) j.list i hi
 have h3 := sumZ_le (sizeN k) (sizeN_pos k) j.list (i + 1)
 have h4 := sumZ_pos (sizeN k) (sizeN_pos k) (j.list.take i)
 omega
theorem nameStep_60 {l : List ByteArray} (h : namesB l = true) (i : Nat) (hi : i < l.length) : (l.getD i ByteArray.empty).size ≤ 60 := by
 unfold namesB at h
 rw [List.all_eq_true] at h
 have := h i (List.mem_range.2 hi)
 unfold nameStep textB at this
 simp only [Bool.and_eq_true, decide_eq_true_eq] at this
 omega
theorem own_names {j : J} (h : ownB j = true) : (∀ i, i < j.names.length → (j.names.getD i ByteArray.empty).size ≤ 60) ∧ (j.kind = 5 → j.names.length = j.list.length) ∧ (j.kind ≠ 5 → j.names.length = 0) ∧ (j.list.length ≠ 0 → j.kind = 4 ∨ j.kind = 5) ∧ 0 ≤ j.kind ∧ j.kind ≤ 5 ∧ (j.kind = 1 → 0 ≤ j.n ∧ j.n ≤ 1) ∧ (j.kind = 2 → -1000000000 ≤ j.n ∧ j.n ≤ 1000000000) ∧ (j.kind = 3 → j.s.size ≤ 60) := by
 unfold ownB at h
 split at h
 ·cases h
 rename_i h1
 split at h
 ·cases h
 rename_i h2
 split at h
 ·cases h
 split at h
 ·cases h
 simp only [Bool.and_eq_true, decide_eq_true_eq, bne_iff_ne, not_and, Classical.not_not] at h1 h2
 have hl : j.list.length ≠ 0 → j.kind = 4 ∨ j.kind = 5 := fun h3 => by
  by_cases h4 : j.kind = 4
  ·exact .inl h4
  ·exact .inr (h1 (by omega) h4)
 have hn : j.kind ≠ 5 → j.names.length = 0 := fun h3 => by
  rcases Nat.eq_zero_or_pos j.names.length with h4 | h4
  ·exact h4
  ·exact absurd (h2 h4) h3
 split at h
 ·rename_i hk
  have hk1 : j.kind = 1 := by simpa using hk
  simp only [inB, Bool.and_eq_true, decide_eq_true_eq] at h
  have h0 := hn (by omega)
  exact ⟨fun i hi => by omega, fun e => by omega, hn, hl, by omega, by omega, fun _ => h, fun e => by omega, fun e => by omega⟩
 split at h
 ·rename_i hk
  have hk1 : j.kind = 2 := by simpa using hk
  simp only [isNumB, inB, Bool.and_eq_true, decide_eq_true_eq] at h
  have h0 := hn (by omega)
  exact ⟨fun i hi => by omega, fun e => by omega, hn, hl, by omega, by omega, fun e => by omega, fun _ => h, fun e => by omega⟩
 split at h
 ·rename_i hk
  have hk1 : j.kind = 3 := by simpa using hk
  simp only [textB, Bool.and_eq_true, decide_eq_true_eq] at h
  have h0 := hn (by omega)
  exact ⟨fun i hi => by omega, fun e => by omega, hn, hl, by omega, by omega, fun e => by omega, fun e => by omega, fun _ => by omega⟩
 split at h
 ·rename_i hk
  have hk1 : j.kind = 5 := by simpa using hk
  simp only [Bool.and_eq_true, beq_iff_eq] at h
  exact ⟨fun i hi => nameStep_60 h.2 i hi, fun e => by omega, hn, hl, by omega, by omega, fun e => by omega, fun e => by omega, fun e => by omega⟩
 ·simp only [Bool.or_eq_true, beq_iff_eq] at h
  have h0 := hn (by omega)
  exact ⟨fun i hi => by omega, fun e => by omega, hn, hl, by omega, by omega, fun e => by omega, fun e => by omega, fun e => by omega⟩
theorem lenE_snoc (l : List (List UInt8)) (x : List UInt8) : lenE (l ++ [x]) = lenE l + x.length + 1 := by
 simp [lenE, lens]; omega
theorem pieceE_length (b : Bool) (n : ByteArray) (t : List UInt8) (h : n.size ≤ 60) : (pieceE b n t).length ≤ t.length + 123 := by
 have := quoteL_length n.data.toList
 rw [show n.data.toList.length = n.size by simp] at this
 unfold pieceE
 split
 ·simp only [List.length_append, List.length_cons]; omega
 ·omega
theorem lenE_pieces {k : Nat} {j : J} (h : sizeN (k + 1) j ≤ 400) (ih : ∀ x, sizeN k x ≤ 400 → ((encJ k x).length : Int) + 124 ≤ 246 * sizeN k x) : ∀ i, i ≤ j.list.length → (lenE ((piecesE (encJ k) j).take i) : Int) ≤ 246 * sumZ (sizeN k) (j.list.take i)
 | 0, _ => by simp [lenE, lens, sumZ]
 | i + 1, hi => by
  have h1 := lenE_pieces h ih i (by omega)
  have h2 := ih j.list[i] (sizeN_part h i (by omega))
  have hn : (j.names.getD i ByteArray.empty).size ≤ 60 := by
   by_cases hl : i < j.names.length
   ·exact (own_names (sizeN_own h).1).1 i hl
   ·rw [List.getD_eq_getElem?_getD, List.getElem?_eq_none (by omega)]; simp
  have h3 := pieceE_length (j.kind == 5) (j.names.getD i ByteArray.empty) (encJ k j.list[i]) hn
  rw [piecesE_take _ _ i (by omega), lenE_snoc, sumZ_take _ _ i (by omega)]
  omega
theorem encJ_length : ∀ (k : Nat) (j : J), sizeN k j ≤ 400 → ((encJ k j).length : Int) + 124 ≤ 246 * sizeN k j
 | 0, j, h => by simp [sizeN] at h
 | k + 1, j, h => by
  have ho := own_names (sizeN_own h).1
  have hp := sumZ_pos (sizeN k) (sizeN_pos k) j.list
  rw [(sizeN_own h).2]
  unfold encJ
  split
  ·simp; omega
  split
  ·split <;> (simp; omega)
  split
  ·rename_i h2
   have := itoa_len j.n (ho.2.2.2.2.2.2.2.1 h2)
   omega
  split
  ·rename_i h3
   have := quoteL_length j.s.data.toList
   have h4 := ho.2.2.2.2.2.2.2.2 h3
   rw [show j.s.data.toList.length = j.s.size by simp] at this
   omega
  have h5 := lenE_pieces h (fun x hx => encJ_length k x hx) j.list.length (Nat.le_refl _)
  rw [List.take_length, show (piecesE (encJ k) j).take j.list.length = piecesE (encJ k) j from List.take_of_length_le (by rw [piecesE_length]; exact Nat.le_refl _)] at h5
  have h6 := join_le (piecesE (encJ k) j)
  split <;> (simp only [List.length_cons, List.length_append, List.length_nil]; omega)
end Go.Proofs.YtegcecnjmimbiaaDoor.X
namespace Go.Proofs.YtegcecnjmimbiaaDoor.X
open Go.RowKit Go.Sort
set_option linter.unusedVariables false
set_option linter.unusedSimpArgs false
open Ty
def nameAt (l : List ByteArray) (s : ByteArray) : Int := idxF (fun x => s.toList == x.toList) l
def field (j : J) (s : ByteArray) : J := if jsonOk j && decide (0 ≤ nameAt j.names s) then j.list.getD (nameAt j.names s).toNat J.null else J.null
def hasField (j : J) (s : ByteArray) : Bool := jsonOk j && decide (0 ≤ nameAt j.names s)
theorem idxF_cases2 {α : Type} (p : α → Bool) (l : List α) : idxF p l = -1 ∨ (idxF p l = (l.findIdx p : Int) ∧ l.findIdx p < l.length) := by
 unfold idxF
 by_cases h : l.findIdx p < l.length
 ·exact .inr ⟨if_pos h, h⟩
 ·exact .inl (if_neg h)
theorem nameAt_lt (l : List ByteArray) (s : ByteArray) (q : Nat) (h : nameAt l s = q) : q < l.length := by
 rcases idxF_cases2 (fun x : ByteArray => s.toList == x.toList) l with h1 | ⟨h1, h2⟩
 ·unfold nameAt at h; omega
 ·unfold nameAt at h; omega
theorem jsonOk_own (x : J) (h : jsonOk x = true) : ownB x = true := by
 unfold jsonOk at h
 have h := of_decide_eq_true h
 unfold sizeN at h
 cases hb : ownB x
 ·rw [hb] at h; simp at h
 ·rfl
theorem ownB_names (x : J) (h : ownB x = true) : (x.kind = 5 ∧ x.names.length = x.list.length) ∨ x.names.length = 0 := by
 rcases Nat.eq_zero_or_pos x.names.length with h0 | hn
 ·exact .inr h0
 ·left
  unfold ownB at h
  split at h
  ·cases h
  ·split at h
   ·cases h
   ·rename_i h1 h2
    have hk : x.kind = 5 := by simpa [hn] using h2
    refine ⟨hk, ?_⟩
    rw [hk] at h
    split at h
    ·cases h
    ·split at h
     ·cases h
     ·simp at h
      omega
theorem jsonOk_names (x : J) (h : jsonOk x = true) {q : Nat} (hq : q < x.names.length) : q < x.list.length := by
 rcases ownB_names x (jsonOk_own x h) with ⟨_, h1⟩ | h1 <;> omega
theorem nameAt_none (x : J) (s : ByteArray) (h : jsonOk x = true) (hk : (x.kind != 5) = true) : nameAt x.names s = -1 := by
 rcases ownB_names x (jsonOk_own x h) with ⟨h1, _⟩ | h1
 ·rw [h1] at hk; simp at hk
 ·rw [List.eq_nil_of_length_eq_zero h1]; rfl
theorem bulkL_congr {α : Type} (b c : α → Nat) (l : List α) (h : ∀ x ∈ l, b x = c x) : bulkL b l = bulkL c l := by
 induction l with
 | nil => rfl
 | cons x l ih => simp only [bulkL]; rw [h x (by simp), ih (fun y hy => h y (by simp [hy]))]
theorem C_all {α : Type} {d : Ty α} {w : World} {A : Option Addr} {l : List α} (h : d.C w A l) {x : α} (hx : x ∈ l) : ∃ cs, d.K w x cs := by
 obtain ⟨i, hi⟩ := List.mem_iff_getElem?.1 hx
 obtain ⟨ad, cs, _, hk, _⟩ := h.2 i x hi
 exact ⟨cs, hk⟩
theorem bulkJ_fuel : ∀ (m : Nat) (w : World) (x : J) (cs : List Value), (tJ m).K w x cs → bulkJ (m + 1) x = bulkJ m x
 | 0, _, _, _, hk => hk.elim
 | m + 1, w, x, cs, hk => by
  obtain ⟨A1, c1, A2, c2, rfl, _, ⟨_, hC⟩, _⟩ := tJ_K.1 hk
  have h : bulkL (bulkJ (m + 1)) x.list = bulkL (bulkJ m) x.list := bulkL_congr _ _ _ (fun y hy => by
   obtain ⟨cs', hk'⟩ := C_all hC hy
   exact bulkJ_fuel m w y cs' hk')
  show x.s.size + (x.list.length + bulkL (bulkJ (m + 1)) x.list) + _ = x.s.size + (x.list.length + bulkL (bulkJ m) x.list) + _
  rw [h]
theorem bulk_field {m : Nat} {w : World} {j : J} {cs : List Value} (hk : (tJ (m + 1)).K w j cs) (s : ByteArray) : bulkJ (m + 1) (field j s) ≤ bulkJ (m + 1) j := by
 unfold field
 split
 ·obtain ⟨A1, c1, A2, c2, rfl, _, ⟨_, hC⟩, _⟩ := tJ_K.1 hk
  rcases Nat.lt_or_ge (nameAt j.names s).toNat j.list.length with h | h
  ·have e : j.list.getD (nameAt j.names s).toNat J.null = j.list[(nameAt j.names s).toNat] := by
    rw [List.getD_eq_getElem?_getD, List.getElem?_eq_getElem h]; rfl
   rw [e]
   have hx := List.getElem_mem h
   obtain ⟨cs', hk'⟩ := C_all hC hx
   rw [bulkJ_fuel m w _ cs' hk']
   have := bulkL_mem (bulkJ m) hx
   show _ ≤ j.s.size + (j.list.length + bulkL (bulkJ m) j.list) + _
   omega
  ·have e : j.list.getD (nameAt j.names s).toNat J.null = J.null := by
    rw [List.getD_eq_getElem?_getD, List.getElem?_eq_none h]; rfl
   rw [e]
   show 0 + (0 + 0) + (0 + 0) ≤ _
   omega
 ·show 0 + (0 + 0) + (0 + 0) ≤ _
  omega
def underL (s : ByteArray) (l : List JOp) : List JOp := l.map (fun o => ⟨o.kind, s :: o.way, o.value⟩)
theorem underL_append (s : ByteArray) (l : List JOp) (x : JOp) : underL s (l ++ [x]) = underL s l ++ [⟨x.kind, s :: x.way, x.value⟩] := by simp [underL]
theorem cnt_under (m : Nat) (s : ByteArray) (l : List JOp) : bulkL (cnOp m) (underL s l) = bulkL (cnOp m) l + l.length := by
 induction l with
 | nil => rfl
 | cons x l ih =>
  have e : underL s (x :: l) = ⟨x.kind, s :: x.way, x.value⟩ :: underL s l := rfl
  rw [e]
  simp only [bulkL, ih, cnOp, List.length_cons]
  omega
theorem cnt_opsLen (m : Nat) (l : List JOp) : l.length ≤ bulkOpS m l := by simp only [bulkOpS]; omega
theorem R_one' {W0 : World} {n : Nat} (s : ByteArray) (hs : s.size ≤ 9223372036854775807) (hn : W0.heap.size = n) : str.R 9 (W0.alloc (.cells #[.string s] 9)) (fun k => k = n) (.slice (some ⟨n, 0, none⟩) 1 1) [s] := by
 subst hn
 refine R_block (xs := [s]) (cap := 1) (heap_alloc_new W0 _) rfl (Nat.le_refl _) (by omega) rfl (fun _ => 0) (fun i x h => ?_)
 rcases i with _ | i
 ·simp at h
  subst h
  exact ⟨rfl, hs⟩
 ·simp at h
theorem append_oneN {P : Program} {ops : Array Oper} {rest : List Oper} {o : Oper} {a : Act} {Q : Exit → Act → World → Prop} {α : Type} (d : Ty α) {W : World} {n : Nat} (hn : W.heap.size = n) (hgd : o.guard = none) (s x : Operand) (t e : TypeId) (z : Value) (bytes : Nat)
  (ho : o.op = .call { callee := .builtin .append, args := #[s, x], argTypes := #[t, t] })
  (ht : P.underlying t = some (.slice e)) (hinfo : (P.info? e).map (fun i => (i.zero, i.size, i.bytes)) = some (some z, d.sz, bytes)) (hz : z.cells.size = d.sz) (hsz : 0 < d.sz) (hb0 : 0 < bytes)
  {S S' T : Nat → Prop} {v : Value} {xs : List α} (y : α) (cs : List Value)
  (hs : a.eval s = v) (hx : a.eval x = .slice (some ⟨n, 0, none⟩) 1 1) (HR : d.R e W S v xs) (hO : d.O W T y cs)
  (hST : ∀ k, T k → k < W.heap.size → ¬ S k) (hS : ∀ k, S k → S' k) (hT : ∀ k, T k → S' k) (hnew : ∀ k, n ≤ k → S' k)
  (hbytes : (xs.length + 1) * bytes ≤ 140737488355328)
  (h : ∀ v1 w1, d.R e w1 S' v1 (xs ++ [y]) → Fr W w1 S → wpList P ops Q rest (a.put o.dst v1) w1) :
  wpList P ops Q (o :: rest) a (W.alloc (.cells cs.toArray e)) := by
 subst hn
 exact append_one d hgd s x t e z bytes ho ht hinfo hz hsz hb0 y cs hs hx HR hO hST hS hT hnew hbytes h
theorem store_blk {P : Program} {ops : Array Oper} {rest : List Oper} {o : Oper} {a : Act} {w : World} {Q : Exit → Act → World → Prop} (hgd : o.guard = none) (ty : TypeId) (x y : Operand) (ho : o.op = .store ty x y)
  (g : Nat) (cells : Array Value) (hx : a.eval x = .pointer (some ⟨g, 0, none⟩)) (hy : a.eval y = .agg cells) {t : TypeId} {old : Array Value} (b : Blk w g old t) (hi : (P.info? ty).map (·.size) = some cells.size)
  (hold : old.size = cells.size) (h1 : cells.all (·.oneCell') = true)
  (h : ∀ W, Blk W g cells t → Fr w W (fun k => k = g) → W.heap.size = w.heap.size → wpList P ops Q rest (a.put o.dst undef) W) : wpList P ops Q (o :: rest) a w := by
 refine wpList_store_row hgd ty x y ho g cells hx hy t old b hi hold h1 (h _ ?_ ?_ ?_)
 ·show (w.setRow g cells).heap[g]? = _
  unfold World.setRow
  simp [Array.getElem?_modify, show w.heap[g]? = some (.cells old t (0, 0)) from b]
 ·refine ⟨rfl, rfl, rfl, by simp [World.setRow], fun k hk hn => ?_⟩
  unfold World.setRow
  have hn : ¬ k = g := hn
  rw [Array.getElem?_modify, if_neg (fun e : g = k => hn e.symm)]
 ·simp [World.setRow]
theorem info7 : (Tryd.prog.info? 53).map (·.size) = some 7 := by kernel_rfl
theorem Fr.box7 (w : World) (g : Nat) (a0 a1 a2 a3 a4 a5 a6 : Value) {o : Obj} : Fr w ((((((((w.setCell ⟨g, 0, none⟩ a0).setCell ⟨g, 1, none⟩ a1).setCell ⟨g, 2, none⟩ a2).setCell ⟨g, 3, none⟩ a3).setCell ⟨g, 4, none⟩ a4).setCell ⟨g, 5, none⟩ a5).setCell ⟨g, 6, none⟩ a6).alloc o) (fun k => k = g) :=
 Fr.alloc (by
  refine Fr.setCell (S := fun k => k = g) ?_ _ (fun _ => rfl) _
  refine Fr.setCell (S := fun k => k = g) ?_ _ (fun _ => rfl) _
  refine Fr.setCell (S := fun k => k = g) ?_ _ (fun _ => rfl) _
  refine Fr.setCell (S := fun k => k = g) ?_ _ (fun _ => rfl) _
  refine Fr.setCell (S := fun k => k = g) ?_ _ (fun _ => rfl) _
  refine Fr.setCell (S := fun k => k = g) ?_ _ (fun _ => rfl) _
  refine Fr.setCell (S := fun k => k = g) ?_ _ (fun _ => rfl) _
  exact Fr.refl _ _) o
end Go.Proofs.YtegcecnjmimbiaaDoor.X
namespace Go.Proofs.YtegcecnjmimbiaaDoor.X
open Go.RowKit Go.Sort
set_option linter.unusedVariables false
set_option linter.unusedSimpArgs false
open Ty
set_option maxHeartbeats 1000000 in
set_option maxRecDepth 100000 in
theorem slices_IndexFunc_key {w0 : World} {m : Nat} (A : Option Addr) (c : Nat) (l : List Keyed) (p : Nat) (key : Int) (w : World) (hr : (tKey w0 m).C w A l) (hp : w.cell? ⟨p, 0, none⟩ = some (.int .i64 key)) :
    Calls Tryd.prog 44 #[.slice A l.length c, .func (.func 45) #[] #[.pointer (some ⟨p, 0, none⟩)]] w fun e w' => e = .returned (.int .i64 (atK l key)) ∧ Below w.heap.size w w' := by
  have hm := hr.1
  have HC := Hd.mk hr; clear hr
  have HP := Hd.mk hp; clear hp
  go_enter Tryd.func44, Tryd.ntmps44
  go_wp2
  go_loopw [8] (fun i wr => ∃ j : Nat, j ≤ l.length ∧ i = .int .i64 j ∧ Hd (((l.map Keyed.key).take j).all (fun x => !(key == x)) = true) ∧ Hd (Below w.heap.size w wr)) (fun i _ => l.length - (intOf i).toNat)
  case atStart => exact ⟨0, Nat.zero_le _, rfl, ⟨rfl⟩, ⟨Below.refl _ _⟩⟩
  case round =>
    obtain ⟨j, hj, rfl, HA, hB⟩ := hrel
    by_cases hlt : j < l.length
    · obtain ⟨ad, A1, c1, A2, c2, rfl, hK, x0, x1, x2, x3, x4, x5⟩ := tKey_C HC.out hB.out j hlt
      have hlm : j < (l.map Keyed.key).length := by simpa using hlt
      have hgm : (l.map Keyed.key)[j] = l[j].key := by simp
      have HA2 := Hd.mk (all_take (fun x => !(key == x)) (l.map Keyed.key) j hlm HA.out)
      have HK := Hd.mk hK; clear hK
      go_wp2_with fail
      clear x0 x1 x2 x3 x4 x5
      refine (impl_keyAt1 _ _ _ _ _ _ p key wr (cell_below hB.out HP.out)).mono ?_
      rintro e w1 ⟨rfl, hX⟩
      have hB := hB.th hX; clear hX
      cases hb : (l[j].key == key)
      · have Hb := Hd.mk (show (key == l[j].key) = false by have hb : ¬ l[j].key = key := by simpa using hb
                                                            simpa using fun h => hb h.symm)
        clear hb
        go_wp2_with fail
        go_roundw
        case rel => exact ⟨j + 1, by omega, by go_num, ⟨by rw [HA2.out, hgm, Hb.out]; rfl⟩, hB⟩
        case measure => simp [intOf]; omega
      · have Hb := Hd.mk (show atK l key = j from atI_found hlm HA.out (by rw [hgm]; have hb : l[j].key = key := by simpa using hb
                                                                           simpa using hb.symm))
        clear hb
        go_wp2_with fail
        go_ret
        exact ⟨by rw [Hb.out]; rfl, hB.out⟩
    · obtain rfl : j = l.length := by omega
      go_wp2_with fail
      go_ret
      have := HA.out
      rw [List.take_of_length_le (by simp)] at this
      exact ⟨by rw [show atK l key = -1 from atI_none this]; rfl, hB.out⟩
set_option maxRecDepth 100000 in
theorem impl_keyAt {w0 : World} {m : Nat} (A : Option Addr) (c : Nat) (l : List Keyed) (key : Int) (w : World) (hr : (tKey w0 m).C w A l) :
    Calls Tryd.prog 21 #[.slice A l.length c, .int .i64 key] w fun e w' => e = .returned (.int .i64 (atK l key)) ∧ Below w.heap.size w w' := by
  have HC := Hd.mk hr; clear hr
  go_enter Tryd.func21, Tryd.ntmps21
  have hmf : ∀ (fn : Fn) (first cap : Array Value) (w : World), (Instr.makeFunc fn first cap).run Tryd.prog w = .ok (.func fn first cap) w := fun _ _ _ _ => rfl
  go_wp2_with fail
  refine (slices_IndexFunc_key _ _ l w.heap.size key _ (C_below HC.out (below_alloc (Below.refl _ _) _)) ((Blk.new w #[.int .i64 key] 3).cell 0 rfl)).mono ?_
  rintro e w1 ⟨rfl, hX⟩
  have hB := Hd.mk (below_then (below_alloc (Below.refl _ _) _) hX); clear hX
  go_wp2_with fail
  go_ret
  exact ⟨rfl, hB.out⟩
def numS (n : Int) : ByteArray := ⟨(Lib.itoa n).toArray⟩
theorem numS_size (n : Int) (h0 : -1000000000 ≤ n) (h1 : n ≤ 1000000000) : (numS n).size ≤ 21 := by
  have := itoa_len n ⟨h0, h1⟩
  show (Lib.itoa n).toArray.size ≤ 21
  simpa using this
set_option maxRecDepth 100000 in
theorem impl_wayOf (n : Int) (w : World) (h0 : -1000000000 ≤ n) (h1 : n ≤ 1000000000) (hT : EnvT w) :
    Calls Tryd.prog 22 #[.int .i64 n] w fun e w' => ∃ v, e = .returned v ∧ str.R 9 w' (fun k => w.heap.size ≤ k) v [numS n] ∧ Below w.heap.size w w' := by
  have HT := Hd.mk hT; clear hT
  go_enter Tryd.func22, Tryd.ntmps22
  go_wp2_with fail
  refine (Tryd.strconv_Itoa n (by omega) (by omega) _ HT.out).mono ?_
  rintro e w1 ⟨rfl, hX⟩
  have hB := Hd.mk (show Below w.heap.size w w1 by
    obtain ⟨k, os, rfl⟩ := hX
    exact Go.Lib.below_grow _ _ (Nat.le_refl _) k os); clear hX
  obtain ⟨t, ht⟩ : ∃ t : ByteArray, t = ⟨(Lib.itoa n).toArray⟩ := ⟨_, rfl⟩
  rw [← ht]
  have HN := Hd.mk (show t = numS n from ht); clear ht
  go_wp2_with fail
  go_ret
  refine ⟨_, rfl, ?_, below_alloc hB.out _⟩
  have hsz := numS_size n h0 h1
  rw [← HN.out]
  rw [← HN.out] at hsz
  exact R_mono (fun k hk => by have hk : k = w1.heap.size := hk; have := hB.out.size; omega) (R_one' t (by omega) rfl)
end Go.Proofs.YtegcecnjmimbiaaDoor.X
namespace Go.Proofs.YtegcecnjmimbiaaDoor.X
open Go.RowKit Go.Sort
set_option linter.unusedVariables false
set_option linter.unusedSimpArgs false
open Ty
def rowDrop (l : List Row) (n : Int) : List Row := l.eraseIdx (l.findIdx (fun r => r.id == n))
theorem erase_step {α : Type} (l : List α) (k i : Nat) (hi : i < l.length) : (l.take (i + 1)).eraseIdx k = if i = k then (l.take i).eraseIdx k else (l.take i).eraseIdx k ++ [l[i]] := by
 have hl : (l.take i).length = i := by simp; omega
 rw [List.take_succ_eq_append_getElem hi]
 rcases Nat.lt_trichotomy k i with h | h | h
 ·rw [if_neg (by omega), List.eraseIdx_append_of_lt_length (by omega)]
 ·subst h
  rw [if_pos rfl, List.eraseIdx_append_of_length_le (by omega), hl, Nat.sub_self, List.eraseIdx_of_length_le (l := l.take k) (by omega)]
  simp
 ·rw [if_neg (by omega), List.eraseIdx_append_of_length_le (by omega), hl, List.eraseIdx_of_length_le (l := [l[i]]) (by simp; omega), List.eraseIdx_of_length_le (l := l.take i) (by omega)]
theorem idxF_ne {α : Type} (p : α → Bool) (l : List α) (i : Nat) (hi : i < l.length) : ((i : Int) != idxF p l) = !decide (i = l.findIdx p) := by
 unfold idxF
 by_cases h : i = l.findIdx p
 ·rw [if_pos (by omega), ← h]; simp
 ·have e : decide (i = l.findIdx p) = false := by simp [h]
  rw [e]
  split
  ·simp; omega
  ·simp
theorem bulkL_erase {α : Type} (b : α → Nat) (l : List α) (k : Nat) : bulkL b (l.eraseIdx k) ≤ bulkL b l := by
 rw [List.eraseIdx_eq_take_drop_succ, bulkL_append]
 have h1 := bulkL_append b (l.take (k + 1)) (l.drop (k + 1))
 rw [List.take_append_drop] at h1
 rcases Nat.lt_or_ge k l.length with h | h
 ·rw [bulkL_take b l k h] at h1; omega
 ·rw [List.take_of_length_le (Nat.le_succ_of_le h)] at h1
  rw [List.take_of_length_le h]; omega
theorem bulk_rowDrop (l : List Row) (n : Int) : bulkRowS (rowDrop l n) ≤ bulkRowS l := by
 have h1 := bulkL_erase bulkRow l (l.findIdx (fun r => r.id == n))
 have h2 := List.length_eraseIdx_le l (l.findIdx (fun r => r.id == n))
 unfold rowDrop bulkRowS
 omega
theorem C_dropK {α : Type} {d : Ty α} {w : World} {A A' : Option Addr} {xs : List α} (h : d.C w A xs) (q : Nat) (hA : xs.length ≤ q ∨ ∃ ad, A = some ad ∧ A' = some (ad.add (q * d.sz))) : d.C w A' (xs.drop q) := by
 rcases hA with hA | ⟨ad, rfl, rfl⟩
 ·rw [List.drop_eq_nil_of_le hA]; exact C_nil _
 ·refine ⟨by have := h.1; rw [List.length_drop]; omega, fun i x hx => ?_⟩
  obtain ⟨ad2, cs, h1, h2, h3⟩ := h.2 (q + i) x (by rw [List.getElem?_drop] at hx; exact hx)
  injection h1 with h1
  subst h1
  refine ⟨ad.add (q * d.sz), cs, rfl, h2, fun j u hu => ?_⟩
  have h4 := h3 j u hu
  rw [Addr.add_add, show q * d.sz + (i * d.sz + j) = (q + i) * d.sz + j by rw [Nat.add_mul]; omega]
  exact h4
theorem R_twoK {α : Type} {d : Ty α} {e : TypeId} {w : World} {S : Nat → Prop} {A : Option Addr} {n c : Nat} {xs : List α} (h : d.R e w S (.slice A n c) xs) : (A = none ∧ xs = [] ∧ c = 0) ∨ ∃ g, A = some ⟨g, 0, none⟩ ∧ xs.length ≤ c := by
 obtain ⟨inner, f, ho, hv, hE⟩ := h
 rcases ho.2 with ⟨h1, h0⟩ | ⟨g, cap, cur, h1, hg, hh, h2, h3, h4⟩
 ·injection h1 with h1 h2 h3
  exact .inl ⟨h1, List.eq_nil_of_length_eq_zero h0, h3⟩
 ·injection h1 with h1 h2 h3
  subst h3
  exact .inr ⟨g, h1, by omega⟩
theorem C_oneI (W : World) (k : Int) : int.C (W.alloc (.cells #[.int .i64 k] 3)) (some ⟨W.heap.size, 0, none⟩) [k] := by
 refine ⟨by simp, fun i x hx => ?_⟩
 rcases i with _ | i
 ·simp at hx
  subst hx
  refine ⟨⟨W.heap.size, 0, none⟩, [.int .i64 k], rfl, rfl, fun j u hu => ?_⟩
  rcases j with _ | j
  ·have e : (⟨W.heap.size, 0, none⟩ : Addr).add (0 * int.sz + 0) = ⟨W.heap.size, 0, none⟩ := by simp [Addr.add]
   rw [e]
   injection hu with hu
   subst hu
   exact (Blk.new W #[.int .i64 k] 3).cell 0 rfl
  ·simp at hu
 ·simp at hx
theorem C_oneN {W : World} {n : Nat} (hn : W.heap.size = n) (k : Int) : int.C (W.alloc (.cells #[.int .i64 k] 3)) (some ⟨n, 0, none⟩) [k] := by subst hn; exact C_oneI W k
theorem C_dropIK {w : World} {g c q : Nat} {xs : List Int} (h : int.C w (some ⟨g, 0, none⟩) xs) (hl : xs.length ≤ c) : int.C w (if c = q then some ⟨g, 0, none⟩ else some ⟨g, q, none⟩) (xs.drop q) := by
 split
 ·exact C_dropK h q (.inl (by omega))
 ·exact C_dropK h q (.inr ⟨_, rfl, by rw [Addr.add_lit, Nat.zero_add]; show some _ = some (Addr.mk g (q * 1) none); rw [Nat.mul_one]⟩)
set_option maxHeartbeats 1000000 in
set_option maxRecDepth 100000 in
theorem spec_l5Without (A : Option Addr) (c : Nat) (l : List Int) (q : Nat) (w : World) (hr : int.C w A l) (hc : l.length ≤ c) (hq : q < l.length) (hl : l.length ≤ 4194304) :
  Calls Tryd.prog 37 #[.slice A l.length c, .int .i64 q] w fun e w' => ∃ v, e = .returned v ∧ int.R 3 w' (fun k => w.heap.size ≤ k) v (l.eraseIdx q) ∧ Below w.heap.size w w' := by
 obtain ⟨ad, hA, x0⟩ := C_int_at hr (Below.refl _ _) 0 (by omega)
 subst hA
 clear x0
 have HC := Hd.mk hr; clear hr
 have hq1 : IntKind.i64.wrap ((q : Int) + 1) = (q : Int) + 1 := by rw [IntKind.wrap_i64]; omega
 have hqi : (q : Int) < (l.length : Int) := by omega
 have hB := Hd.mk (Below.refl w.heap.size w)
 rcases Nat.eq_or_lt_of_le (show q + 1 ≤ c by omega) with hcc | hcc
 ·subst hcc
  go_enter Tryd.func37, Tryd.ntmps37
  go_wp2_with fail
  refine region_mixT (.p 1 (.p 2 (.q 3 (.p 5 (.p 6 (.p 7 (.q 8 (.b 0 (.b 4 .fin))))))))) [9, 10] (by kernel_rfl) (by kernel_rfl) (fun _ _ _ _ _ h => h) ?_
  refine genT ?_
  intro W1 hW
  have hS := Hd.mk (show Below w.heap.size w W1 by rw [hW]; exact below_drew (Below.refl _ _))
  have hz_ : w.heap.size ≤ W1.heap.size := by rw [hW]; simp
  have hE : Below w.heap.size w W1 := by rw [hW]; (repeat (first | with_reducible refine below_alloc ?_ _ | with_reducible refine below_drew ?_)); exact Below.refl _ _
  have hB := hB.th hE
  clear hW hE
  have z1 := Hd.mk hz_; clear hz_
  iterate 7 ((first | refine mixT_q rfl ?_ | refine mixT_p rfl ?_); go_big_quiet_want; go_big_quiet_op; go_big_quiet_on; refine wpQuiet_nil ?_)
  refine mixT_b rfl ?_ (by rfl)
  go_wp2_with fail
  refine ⟨cls_below (below_alloc hS.out _), ?_⟩
  refine genT ?_; intro W2 hW
  have HRW := Hd.mk (show int.R 3 W2 (fun k => W1.heap.size ≤ k ∧ k < W2.heap.size) (.slice (some ⟨W1.heap.size, 0, none⟩) 0 0) [] by rw [hW]; first | exact R_bound (R_empty int _ _) | exact R_bound (R_below (R_empty int _ _) (below_drew (Below.refl _ _))))
  have hz_ : W1.heap.size + 1 ≤ W2.heap.size := by rw [hW]; simp
  have hE : Below W1.heap.size W1 W2 := by rw [hW]; (repeat (first | with_reducible refine below_alloc ?_ _ | with_reducible refine below_drew ?_)); exact Below.refl _ _
  have hB := hB.th hE
  replace hS := Hd.mk (below_then hS.out hE)
  clear hW hE
  have z2 := Hd.mk hz_; clear hz_
  refine mixT_b rfl ?_ (by rfl)
  go_wp2_with (at_builtin; refine append_scal (h1 := fun _ => rfl) rfl _ _ 23 3 (.int .i64 0) 8 rfl Tryd.underlying23 info_int rfl (by decide) (ys := l.take q) (S' := fun k => W1.heap.size ≤ k) rfl (by show _ = Value.slice _ (l.take q).length _; rw [List.length_take, Nat.min_eq_left (by omega)]; rfl) HRW.out (C_takeK (C_below HC.out hB.out) _) (fun _ h => h.1) (fun k h => by have q_ := z2.out; omega) (by first | (simp; done) | (simp; omega)) (fun v1 wa hv1 hX1 => ?_); obtain ⟨D1, d1, hve, hd1, _⟩ := R_C hv1; obtain ⟨n1, hn1⟩ : ∃ z, z = (([] : List Int) ++ l.take q).length := ⟨_, rfl⟩; rw [← hn1] at hve; subst hve; clear hn1 hd1)
  rw [List.nil_append] at hv1
  have hX := hX1.mono (fun k _ h => h.1); clear hX1
  have z1_ := z1.out; have z2_ := z2.out
  have hS := Hd.mk (below_frS hS.out hX (fun k h => by omega))
  refine ⟨cls_below hS.out, ?_⟩
  have HRW := Hd.mk (R_bound hv1); clear hv1
  have z1_ := z1.out; have z2_ := z2.out
  have hSz := hB.out.size
  have hB := Hd.mk (below_frS hB.out hX (fun k h => by skip; (try simp only [rng] at h); (try simp only at h); omega))
  have hz_ := hX.size
  clear hX
  have z3 := Hd.mk hz_; clear hz_
  refine mixT_fin ?_
  clear hS
  skip
  refine tail_b rfl ?_ (by rfl)
  go_wp2_with (at_builtin; refine append_scal (h1 := fun _ => rfl) rfl _ _ 23 3 (.int .i64 0) 8 rfl Tryd.underlying23 info_int rfl (by decide) (ys := l.drop (q + 1)) (S' := fun k => (W1.heap.size ≤ k ∧ k < wa.heap.size) ∨ wa.heap.size ≤ k) rfl (by show _ = Value.slice _ (l.drop (q + 1)).length _; first | (rw [List.length_drop]; rfl) | (rw [List.drop_eq_nil_of_le (by omega)]; rfl)) HRW.out (C_dropK (C_below HC.out hB.out) (q + 1) (.inl (by omega))) (fun k h => .inl h) (fun k h => .inr h) (by first | (simp; done) | (simp; omega)) (fun v2 wb hv2 hX2 => ?_))
  refine mixQ_n ?_
  refine tail_b rfl ?_ (by rfl)
  go_wp2_with fail
  refine mixQ_n ?_
  refine tail_nil ?_
  refine exit_gen ?_; intro Wb hW
  subst hW
  go_wp2_with fail
  go_ret
  have z1_ := z1.out; have z2_ := z2.out; have z3_ := z3.out
  rw [← List.eraseIdx_eq_take_drop_succ] at hv2
  exact ⟨_, rfl, R_mono (fun k h => by rcases h with h | h; (have q_ := h.1; omega); omega) hv2, below_frS hB.out hX2 (fun k h => by have q_ := h.1; omega)⟩
 ·have hcc1 : ¬ (c = q + 1) := by omega
  have hcc2 : ¬ (q + 1 = c) := by omega
  go_enter Tryd.func37, Tryd.ntmps37
  go_wp2_with fail
  refine region_mixT (.p 1 (.p 2 (.q 3 (.p 5 (.p 6 (.p 7 (.q 8 (.b 0 (.b 4 .fin))))))))) [9, 10] (by kernel_rfl) (by kernel_rfl) (fun _ _ _ _ _ h => h) ?_
  refine genT ?_
  intro W1 hW
  have hS := Hd.mk (show Below w.heap.size w W1 by rw [hW]; exact below_drew (Below.refl _ _))
  have hz_ : w.heap.size ≤ W1.heap.size := by rw [hW]; simp
  have hE : Below w.heap.size w W1 := by rw [hW]; (repeat (first | with_reducible refine below_alloc ?_ _ | with_reducible refine below_drew ?_)); exact Below.refl _ _
  have hB := hB.th hE
  clear hW hE
  have z1 := Hd.mk hz_; clear hz_
  iterate 7 ((first | refine mixT_q rfl ?_ | refine mixT_p rfl ?_); go_big_quiet_want; go_big_quiet_op; go_big_quiet_on; refine wpQuiet_nil ?_)
  refine mixT_b rfl ?_ (by rfl)
  go_wp2_with fail
  refine ⟨cls_below (below_alloc hS.out _), ?_⟩
  refine genT ?_; intro W2 hW
  have HRW := Hd.mk (show int.R 3 W2 (fun k => W1.heap.size ≤ k ∧ k < W2.heap.size) (.slice (some ⟨W1.heap.size, 0, none⟩) 0 0) [] by rw [hW]; first | exact R_bound (R_empty int _ _) | exact R_bound (R_below (R_empty int _ _) (below_drew (Below.refl _ _))))
  have hz_ : W1.heap.size + 1 ≤ W2.heap.size := by rw [hW]; simp
  have hE : Below W1.heap.size W1 W2 := by rw [hW]; (repeat (first | with_reducible refine below_alloc ?_ _ | with_reducible refine below_drew ?_)); exact Below.refl _ _
  have hB := hB.th hE
  replace hS := Hd.mk (below_then hS.out hE)
  clear hW hE
  have z2 := Hd.mk hz_; clear hz_
  refine mixT_b rfl ?_ (by rfl)
  go_wp2_with (at_builtin; refine append_scal (h1 := fun _ => rfl) rfl _ _ 23 3 (.int .i64 0) 8 rfl Tryd.underlying23 info_int rfl (by decide) (ys := l.take q) (S' := fun k => W1.heap.size ≤ k) rfl (by show _ = Value.slice _ (l.take q).length _; rw [List.length_take, Nat.min_eq_left (by omega)]; rfl) HRW.out (C_takeK (C_below HC.out hB.out) _) (fun _ h => h.1) (fun k h => by have q_ := z2.out; omega) (by first | (simp; done) | (simp; omega)) (fun v1 wa hv1 hX1 => ?_); obtain ⟨D1, d1, hve, hd1, _⟩ := R_C hv1; obtain ⟨n1, hn1⟩ : ∃ z, z = (([] : List Int) ++ l.take q).length := ⟨_, rfl⟩; rw [← hn1] at hve; subst hve; clear hn1 hd1)
  rw [List.nil_append] at hv1
  have hX := hX1.mono (fun k _ h => h.1); clear hX1
  have z1_ := z1.out; have z2_ := z2.out
  have hS := Hd.mk (below_frS hS.out hX (fun k h => by omega))
  refine ⟨cls_below hS.out, ?_⟩
  have HRW := Hd.mk (R_bound hv1); clear hv1
  have z1_ := z1.out; have z2_ := z2.out
  have hSz := hB.out.size
  have hB := Hd.mk (below_frS hB.out hX (fun k h => by skip; (try simp only [rng] at h); (try simp only at h); omega))
  have hz_ := hX.size
  clear hX
  have z3 := Hd.mk hz_; clear hz_
  refine mixT_fin ?_
  clear hS
  skip
  refine tail_b rfl ?_ (by rfl)
  go_wp2_with (at_builtin; refine append_scal (h1 := fun _ => rfl) rfl _ _ 23 3 (.int .i64 0) 8 rfl Tryd.underlying23 info_int rfl (by decide) (ys := l.drop (q + 1)) (S' := fun k => (W1.heap.size ≤ k ∧ k < wa.heap.size) ∨ wa.heap.size ≤ k) rfl (by show _ = Value.slice _ (l.drop (q + 1)).length _; first | (rw [List.length_drop]; rfl) | (rw [List.drop_eq_nil_of_le (by omega)]; rfl)) HRW.out (C_dropK (C_below HC.out hB.out) (q + 1) (.inr ⟨_, rfl, by show _ = some (ad.add ((q + 1) * 1)); rw [Nat.mul_one]; simp [Addr.add]⟩)) (fun k h => .inl h) (fun k h => .inr h) (by first | (simp; done) | (simp; omega)) (fun v2 wb hv2 hX2 => ?_))
  refine mixQ_n ?_
  refine tail_b rfl ?_ (by rfl)
  go_wp2_with fail
  refine mixQ_n ?_
  refine tail_nil ?_
  refine exit_gen ?_; intro Wb hW
  subst hW
  go_wp2_with fail
  go_ret
  have z1_ := z1.out; have z2_ := z2.out; have z3_ := z3.out
  rw [← List.eraseIdx_eq_take_drop_succ] at hv2
  exact ⟨_, rfl, R_mono (fun k h => by rcases h with h | h; (have q_ := h.1; omega); omega) hv2, below_frS hB.out hX2 (fun k h => by have q_ := h.1; omega)⟩
set_option maxHeartbeats 1000000 in
set_option maxRecDepth 100000 in
theorem spec_l5Insert {S : Nat → Prop} (A : Option Addr) (c : Nat) (l : List Int) (q : Nat) (key : Int) (w : World) (hR : int.R 3 w S (.slice A l.length c) l) (hq : q ≤ l.length) (hl : l.length ≤ 4194304) :
  Calls Tryd.prog 40 #[.slice A l.length c, .int .i64 q, .int .i64 key] w fun e w' => ∃ v, e = .returned v ∧ int.R 3 w' (fun k => w.heap.size ≤ k) v (l.take q ++ key :: l.drop q) ∧ Below w.heap.size w w' := by
 have HC := Hd.mk (R_Cv hR)
 have hqi : (q : Int) ≤ (l.length : Int) := by omega
 have hB := Hd.mk (Below.refl w.heap.size w)
 rcases R_twoK hR with ⟨rfl, h0, rfl⟩ | ⟨gl, rfl, hcl⟩
 ·clear hR
  subst h0
  obtain rfl : q = 0 := by simpa using hq
  have hl0 : ([] : List Int).length = 0 := rfl
  rw [hl0]
  go_enter Tryd.func40, Tryd.ntmps40
  go_wp2_with (first | (at_builtin; refine append_scal (h1 := fun _ => rfl) rfl _ _ 23 3 (.int .i64 0) 8 rfl Tryd.underlying23 info_int rfl (by decide) (S := fun k => w.heap.size ≤ k) (ys := [key]) (S' := fun k => w.heap.size ≤ k) rfl rfl (R_below (R_empty int 3 w) (below_alloc (Below.refl _ _) _)) (C_oneN (n := w.heap.size + 1) (by simp) key) (fun _ h => h) (fun k h => by simp at h; omega) (by first | (simp; done) | (simp; omega)) (fun v2 wb hv2 hX2 => ?_); obtain ⟨D2, d2, hve, hd2, _⟩ := R_C hv2; obtain ⟨n2, hn2⟩ : ∃ z, z = (([] : List Int) ++ [key]).length := ⟨_, rfl⟩; rw [← hn2] at hve; subst hve; clear hn2 hd2; have HB2 := Hd.mk (((Fr.of_below (below_alloc (below_alloc (Below.refl _ _) _) _) _).then_ hX2 (fun k h _ => h)).below (fun k h => h)); clear hX2; have HR2 := Hd.mk hv2; clear hv2) | (at_builtin; refine append_scal (h1 := fun _ => rfl) rfl _ _ 23 3 (.int .i64 0) 8 rfl Tryd.underlying23 info_int rfl (by decide) (ys := []) (S' := fun k => w.heap.size ≤ k) rfl rfl HR2.out (C_nil _) (fun _ h => h) (fun k h => by have q9_ := HB2.out.size; omega) (by first | (simp; done) | (simp; omega)) (fun v3 wc hv3 hX3 => ?_); have HB3 := Hd.mk (below_frS HB2.out hX3 (fun k h => h)); clear hX3; have HR3 := Hd.mk hv3; clear hv3 HR2))
  go_ret
  have hR := HR3.out
  rw [List.append_nil, List.nil_append] at hR
  exact ⟨_, rfl, hR, HB3.out⟩
 ·clear hR
  go_enter Tryd.func40, Tryd.ntmps40
  go_wp2_with (first | (at_builtin; refine append_scal (h1 := fun _ => rfl) rfl _ _ 23 3 (.int .i64 0) 8 rfl Tryd.underlying23 info_int rfl (by decide) (S := fun k => w.heap.size ≤ k) (ys := l.take q) (S' := fun k => w.heap.size ≤ k) rfl (by show _ = Value.slice _ (l.take q).length _; rw [List.length_take, Nat.min_eq_left (by omega)]; rfl) (R_empty int 3 w) (C_takeK (C_below HC.out (below_alloc (Below.refl _ _) _)) _) (fun _ h => h) (fun k h => by simp at h; omega) (by first | (simp; done) | (simp; omega)) (fun v1 wa hv1 hX1 => ?_); obtain ⟨D1, d1, hve, hd1, _⟩ := R_C hv1; obtain ⟨n1, hn1⟩ : ∃ z, z = (([] : List Int) ++ l.take q).length := ⟨_, rfl⟩; rw [← hn1] at hve; subst hve; clear hn1 hd1; rw [List.nil_append] at hv1; have HB1 := Hd.mk (((Fr.of_below (below_alloc (Below.refl _ _) _) _).then_ hX1 (fun k h _ => h)).below (fun k h => h)); clear hX1; have HR1 := Hd.mk (R_bound hv1); clear hv1) | (at_builtin; refine append_scal (h1 := fun _ => rfl) rfl _ _ 23 3 (.int .i64 0) 8 rfl Tryd.underlying23 info_int rfl (by decide) (ys := [key]) (S' := fun k => w.heap.size ≤ k ∧ k < wa.heap.size ∨ wa.heap.size ≤ k) rfl rfl (R_below HR1.out (below_alloc (Below.refl _ _) _)) (C_oneI _ _) (fun _ h => .inl h) (fun k h => by simp at h; exact .inr (by omega)) (by first | (simp; done) | (simp; omega)) (fun v2 wb hv2 hX2 => ?_); obtain ⟨D2, d2, hve, hd2, _⟩ := R_C hv2; obtain ⟨n2, hn2⟩ : ∃ z, z = (l.take q ++ [key]).length := ⟨_, rfl⟩; rw [← hn2] at hve; subst hve; clear hn2 hd2; have HB2 := Hd.mk (below_frS (below_then HB1.out (below_alloc (Below.refl _ _) _)) hX2 (fun k h => h.1)); clear hX2; have HR2 := Hd.mk (R_bound hv2); clear hv2 HR1) | (at_builtin; refine append_scal (h1 := fun _ => rfl) rfl _ _ 23 3 (.int .i64 0) 8 rfl Tryd.underlying23 info_int rfl (by decide) (ys := l.drop q) (S' := fun k => w.heap.size ≤ k) rfl (by show _ = Value.slice _ (l.drop q).length _; rw [List.length_drop]; rfl) HR2.out (C_dropIK (C_below HC.out HB2.out) hcl) (fun k h => by have q9_ := HB1.out.size; rcases h.1 with q_ | q_; exact q_.1; omega) (fun k h => by have q9_ := HB2.out.size; omega) (by first | (simp; done) | (simp; omega)) (fun v3 wc hv3 hX3 => ?_); have HB3 := Hd.mk (below_frS HB2.out hX3 (fun k h => by have q9_ := HB1.out.size; rcases h.1 with q_ | q_; exact q_.1; omega)); clear hX3; have HR3 := Hd.mk hv3; clear hv3 HR2; generalize (if c = q then (some ⟨gl, 0, none⟩ : Option Addr) else some ⟨gl, q, none⟩) = AX_))
  go_ret
  have hR := HR3.out
  rw [List.append_assoc, List.singleton_append] at hR
  exact ⟨_, rfl, hR, HB3.out⟩
def dupK (k : List Int) (i : Nat) : Bool := decide (0 ≤ atI (k.take i) (k.getD i 0))
def keysOk (k : List Int) (l : List J) : Bool := ((List.range k.length).all (fun i => !dupK k i) && l.all jsonOk) && (k.length == l.length)
theorem range_all (f : Nat → Bool) (j : Nat) : (List.range (j + 1)).all f = ((List.range j).all f && f j) := by
 rw [List.range_succ, List.all_append]; simp
theorem range_no {f : Nat → Bool} {j n : Nat} (hj : j < n) (h : f j = false) : (List.range n).all f = false := by
 cases hb : (List.range n).all f
 ·rfl
 ·rw [List.all_eq_true] at hb
  rw [hb j (List.mem_range.2 hj)] at h; cases h
theorem all_no {α : Type} {p : α → Bool} {l : List α} {j : Nat} (hj : j < l.length) (h : p l[j] = false) : l.all p = false := by
 cases hb : l.all p
 ·rfl
 ·rw [List.all_eq_true] at hb
  rw [hb _ (List.getElem_mem hj)] at h; cases h
theorem getD_at (k : List Int) (j : Nat) (h : j < k.length) : k.getD j 0 = k[j] := by rw [List.getD_eq_getElem?_getD, List.getElem?_eq_getElem h]; rfl
set_option maxHeartbeats 1000000 in
set_option maxRecDepth 100000 in
theorem spec_l5Keys {m : Nat} (A : Option Addr) (c : Nat) (k : List Int) (B : Option Addr) (d : Nat) (l : List J) (w : World) (hr : int.C w A k) (hc : k.length ≤ c) (hl : (tJ (m + 1)).C w B l) :
  Calls Tryd.prog 17 #[.slice A k.length c, .slice B l.length d] w fun e w' => e = .returned (.bool (keysOk k l)) ∧ Below w.heap.size w w' := by
 have hm := hr.1
 have hm2 := hl.1
 have HC := Hd.mk hr; have HL := Hd.mk hl; clear hr hl
 go_enter Tryd.func17, Tryd.ntmps17
 go_wp2_with fail
 go_loopw [5] (fun i wr => ∃ j : Nat, j ≤ k.length ∧ i = .int .i64 j ∧ Hd ((List.range j).all (fun i => !dupK k i) = true) ∧ Hd (Below w.heap.size w wr)) (fun i _ => k.length - (intOf i).toNat)
 case atStart => exact ⟨0, Nat.zero_le _, rfl, ⟨rfl⟩, ⟨Below.refl _ _⟩⟩
 case round =>
  obtain ⟨j, hj, rfl, HA, hB⟩ := hrel
  by_cases hlt : j < k.length
  ·obtain ⟨ad, rfl, x0⟩ := C_int_at HC.out hB.out j hlt
   have rx0 := cell_regrown x0
   have hji : (j : Int) < (k.length : Int) := by omega
   have hjc : ¬ ((c : Int) < (j : Int)) := by omega
   go_wp2_with fail
   refine region_mix [(true, 0), (true, 1), (true, 2), (true, 3), (true, 4), (true, 5), (true, 6), (false, 7), (true, 8)] (by kernel_rfl) (by kernel_rfl) (fun _ _ _ _ _ h => h) ?_
   (repeat (first | (refine mix_z rfl (by rfl) ?_; go_big_quiet_skip; refine wpQuiet_nil ?_) | (refine mix_q rfl ?_; first | (go_big_quiet_skip; refine wpQuiet_nil ?_) | (go_big_quiet_want; go_big_quiet_op; go_big_quiet_on; refine wpQuiet_nil ?_))))
   refine mix_b rfl ?_ (by rfl)
   go_wp2_with fail
   clear rx0 x0
   have hS := Hd.mk (Below.refl wr.heap.size wr)
   apply calls_gen; intro W1 hW
   have hz_ : wr.heap.size ≤ W1.heap.size := by rw [hW]; simp
   have hE : Below wr.heap.size wr W1 := by rw [hW]; (repeat (first | with_reducible refine below_alloc ?_ _ | with_reducible refine below_drew ?_)); exact Below.refl _ _
   have hB := hB.th hE
   replace hS := Hd.mk (below_then hS.out hE)
   clear hW hE
   have z1 := Hd.mk hz_; clear hz_
   have htl : (k.take j).length = j := by rw [List.length_take]; omega
   refine ((by have h_ := spec_l5At (some ad) c (k.take j) k[j] W1 (C_takeK (C_below HC.out hB.out) j); rw [htl] at h_; exact h_ : Calls Tryd.prog 34 #[.slice (some ad) j c, .int .i64 k[j]] W1 fun e w' => e = .returned (.int .i64 (atI (k.take j) k[j])) ∧ Below W1.heap.size W1 w')).mono ?_
   rintro e w2 ⟨rfl, hX⟩
   have hB := hB.th hX
   replace hS := Hd.mk (below_then hS.out hX)
   have hz_ := hX.size
   clear hX
   have z2 := Hd.mk hz_; clear hz_
   have HD := Hd.mk (show dupK k j = decide (0 ≤ atI (k.take j) k[j]) by unfold dupK; rw [getD_at k j hlt])
   obtain ⟨at_, hat⟩ : ∃ z, z = atI (k.take j) k[j] := ⟨_, rfl⟩
   rw [← hat] at HD ⊢
   clear hat
   by_cases h0 : 0 ≤ at_
   ·have h0b : decide (0 ≤ at_) = true := decide_eq_true h0
    have HN := Hd.mk (show keysOk k l = false by unfold keysOk; rw [range_no hlt (by rw [HD.out, h0b]; rfl)]; rfl)
    go_wp2_with fail
    refine ⟨cls_below hS.out, ?_⟩
    (repeat (first | (refine mix_z rfl (by rfl) ?_; go_big_quiet_skip; refine wpQuiet_nil ?_) | (refine mix_q rfl ?_; first | (go_big_quiet_skip; refine wpQuiet_nil ?_) | (go_big_quiet_want; go_big_quiet_op; go_big_quiet_on; refine wpQuiet_nil ?_))))
    refine mix_nil ?_
    go_wp2_with fail
    go_ret
    exact ⟨by rw [HN.out]; rfl, hB.out⟩
   ·have h0b : decide (0 ≤ at_) = false := decide_eq_false h0
    go_wp2_with fail
    refine ⟨cls_below hS.out, ?_⟩
    (repeat (first | (refine mix_z rfl (by rfl) ?_; go_big_quiet_skip; refine wpQuiet_nil ?_) | (refine mix_q rfl ?_; first | (go_big_quiet_skip; refine wpQuiet_nil ?_) | (go_big_quiet_want; go_big_quiet_op; go_big_quiet_on; refine wpQuiet_nil ?_))))
    refine mix_nil ?_
    go_wp2_with fail
    go_roundw
    case rel => exact ⟨j + 1, by omega, by go_num, ⟨by rw [range_all, HA.out, HD.out, h0b]; rfl⟩, hB⟩
    case measure => simp [intOf]; omega
  ·obtain rfl : j = k.length := by omega
   have HA1 := Hd.mk HA.out
   have hB1 := Hd.mk hB.out; clear HA hB
   go_wp2_with fail
   go_loopw [6] (fun i wr => ∃ j : Nat, j ≤ l.length ∧ i = .int .i64 j ∧ Hd ((l.take j).all jsonOk = true) ∧ Hd (Below w.heap.size w wr)) (fun i _ => l.length - (intOf i).toNat)
   case atStart => exact ⟨0, Nat.zero_le _, rfl, ⟨rfl⟩, hB1⟩
   case round =>
    obtain ⟨j, hj, rfl, HA, hB⟩ := hrel
    by_cases hlt : j < l.length
    ·obtain ⟨bd, E1, e1, E2, e2, rfl, x0, x1, x2, x3, x4, hse, ⟨he1, hre1⟩, he2, hre2⟩ := C_J_at HL.out hB.out j hlt
     have HKe := Hd.mk (tJ_K.2 ⟨E1, e1, E2, e2, rfl, hse, ⟨he1, hre1⟩, he2, hre2⟩)
     clear hre1 hre2
     have hBr := Hd.mk (Below.refl wr.heap.size wr)
     have HA2 := Hd.mk (all_take jsonOk l j hlt HA.out)
     go_wp2_with fail
     clear x0 x1 x2 x3 x4
     apply calls_gen; intro W1 hW
     have hz_ : wr.heap.size ≤ W1.heap.size := by rw [hW]; simp
     have hE : Below wr.heap.size wr W1 := by rw [hW]; (repeat (first | with_reducible refine below_alloc ?_ _ | with_reducible refine below_drew ?_)); exact Below.refl _ _
     have hB := hB.th hE
     have hBr := Hd.mk (below_then hBr.out hE)
     clear hW hE
     have z1 := Hd.mk hz_; clear hz_
     refine (spec_JsonOk l[j] _ _ (Ty.K_below _ hBr.out HKe.out)).mono ?_
     rintro e w2 ⟨rfl, hX⟩
     have hB := hB.th hX
     have hz_ := hX.size
     have hBr := Hd.mk (below_then hBr.out hX)
     clear hX
     have z2 := Hd.mk hz_; clear hz_
     cases hb : jsonOk l[j]
     ·have HN := Hd.mk (show keysOk k l = false by unfold keysOk; rw [all_no hlt hb, Bool.and_false]; rfl)
      go_wp2_with fail
      go_ret
      exact ⟨by rw [HN.out]; rfl, hB.out⟩
     ·go_wp2_with fail
      go_roundw
      case rel => exact ⟨j + 1, by omega, by go_num, ⟨by rw [HA2.out, hb]⟩, hB⟩
      case measure => simp [intOf]; omega
    ·obtain rfl : j = l.length := by omega
     have hz := HA.out
     rw [List.take_length] at hz
     have HN := Hd.mk (show keysOk k l = (k.length == l.length) by unfold keysOk; rw [HA1.out, hz]; rfl)
     clear hz
     cases hbl : (k.length == l.length)
     ·have hdl : ((k.length : Int) == (l.length : Int)) = false := by
       have h : ¬ k.length = l.length := by simpa using hbl
       simpa using fun h2 => h (by omega)
      go_wp2_with fail
      go_ret
      exact ⟨by rw [HN.out, hbl]; rfl, hB.out⟩
     ·have hdl : ((k.length : Int) == (l.length : Int)) = true := by
       have h : k.length = l.length := by simpa using hbl
       simp [h]
      go_wp2_with fail
      go_ret
      exact ⟨by rw [HN.out, hbl]; rfl, hB.out⟩
def stepK (k : List Int) (l : List J) (i : Nat) : Bool := jsonOk (l.getD i J.null) && !dupK k i
theorem getJ_at (l : List J) (j : Nat) (h : j < l.length) : l.getD j J.null = l[j] := by rw [List.getD_eq_getElem?_getD, List.getElem?_eq_getElem h]; rfl
theorem keysOk_eq (k : List Int) (l : List J) (h : k.length = l.length) : keysOk k l = (List.range l.length).all (stepK k l) := by
 unfold keysOk
 rw [show (k.length == l.length) = true by simpa using h, Bool.and_true, h]
 have e : l.all jsonOk = (List.range l.length).all (fun i => jsonOk (l.getD i J.null)) := by
  rw [Bool.eq_iff_iff, List.all_eq_true, List.all_eq_true]
  constructor
  ·intro h2 i hi
   rw [getJ_at l i (List.mem_range.1 hi)]
   exact h2 _ (List.getElem_mem _)
  ·intro h2 x hx
   obtain ⟨i, hi, rfl⟩ := List.getElem_of_mem hx
   have := h2 i (List.mem_range.2 hi)
   rwa [getJ_at l i hi] at this
 rw [e, Bool.eq_iff_iff, Bool.and_eq_true, List.all_eq_true, List.all_eq_true, List.all_eq_true]
 unfold stepK
 constructor
 ·exact fun h2 i hi => by rw [h2.2 i hi, h2.1 i hi]; rfl
 ·exact fun h2 => ⟨fun i hi => by have := h2 i hi; rw [Bool.and_eq_true] at this; exact this.2, fun i hi => by have := h2 i hi; rw [Bool.and_eq_true] at this; exact this.1⟩
def zipK (k : List Int) (l : List J) : List Keyed := List.zipWith Keyed.mk k l
def pairsOf (k : List Int) (l : List J) : List Keyed := if keysOk k l = true then zipK k l else []
theorem pairs_yes {k : List Int} {l : List J} (h : keysOk k l = true) : pairsOf k l = zipK k l := if_pos h
theorem pairs_no {k : List Int} {l : List J} (h : keysOk k l = false) : pairsOf k l = [] := if_neg (by rw [h]; decide)
theorem zipK_len (k : List Int) (l : List J) (h : k.length = l.length) : (zipK k l).length = l.length := by unfold zipK; rw [List.length_zipWith]; omega
theorem zipK_step (k : List Int) (l : List J) (j : Nat) (h1 : j < k.length) (h2 : j < l.length) : (zipK k l).take (j + 1) = (zipK k l).take j ++ [⟨k[j], l[j]⟩] := by
 have hj : j < (zipK k l).length := by unfold zipK; rw [List.length_zipWith]; omega
 rw [List.take_succ_eq_append_getElem hj]
 congr 2
 simp [zipK]
set_option maxHeartbeats 2000000 in
set_option maxRecDepth 100000 in
theorem impl_keyedOf {m : Nat} {w0 : World} (B : Option Addr) (d : Nat) (l : List J) (A : Option Addr) (c : Nat) (k : List Int) (w : World) (hl : (tJ (m + 1)).C w0 B l) (hr : int.C w0 A k) (hc : k.length ≤ c) (hw : Below w0.heap.size w0 w) (hn : l.length ≤ 4194304) :
  Calls Tryd.prog 20 #[.slice B l.length d, .slice A k.length c] w fun e w' => ∃ v, e = .returned (.tuple #[v, .bool (keysOk k l)]) ∧ (tKey w0 m).R 50 w' (fun q => w.heap.size ≤ q) v (pairsOf k l) ∧ Below w.heap.size w w' := by
 have hm := hr.1
 have hm2 := hl.1
 have HC := Hd.mk hr; have HL := Hd.mk hl; have HW := Hd.mk hw; clear hr hl hw
 by_cases hkl : k.length = l.length
 ·have hkn : ((l.length : Int) != (k.length : Int)) = false := by simp [hkl]
  have HK := Hd.mk hkl; have HE := Hd.mk (keysOk_eq k l hkl)
  have hkl2 : k.length ≤ l.length := by omega
  clear hkl
  have HR0 := Hd.mk (R_empty (tKey w0 m) 50 w)
  go_enter Tryd.func20, Tryd.ntmps20
  go_wp2_with fail
  go_loopw [6, 17] (fun v i wr => ∃ (j : Nat) (vv : Value), j ≤ l.length ∧ i = .int .i64 j ∧ vv = v ∧ Hd ((List.range j).all (stepK k l) = true) ∧ Hd ((tKey w0 m).R 50 wr (fun q => w.heap.size ≤ q) vv ((zipK k l).take j)) ∧ Hd (Below w.heap.size w wr)) (fun _ i _ => l.length - (intOf i).toNat)
  case atStart => exact ⟨0, _, Nat.zero_le _, rfl, rfl, ⟨rfl⟩, HR0, ⟨below_alloc (Below.refl _ _) _⟩⟩
  case round =>
   obtain ⟨j, vv, hj, rfl, rfl, HA, HR, hB⟩ := hrel
   by_cases hlt : j < l.length
   ·have hBW := Hd.mk (below_then HW.out hB.out)
    have hltk : j < k.length := by rw [HK.out]; exact hlt
    obtain ⟨bd, cs0, rfl, hKe0, f0, f1⟩ := C_at HL.out (Below.refl _ _) j hlt
    obtain ⟨E1, e1, E2, e2, rfl, hse, ⟨he1, hre1⟩, he2, hre2⟩ := tJ_K.1 hKe0
    have HKe := Hd.mk hKe0; clear hKe0 hre1 hre2
    have x0 : wr.cell? (bd.add (j * 5)) = some (.int .i64 l[j].kind) := cell_below hBW.out (f0 _ rfl)
    have x1 : wr.cell? ⟨(bd.add (j * 5)).block, (bd.add (j * 5)).off + 1, none⟩ = some (.int .i64 l[j].n) := cell_below hBW.out (f1 0 _ rfl)
    have x2 : wr.cell? ⟨(bd.add (j * 5)).block, (bd.add (j * 5)).off + 2, none⟩ = some (.string l[j].s) := cell_below hBW.out (f1 1 _ rfl)
    have x3 : wr.cell? ⟨(bd.add (j * 5)).block, (bd.add (j * 5)).off + 3, none⟩ = some (.slice E1 l[j].list.length e1) := cell_below hBW.out (f1 2 _ rfl)
    have x4 : wr.cell? ⟨(bd.add (j * 5)).block, (bd.add (j * 5)).off + 4, none⟩ = some (.slice E2 l[j].names.length e2) := cell_below hBW.out (f1 3 _ rfl)
    clear f0 f1
    obtain ⟨ad, rfl, y0⟩ := C_int_at HC.out hBW.out j hltk
    have hji : (j : Int) < (k.length : Int) := by omega
    have hjc : ¬ ((c : Int) < (j : Int)) := by omega
    have HS := Hd.mk (show stepK k l j = (jsonOk l[j] && !decide (0 ≤ atI (k.take j) k[j])) by unfold stepK dupK; rw [getJ_at l j hlt, getD_at k j hltk])
    have HA2 := Hd.mk (range_all (stepK k l) j)
    go_wp2_with fail
    clear x0 x1 x2 x3 x4
    apply wp_gen; intro W40 hW
    replace y0 := cell_below (show Below wr.heap.size wr W40 by rw [hW]; exact below_alloc (Below.refl _ _) _) y0
    have hz_ : wr.heap.size + 1 ≤ W40.heap.size := by rw [hW]; simp
    have hE : Below wr.heap.size wr W40 := by rw [hW]; (repeat (first | with_reducible refine below_alloc ?_ _ | with_reducible refine below_drew ?_)); exact Below.refl _ _
    have hB := hB.th hE
    have hBW := Hd.mk (below_then hBW.out hE)
    have b8 := Hd.mk (show Blk W40 (wr.heap.size) #[.int .i64 l[j].kind, .int .i64 l[j].n, .string l[j].s, .slice E1 l[j].list.length e1, .slice E2 l[j].names.length e2] 43 by rw [hW]; first | exact (Blk.new _ _ _) | (simpa using (Blk.new _ _ _)))
    have HR := Hd.mk (R_below HR.out hE)
    clear hW hE
    have z1 := Hd.mk hz_; clear hz_
    obtain ⟨v80, v81, v82, v83, v84, v8z⟩ := blk5 b8.out
    obtain ⟨rv80, rv81, rv82, rv83, rv84⟩ := reg5 v80 v81 v82 v83 v84
    have ry0 := cell_regrown y0
    refine region_mix [(true, 0), (false, 1), (true, 2), (true, 3), (true, 4), (true, 5), (true, 6), (true, 7), (true, 8), (true, 9), (true, 10), (false, 11), (true, 12)] (by kernel_rfl) (by kernel_rfl) (fun _ _ _ _ _ h => h) ?_
    (repeat (first | (refine mix_z rfl (by rfl) ?_; go_big_quiet_skip; refine wpQuiet_nil ?_) | (refine mix_q rfl ?_; first | (go_big_quiet_skip; refine wpQuiet_nil ?_) | (go_big_quiet_want; go_big_quiet_op; go_big_quiet_on; refine wpQuiet_nil ?_))))
    refine mix_b rfl ?_ (by rfl)
    go_wp2_with fail
    have hS := Hd.mk (Below.refl W40.heap.size W40)
    clear v80 v81 v82 v83 v84 v8z
    apply calls_gen; intro W41 hW
    have hz_ : W40.heap.size ≤ W41.heap.size := by rw [hW]; simp
    have hE : Below W40.heap.size W40 W41 := by rw [hW]; (repeat (first | with_reducible refine below_alloc ?_ _ | with_reducible refine below_drew ?_)); exact Below.refl _ _
    have hB := hB.th hE
    have hBW := Hd.mk (below_then hBW.out hE)
    replace hS := Hd.mk (below_then hS.out hE)
    have b8 := b8.dn hE
    have HR := Hd.mk (R_below HR.out hE)
    clear hW hE
    have z2 := Hd.mk hz_; clear hz_
    refine (impl_JsonOk l[j] _ _ (Ty.K_below _ hBW.out HKe.out)).mono ?_
    rintro e w42 ⟨rfl, hX⟩
    have b8 := b8.dn hX
    have HR := Hd.mk (R_below HR.out hX)
    have hB := hB.th hX
    replace hS := Hd.mk (below_then hS.out hX)
    have hz_ := hX.size
    have hBW := Hd.mk (below_then hBW.out hX)
    clear hX
    have z3 := Hd.mk hz_; clear hz_
    cases hb : jsonOk l[j]
    ·have HF := Hd.mk (show keysOk k l = false by rw [HE.out]; exact range_no hlt (by rw [HS.out, hb]; rfl))
     obtain ⟨v80, v81, v82, v83, v84, v8z⟩ := blk5 b8.out
     go_wp2_with fail
     refine ⟨cls_below hS.out, ?_⟩
     (repeat (first | (refine mix_z rfl (by rfl) ?_; go_big_quiet_skip; refine wpQuiet_nil ?_) | (refine mix_q rfl ?_; first | (go_big_quiet_skip; refine wpQuiet_nil ?_) | (go_big_quiet_want; go_big_quiet_op; go_big_quiet_on; refine wpQuiet_nil ?_))))
     refine mix_nil ?_
     go_wp2_with fail
     refine bodyPost_retW (v := .tuple #[.slice none 0 0, .bool false]) (by simp [results, Tryd.results20, go_sem]) rfl ?_
     intro W hW; subst hW
     exact ⟨_, by rw [HF.out], by rw [pairs_no HF.out]; exact R_nil, hB.out⟩
    ·obtain ⟨v80, v81, v82, v83, v84, v8z⟩ := blk5 b8.out
     go_wp2_with fail
     refine ⟨cls_below hS.out, ?_⟩
     (repeat (first | (refine mix_z rfl (by rfl) ?_; go_big_quiet_skip; refine wpQuiet_nil ?_) | (refine mix_q rfl ?_; first | (go_big_quiet_skip; refine wpQuiet_nil ?_) | (go_big_quiet_want; go_big_quiet_op; go_big_quiet_on; refine wpQuiet_nil ?_))))
     refine mix_b rfl ?_ (by rfl)
     go_wp2_with fail
     clear v80 v81 v82 v83 v84 v8z
     clear ry0 rv80 rv81 rv82 rv83 rv84
     apply calls_gen; intro W43 hW
     have hz_ : w42.heap.size ≤ W43.heap.size := by rw [hW]; simp
     have hE : Below w42.heap.size w42 W43 := by rw [hW]; (repeat (first | with_reducible refine below_alloc ?_ _ | with_reducible refine below_drew ?_)); exact Below.refl _ _
     have hB := hB.th hE
     have hBW := Hd.mk (below_then hBW.out hE)
     replace hS := Hd.mk (below_then hS.out hE)
     have b8 := b8.dn hE
     have HR := Hd.mk (R_below HR.out hE)
     clear hW hE
     have z4 := Hd.mk hz_; clear hz_
     have htl : (k.take j).length = j := by rw [List.length_take]; omega
     refine ((by have h_ := slices_Contains_int (some ad) c (k.take j) k[j] W43 (C_takeK (C_below HC.out hBW.out) j); rw [htl] at h_; exact h_ : Calls Tryd.prog 43 #[.slice (some ad) j c, .int .i64 k[j]] W43 fun e w' => e = .returned (.bool (decide (0 ≤ atI (k.take j) k[j]))) ∧ Below W43.heap.size W43 w')).mono ?_
     rintro e w44 ⟨rfl, hX⟩
     have b8 := b8.dn hX
     have HR := Hd.mk (R_below HR.out hX)
     have hB := hB.th hX
     replace hS := Hd.mk (below_then hS.out hX)
     have hz_ := hX.size
     have hBW := Hd.mk (below_then hBW.out hX)
     clear hX
     have z5 := Hd.mk hz_; clear hz_
     obtain ⟨at_, hat⟩ : ∃ z, z = atI (k.take j) k[j] := ⟨_, rfl⟩
     rw [← hat] at HS ⊢
     clear hat
     by_cases h0 : 0 ≤ at_
     ·have h0b : decide (0 ≤ at_) = true := decide_eq_true h0
      have HF := Hd.mk (show keysOk k l = false by rw [HE.out]; exact range_no hlt (by rw [HS.out, hb, h0b]; rfl))
      obtain ⟨v80, v81, v82, v83, v84, v8z⟩ := blk5 b8.out
      go_wp2_with fail
      refine ⟨cls_below hS.out, ?_⟩
      (repeat (first | (refine mix_z rfl (by rfl) ?_; go_big_quiet_skip; refine wpQuiet_nil ?_) | (refine mix_q rfl ?_; first | (go_big_quiet_skip; refine wpQuiet_nil ?_) | (go_big_quiet_want; go_big_quiet_op; go_big_quiet_on; refine wpQuiet_nil ?_))))
      refine mix_nil ?_
      go_wp2_with fail
      refine bodyPost_retW (v := .tuple #[.slice none 0 0, .bool false]) (by simp [results, Tryd.results20, go_sem]) rfl ?_
      intro W hW; subst hW
      exact ⟨_, by rw [HF.out], by rw [pairs_no HF.out]; exact R_nil, hB.out⟩
     ·have h0b : decide (0 ≤ at_) = false := decide_eq_false h0
      obtain ⟨v80, v81, v82, v83, v84, v8z⟩ := blk5 b8.out
      go_wp2_with fail
      refine ⟨cls_below hS.out, ?_⟩
      (repeat (first | (refine mix_z rfl (by rfl) ?_; go_big_quiet_skip; refine wpQuiet_nil ?_) | (refine mix_q rfl ?_; first | (go_big_quiet_skip; refine wpQuiet_nil ?_) | (go_big_quiet_want; go_big_quiet_op; go_big_quiet_on; refine wpQuiet_nil ?_))))
      refine mix_nil ?_
      go_wp2_with fail
      clear v80 v81 v82 v83 v84 v8z
      clear hS
      clear y0
      obtain ⟨ad2, ea, y0⟩ := C_int_at HC.out hBW.out j hltk
      injection ea with ea; subst ea
      have ry0 := cell_regrown y0
      obtain ⟨v80, v81, v82, v83, v84, v8z⟩ := blk5 b8.out
      obtain ⟨rv80, rv81, rv82, rv83, rv84⟩ := reg5 v80 v81 v82 v83 v84
      refine region_mixT (.q 5 (.p 0 (.p 1 (.p 2 (.q 3 (.q 4 (.q 6 (.b 7 .fin)))))))) [8, 9] (by kernel_rfl) (by kernel_rfl) (fun _ _ _ _ _ h => h) ?_
      refine genT ?_
      intro W45 hW
      have hS := Hd.mk (show Below w44.heap.size w44 W45 by rw [hW]; exact below_drew (Below.refl _ _))
      have hz_ : w44.heap.size ≤ W45.heap.size := by rw [hW]; simp
      have hE : Below w44.heap.size w44 W45 := by rw [hW]; (repeat (first | with_reducible refine below_alloc ?_ _ | with_reducible refine below_drew ?_)); exact Below.refl _ _
      have hB := hB.th hE
      have hBW := Hd.mk (below_then hBW.out hE)
      have b8 := b8.dn hE
      have HR := Hd.mk (R_below HR.out hE)
      clear hW hE
      have z6 := Hd.mk hz_; clear hz_
      iterate 7 ((first | refine mixT_q rfl ?_ | refine mixT_p rfl ?_); go_big_quiet_want; go_big_quiet_op; go_big_quiet_on; refine wpQuiet_nil ?_)
      refine mixT_b rfl ?_ (by rfl)
      go_wp2_with fail
      refine ⟨cls_below (below_alloc hS.out _), ?_⟩
      refine mixT_fin ?_
      clear hS
      clear rv80 rv81 rv82 rv83 rv84
      clear v80 v81 v82 v83 v84 v8z
      obtain ⟨v80, v81, v82, v83, v84, v8z⟩ := blk5 b8.out
      refine tail_b rfl ?_ (by rfl)
      go_wp2_with (at_builtin; refine append_one (tKey w0 m) rfl _ _ 45 50 (.agg #[.int .i64 0, .int .i64 0, .int .i64 0, .string ByteArray.empty, .slice none 0 0, .slice none 0 0]) 88 rfl Tryd.underlying45 info_KeyS rfl (by show 0 < 6; omega) (by decide) (S := fun q => w.heap.size ≤ q) (T := fun _ => False) (S' := fun q => w.heap.size ≤ q) (v := vv) (xs := (zipK k l).take j) ⟨k[j], l[j]⟩ [Value.int IntKind.i64 k[j], .int .i64 l[j].kind, .int .i64 l[j].n, .string l[j].s, .slice E1 l[j].list.length e1, .slice E2 l[j].names.length e2] rfl rfl HR.out ⟨_, rfl, HKe.out⟩ (fun q h => h.elim) (fun q h => h) (fun q h => h.elim) (fun q h => Nat.le_trans hB.out.size h) (by rw [List.length_take]; omega) (fun v1 w1 hv hf => ?_))
      refine mixQ_n ?_
      refine tail_b rfl ?_ (by rfl)
      go_wp2_with fail
      refine mixQ_n ?_
      refine tail_nil ?_
      clear v80 v81 v82 v83 v84 v8z
      clear ry0 y0
      go_wp2_with fail
      go_roundw
      case rel => exact ⟨j + 1, _, by omega, by go_num, rfl, ⟨by rw [HA2.out, HA.out, HS.out, hb, h0b]; rfl⟩, Hd.mk (by rw [zipK_step k l j hltk hlt]; exact hv), Hd.mk (below_frS hB.out hf (fun q h => h))⟩
      case measure => simp [intOf]; omega
   ·obtain rfl : j = l.length := by omega
    have hok : keysOk k l = true := by rw [HE.out]; exact HA.out
    have HOK := Hd.mk hok; clear hok
    go_wp2_with fail
    refine bodyPost_retW (v := .tuple #[vv, .bool true]) (by simp [results, Tryd.results20, go_sem]) rfl ?_
    intro W hW; subst hW
    refine ⟨_, by rw [HOK.out], ?_, hB.out⟩
    have hR := HR.out
    rw [List.take_of_length_le (by rw [zipK_len k l HK.out]; exact Nat.le_refl _)] at hR
    rw [pairs_yes HOK.out]
    exact hR
 ·have hkn : ((l.length : Int) != (k.length : Int)) = true := by simpa using fun h => hkl (by omega)
  have HF := Hd.mk (show keysOk k l = false by unfold keysOk; rw [show (k.length == l.length) = false by simpa using hkl, Bool.and_false])
  clear hkl
  go_enter Tryd.func20, Tryd.ntmps20
  go_wp2_with fail
  refine bodyPost_retW (v := .tuple #[.slice none 0 0, .bool false]) (by simp [results, Tryd.results20, go_sem]) rfl ?_
  intro W hW; subst hW
  exact ⟨_, by rw [HF.out], by rw [pairs_no HF.out]; exact R_nil, below_alloc (Below.refl _ _) _⟩
def maxN {α : Type} (f : α → Nat) : List α → Nat
 | [] => 0
 | x :: l => max (f x) (maxN f l)
theorem maxN_append {α : Type} (f : α → Nat) (l m : List α) : maxN f (l ++ m) = max (maxN f l) (maxN f m) := by
 induction l with
 | nil => simp [maxN]
 | cons x l ih => simp only [List.cons_append, maxN, ih]; omega
theorem maxN_take {α : Type} (f : α → Nat) (l : List α) (k : Nat) (hk : k < l.length) : maxN f (l.take (k + 1)) = max (maxN f (l.take k)) (f l[k]) := by
 rw [List.take_succ_eq_append_getElem hk, maxN_append]; simp [maxN]
theorem maxN_le {α : Type} (f : α → Nat) (b : Nat) (h : ∀ x, f x ≤ b) : ∀ l : List α, maxN f l ≤ b
 | [] => Nat.zero_le _
 | x :: l => by have := h x; have := maxN_le f b h l; simp only [maxN]; omega
def depthD : Nat → J → Nat
 | 0, _ => 0
 | d + 1, j => maxN (depthD d) j.list + 1
theorem depthD_le : ∀ (d : Nat) (j : J), depthD d j ≤ d
 | 0, _ => Nat.le_refl _
 | d + 1, j => by have := maxN_le (depthD d) d (depthD_le d) j.list; simp only [depthD]; omega
theorem sumZ_mem {α : Type} (f : α → Int) (h : ∀ x, 0 ≤ f x) {l : List α} {x : α} (hx : x ∈ l) : f x ≤ sumZ f l := by
 induction l with
 | nil => cases hx
 | cons y l ih =>
  simp only [sumZ]
  have h1 := h y
  have h2 := sumZ_pos f h l
  rcases List.mem_cons.1 hx with rfl | hx
  ·omega
  ·have := ih hx; omega
theorem size_part {d : Nat} {x y : J} (h : sizeN (d + 1) x ≤ 400) (hy : y ∈ x.list) : sizeN d y ≤ 400 := by
 have := sumZ_mem (sizeN d) (sizeN_pos d) hy
 unfold sizeN at h
 split at h <;> omega
def jsonDepth (x : J) : Int := if sizeN 6 x ≤ 400 then depthD 6 x else 0
theorem J_ext {x y : J} (h0 : x.kind = y.kind) (h1 : x.n = y.n) (h2 : x.s = y.s) (h3 : x.list = y.list) (h4 : x.names = y.names) : x = y := by
 cases x; cases y
 exact J.mk.injEq .. ▸ ⟨h0, h1, h2, h3, h4⟩
set_option maxRecDepth 100000 in
theorem slices_Equal_str (A A2 : Option Addr) (c c2 : Nat) (l l2 : List ByteArray) (w : World) (hr : str.C w A l) (hr2 : str.C w A2 l2) :
  Calls Tryd.prog 47 #[.slice A l.length c, .slice A2 l2.length c2] w fun e w' => e = .returned (.bool (eqv l l2)) ∧ Below w.heap.size w w' := by
 have hm := hr.1
 have hm2 := hr2.1
 go_enter Tryd.func47, Tryd.ntmps47
 by_cases hlen : l.length = l2.length
 ·have hd : ((l.length : Int) != l2.length) = false := by simp [hlen]
  have HL := Hd.mk hlen
  have HC := Hd.mk hr
  have HC2 := Hd.mk hr2
  clear hr hr2 hlen
  go_wp2
  go_loopw [13] (fun i wr => ∃ k : Nat, k ≤ l.length ∧ i = .int .i64 k ∧ Hd (l.take k = l2.take k) ∧ Hd (Below w.heap.size w wr)) (fun i _ => l.length - (intOf i).toNat)
  case atStart => exact ⟨0, Nat.zero_le _, rfl, ⟨rfl⟩, ⟨Below.refl _ _⟩⟩
  case round =>
   obtain ⟨k, hk, rfl, HK, HB⟩ := hrel
   by_cases hlt : k < l.length
   ·obtain ⟨ad, rfl, hx, hsz⟩ := C_str_at HC.out HB.out k hlt
    have hlt2 : k < l2.length := by have := HL.out; omega
    obtain ⟨ad2, rfl, hx2, hsz2⟩ := C_str_at HC2.out HB.out k hlt2
    cases hb : (l[k].toList == l2[k].toList)
    rotate_left
    ·go_wp2
     go_quiet (fail)
     go_wp2
     go_roundw
     case rel => 
      refine ⟨k + 1, by omega, by go_num, ⟨?_⟩, ⟨?_⟩⟩
      ·have hb : l[k] = l2[k] := bytes_eq.1 hb
       rw [List.take_succ_eq_append_getElem hlt, List.take_succ_eq_append_getElem hlt2, HK.out, hb]
      ·exact below_drewN HB.out _
     case measure => simp [intOf]; omega
    ·have HN := Hd.mk (eqv_at k hlt hlt2 (fun h => by rw [h] at hb; simp at hb))
     go_wp2
     go_quiet (fail)
     go_wp2
     go_ret
     exact ⟨by rw [HN.out]; rfl, below_drewN HB.out _⟩
   ·obtain rfl : k = l.length := by omega
    go_wp2
    go_ret
    have h1 := HK.out
    rw [List.take_length, HL.out, List.take_length] at h1
    exact ⟨by rw [eqv_iff.2 h1]; rfl, HB.out⟩
 ·have hd : ((l.length : Int) != l2.length) = true := by simp; omega
  have HN := Hd.mk (eqv_len hlen)
  go_wp2
  go_ret
  exact ⟨by rw [HN.out]; rfl, Below.refl _ _⟩
def AlikeC (m : Nat) : Prop := ∀ (x y : J) (cs cs2 : List Value) (w : World), (tJ m).K w x cs → (tJ m).K w y cs2 →
 Calls Tryd.prog 24 #[.agg cs.toArray, .agg cs2.toArray] w fun e w' => e = .returned (.bool (eqv x y)) ∧ Below w.heap.size w w'
set_option maxRecDepth 100000 in
theorem slices_EqualFunc_alike {m : Nat} (ih : AlikeC m) (A A2 : Option Addr) (c c2 : Nat) (l l2 : List J) (w : World) (hr : (tJ m).C w A l) (hr2 : (tJ m).C w A2 l2) :
  Calls Tryd.prog 48 #[.slice A l.length c, .slice A2 l2.length c2, .func (.func 24) #[] #[]] w fun e w' => e = .returned (.bool (eqv l l2)) ∧ Below w.heap.size w w' := by
 have hm := hr.1
 have hm2 := hr2.1
 go_enter Tryd.func48, Tryd.ntmps48
 by_cases hlen : l.length = l2.length
 ·have hd : ((l.length : Int) != l2.length) = false := by simp [hlen]
  have HL := Hd.mk hlen
  have HC := Hd.mk hr
  have HC2 := Hd.mk hr2
  clear hr hr2 hlen
  go_wp2_with fail
  go_loopw [17] (fun i wr => ∃ k : Nat, k ≤ l.length ∧ i = .int .i64 k ∧ Hd (l.take k = l2.take k) ∧ Hd (Below w.heap.size w wr)) (fun i _ => l.length - (intOf i).toNat)
  case atStart => exact ⟨0, Nat.zero_le _, rfl, ⟨rfl⟩, ⟨Below.refl _ _⟩⟩
  case round =>
   obtain ⟨k, hk, rfl, HK1, HB⟩ := hrel
   by_cases hlt : k < l.length
   ·have hlt2 : k < l2.length := by have := HL.out; omega
    obtain ⟨m, rfl⟩ : ∃ m1 : Nat, m = m1 + 1 := by
     cases m with
     | zero => obtain ⟨_, _, _, h, _⟩ := C_at HC.out (Below.refl _ _) k hlt; exact h.elim
     | succ m => exact ⟨m, rfl⟩
    obtain ⟨ad, A3, c3, A4, c4, rfl, x0, x1, x2, x3, x4, hs4, hr3, hr4⟩ := C_J_at HC.out HB.out k hlt
    have HK4 := Hd.mk (tJ_K.2 ⟨A3, c3, A4, c4, rfl, hs4, hr3, hr4⟩ : (tJ (m + 1)).K wr l[k] _)
    obtain ⟨ad2, A5, c5, A6, c6, rfl, y0, y1, y2, y3, y4, hs5, hr5, hr6⟩ := C_J_at HC2.out HB.out k hlt2
    have HK5 := Hd.mk (tJ_K.2 ⟨A5, c5, A6, c6, rfl, hs5, hr5, hr6⟩ : (tJ (m + 1)).K wr l2[k] _)
    clear hr3 hr4 hr5 hr6
    have z0 := fun o => cell_below (below_alloc (Below.refl _ _) o) y0
    have z1 := fun o => cell_below (below_alloc (Below.refl _ _) o) y1
    have z2 := fun o => cell_below (below_alloc (Below.refl _ _) o) y2
    have z3 := fun o => cell_below (below_alloc (Below.refl _ _) o) y3
    have z4 := fun o => cell_below (below_alloc (Below.refl _ _) o) y4
    go_wp2_with fail
    apply calls_gen; intro W hW
    have hX : Below wr.heap.size wr W := by rw [hW]; (repeat (with_reducible refine below_alloc ?_ _)); exact Below.refl _ _
    clear hW
    refine (ih l[k] l2[k] _ _ W ((tJ (m + 1)).K_below hX HK4.out) ((tJ (m + 1)).K_below hX HK5.out)).mono ?_
    rintro e w1 ⟨rfl, hB1⟩
    have hB2 := below_then HB.out (below_then hX hB1)
    clear hX hB1
    cases hb : eqv l[k] l2[k]
    ·have HN := Hd.mk (eqv_at k hlt hlt2 (fun h => by rw [h, eqv_self] at hb; cases hb))
     go_wp2_with fail
     go_ret
     exact ⟨by rw [HN.out]; rfl, hB2⟩
    ·have HE := Hd.mk (eqv_iff.1 hb)
     go_wp2_with fail
     go_roundw
     case rel =>
      refine ⟨k + 1, by omega, by go_num, ⟨?_⟩, ⟨hB2⟩⟩
      rw [List.take_succ_eq_append_getElem hlt, List.take_succ_eq_append_getElem hlt2, HK1.out, HE.out]
     case measure => simp [intOf]; omega
   ·obtain rfl : k = l.length := by omega
    go_wp2_with fail
    go_ret
    have h1 := HK1.out
    rw [List.take_length, HL.out, List.take_length] at h1
    exact ⟨by rw [eqv_iff.2 h1]; rfl, HB.out⟩
 ·have hd : ((l.length : Int) != l2.length) = true := by simp; omega
  have HN := Hd.mk (eqv_len hlen)
  go_wp2_with fail
  go_ret
  exact ⟨by rw [HN.out]; rfl, Below.refl _ _⟩
set_option maxRecDepth 100000 in
theorem impl_alike_of {m : Nat} (ih : AlikeC m) : AlikeC (m + 1) := by
 intro x y cs cs2 w hk hk2
 have HK := Hd.mk hk
 have HKb := Hd.mk hk2
 obtain ⟨A1, c1, A2, c2, rfl, hs, ⟨hc1, hr1⟩, hc2, hr2⟩ := tJ_K.1 hk
 obtain ⟨Ab1, cb1, Ab2, cb2, rfl, hsb, ⟨hcb1, hrb1⟩, hcb2, hrb2⟩ := tJ_K.1 hk2
 clear hk hk2
 have hm1 := hr1.1
 have hm2 := hr2.1
 have hmb1 := hrb1.1
 have hmb2 := hrb2.1
 have HR1 := Hd.mk hr1; clear hr1
 have HR2 := Hd.mk hr2; clear hr2
 have HRb1 := Hd.mk hrb1; clear hrb1
 have HRb2 := Hd.mk hrb2; clear hrb2
 have hB := Hd.mk (show Below w.heap.size w ((w.alloc (Obj.cells #[.int .i64 x.kind, .int .i64 x.n, .string x.s, .slice A1 x.list.length c1, .slice A2 x.names.length c2] 43)).alloc (Obj.cells #[.int .i64 y.kind, .int .i64 y.n, .string y.s, .slice Ab1 y.list.length cb1, .slice Ab2 y.names.length cb2] 43)) from below_alloc (below_alloc (Below.refl _ _) _) _)
 have b0 : Blk ((w.alloc (Obj.cells #[.int .i64 x.kind, .int .i64 x.n, .string x.s, .slice A1 x.list.length c1, .slice A2 x.names.length c2] 43)).alloc (Obj.cells #[.int .i64 y.kind, .int .i64 y.n, .string y.s, .slice Ab1 y.list.length cb1, .slice Ab2 y.names.length cb2] 43)) w.heap.size #[.int .i64 x.kind, .int .i64 x.n, .string x.s, .slice A1 x.list.length c1, .slice A2 x.names.length c2] 43 := (Blk.new w _ _).alloc _
 have b1 : Blk ((w.alloc (Obj.cells #[.int .i64 x.kind, .int .i64 x.n, .string x.s, .slice A1 x.list.length c1, .slice A2 x.names.length c2] 43)).alloc (Obj.cells #[.int .i64 y.kind, .int .i64 y.n, .string y.s, .slice Ab1 y.list.length cb1, .slice Ab2 y.names.length cb2] 43)) (w.heap.size + 1) #[.int .i64 y.kind, .int .i64 y.n, .string y.s, .slice Ab1 y.list.length cb1, .slice Ab2 y.names.length cb2] 43 := Blk.new1 w _ _ _
 go_enter Tryd.func24, Tryd.ntmps24
 cases h0 : (x.kind == y.kind)
 ·have HN := Hd.mk (eqv_no (a := x) (b := y) (fun h => by rw [h] at h0; simp at h0))
  go_wp2_with fail
  go_ret
  exact ⟨by rw [HN.out]; rfl, by exact hB.out⟩
 cases h1 : (x.n == y.n)
 ·have HN := Hd.mk (eqv_no (a := x) (b := y) (fun h => by rw [h] at h1; simp at h1))
  go_wp2_with fail
  go_ret
  exact ⟨by rw [HN.out]; rfl, by exact hB.out⟩
 cases h2 : (x.s.toList == y.s.toList)
 ·have HN := Hd.mk (eqv_no (a := x) (b := y) (fun h => by rw [h] at h2; simp at h2))
  go_wp2_with fail
  go_ret
  exact ⟨by rw [HN.out]; rfl, by exact hB.out⟩
 go_wp2_with fail
 apply calls_gen; intro W0 hW
 replace b0 : Blk W0 w.heap.size #[.int .i64 x.kind, .int .i64 x.n, .string x.s, .slice A1 x.list.length c1, .slice A2 x.names.length c2] 43 := by rw [hW]; exact b0
 replace b1 : Blk W0 (w.heap.size + 1) #[.int .i64 y.kind, .int .i64 y.n, .string y.s, .slice Ab1 y.list.length cb1, .slice Ab2 y.names.length cb2] 43 := by rw [hW]; exact b1
 replace hB : Hd (Below w.heap.size w W0) := by rw [hW]; exact hB
 clear hW
 refine (slices_Equal_str _ _ _ _ x.names y.names _ (C_below HR2.out hB.out) (C_below HRb2.out hB.out)).mono ?_
 rintro e w1 ⟨rfl, hX⟩
 replace b0 := b0.below hX
 replace b1 := b1.below hX
 replace hB := Hd.mk (below_then hB.out hX)
 clear hX
 have p3 : w1.cell? ⟨w.heap.size, 3, none⟩ = some (.slice A1 x.list.length c1) := b0.cell 3 rfl
 have q3 : w1.cell? ⟨w.heap.size + 1, 3, none⟩ = some (.slice Ab1 y.list.length cb1) := b1.cell 3 rfl
 cases h4 : eqv x.names y.names
 ·have HN := Hd.mk (eqv_no (a := x) (b := y) (fun h => by rw [h, eqv_self] at h4; cases h4))
  go_wp2_with fail
  go_ret
  exact ⟨by rw [HN.out]; rfl, hB.out⟩
 go_wp2_with fail
 refine (slices_EqualFunc_alike ih _ _ _ _ x.list y.list _ (C_below HR1.out hB.out) (C_below HRb1.out hB.out)).mono ?_
 rintro e w2 ⟨rfl, hX⟩
 replace hB := Hd.mk (below_then hB.out hX)
 clear hX
 have HE := Hd.mk (show eqv x y = eqv x.list y.list by
  cases h3 : eqv x.list y.list
  ·exact eqv_no (fun h => by rw [h, eqv_self] at h3; cases h3)
  ·exact eqv_iff.2 (J_ext (by simpa using h0) (by simpa using h1) (bytes_eq.1 h2) (eqv_iff.1 h3) (eqv_iff.1 h4)))
 go_wp2_with fail
 go_ret
 exact ⟨by rw [HE.out]; rfl, hB.out⟩
theorem alike_all : ∀ m, AlikeC m
 | 0 => fun _ _ _ _ _ hk => hk.elim
 | m + 1 => impl_alike_of (alike_all m)
def SameC (m : Nat) : Prop := ∀ (x y : J) (cs cs2 : List Value) (w : World), (tJ m).K w x cs → (tJ m).K w y cs2 →
 Calls Tryd.prog 38 #[.agg cs.toArray, .agg cs2.toArray] w fun e w' => e = .returned (.bool (eqv x y)) ∧ Below w.heap.size w w'
set_option maxRecDepth 100000 in
theorem spec_l1Same_of {m : Nat} (ih : SameC m) : SameC (m + 1) := by
 intro x y cs cs2 w hk hk2
 have HK := Hd.mk hk
 have HKb := Hd.mk hk2
 obtain ⟨A1, c1, A2, c2, rfl, hs, ⟨hc1, hr1⟩, hc2, hr2⟩ := tJ_K.1 hk
 obtain ⟨Ab1, cb1, Ab2, cb2, rfl, hsb, ⟨hcb1, hrb1⟩, hcb2, hrb2⟩ := tJ_K.1 hk2
 clear hk hk2
 have hm1 := hr1.1
 have hm2 := hr2.1
 have hmb1 := hrb1.1
 have hmb2 := hrb2.1
 have HR1 := Hd.mk hr1; clear hr1
 have HR2 := Hd.mk hr2; clear hr2
 have HRb1 := Hd.mk hrb1; clear hrb1
 have HRb2 := Hd.mk hrb2; clear hrb2
 have hB := Hd.mk (show Below w.heap.size w ((w.alloc (Obj.cells #[.int .i64 x.kind, .int .i64 x.n, .string x.s, .slice A1 x.list.length c1, .slice A2 x.names.length c2] 43)).alloc (Obj.cells #[.int .i64 y.kind, .int .i64 y.n, .string y.s, .slice Ab1 y.list.length cb1, .slice Ab2 y.names.length cb2] 43)) from below_alloc (below_alloc (Below.refl _ _) _) _)
 have b0 : Blk ((w.alloc (Obj.cells #[.int .i64 x.kind, .int .i64 x.n, .string x.s, .slice A1 x.list.length c1, .slice A2 x.names.length c2] 43)).alloc (Obj.cells #[.int .i64 y.kind, .int .i64 y.n, .string y.s, .slice Ab1 y.list.length cb1, .slice Ab2 y.names.length cb2] 43)) w.heap.size #[.int .i64 x.kind, .int .i64 x.n, .string x.s, .slice A1 x.list.length c1, .slice A2 x.names.length c2] 43 := (Blk.new w _ _).alloc _
 have b1 : Blk ((w.alloc (Obj.cells #[.int .i64 x.kind, .int .i64 x.n, .string x.s, .slice A1 x.list.length c1, .slice A2 x.names.length c2] 43)).alloc (Obj.cells #[.int .i64 y.kind, .int .i64 y.n, .string y.s, .slice Ab1 y.list.length cb1, .slice Ab2 y.names.length cb2] 43)) (w.heap.size + 1) #[.int .i64 y.kind, .int .i64 y.n, .string y.s, .slice Ab1 y.list.length cb1, .slice Ab2 y.names.length cb2] 43 := Blk.new1 w _ _ _
 go_enter Tryd.func38, Tryd.ntmps38
 cases h0 : (x.kind != y.kind)
 case true =>
  have HN := Hd.mk (eqv_no (a := x) (b := y) (fun h => by rw [h] at h0; simp at h0))
  go_wp2_with fail
  go_ret
  exact ⟨by rw [HN.out]; rfl, by exact hB.out⟩
 cases h1 : (x.n != y.n)
 case true =>
  have HN := Hd.mk (eqv_no (a := x) (b := y) (fun h => by rw [h] at h1; simp at h1))
  go_wp2_with fail
  go_ret
  exact ⟨by rw [HN.out]; rfl, by exact hB.out⟩
 cases h2 : (x.s.toList == y.s.toList)
 ·have HN := Hd.mk (eqv_no (a := x) (b := y) (fun h => by rw [h] at h2; simp at h2))
  go_wp2_with fail
  go_ret
  exact ⟨by rw [HN.out]; rfl, by exact hB.out⟩
 by_cases hl : x.list.length = y.list.length
 rotate_left
 ·have hd : ((x.list.length : Int) != y.list.length) = true := by simp; omega
  have HN := Hd.mk (eqv_no (a := x) (b := y) (fun h => by rw [h] at hl; exact hl rfl))
  go_wp2_with fail
  go_ret
  exact ⟨by rw [HN.out]; rfl, by exact hB.out⟩
 have hd : ((x.list.length : Int) != y.list.length) = false := by simp [hl]
 have HL := Hd.mk hl; clear hl
 by_cases hn : x.names.length = y.names.length
 rotate_left
 ·have hd2 : ((x.names.length : Int) != y.names.length) = true := by simp; omega
  have HN := Hd.mk (eqv_no (a := x) (b := y) (fun h => by rw [h] at hn; exact hn rfl))
  go_wp2_with fail
  go_ret
  exact ⟨by rw [HN.out]; rfl, by exact hB.out⟩
 have hd2 : ((x.names.length : Int) != y.names.length) = false := by simp [hn]
 have HM := Hd.mk hn; clear hn
 have HE := Hd.mk (show x.list = y.list → x.names = y.names → eqv x y = true from fun e3 e4 => eqv_iff.2 (J_ext (by simpa using h0) (by simpa using h1) (bytes_eq.1 h2) e3 e4))
 go_wp2_with fail
 clear h0 h1 h2 hd hd2
 go_loopw [5] (fun i wr => ∃ k : Nat, k ≤ x.list.length ∧ i = .int .i64 k ∧ Hd (x.list.take k = y.list.take k) ∧ Hd (Below w.heap.size w wr) ∧ Blk wr w.heap.size #[.int .i64 x.kind, .int .i64 x.n, .string x.s, .slice A1 x.list.length c1, .slice A2 x.names.length c2] 43 ∧ Blk wr (w.heap.size + 1) #[.int .i64 y.kind, .int .i64 y.n, .string y.s, .slice Ab1 y.list.length cb1, .slice Ab2 y.names.length cb2] 43) (fun i _ => x.list.length - (intOf i).toNat)
 case atStart => exact ⟨0, Nat.zero_le _, rfl, ⟨rfl⟩, hB, b0, b1⟩
 case round =>
  clear hB b0 b1
  obtain ⟨k, hk, rfl, HK1, hB, b0, b1⟩ := hrel
  have p3 : wr.cell? ⟨w.heap.size, 3, none⟩ = some (.slice A1 x.list.length c1) := b0.cell 3 rfl
  have q3 : wr.cell? ⟨w.heap.size + 1, 3, none⟩ = some (.slice Ab1 y.list.length cb1) := b1.cell 3 rfl
  have p4 : wr.cell? ⟨w.heap.size, 4, none⟩ = some (.slice A2 x.names.length c2) := b0.cell 4 rfl
  have q4 : wr.cell? ⟨w.heap.size + 1, 4, none⟩ = some (.slice Ab2 y.names.length cb2) := b1.cell 4 rfl
  by_cases hlt : k < x.list.length
  ·have hlt2 : k < y.list.length := by have := HL.out; omega
   obtain ⟨m, rfl⟩ : ∃ m1 : Nat, m = m1 + 1 := by
    cases m with
    | zero => obtain ⟨_, _, _, h, _⟩ := C_at HR1.out (Below.refl _ _) k hlt; exact h.elim
    | succ m => exact ⟨m, rfl⟩
   obtain ⟨ad, A3, c3, A4, c4, rfl, x0, x1, x2, x3, x4, hs4, hr3, hr4⟩ := C_J_at HR1.out hB.out k hlt
   have HK4 := Hd.mk (tJ_K.2 ⟨A3, c3, A4, c4, rfl, hs4, hr3, hr4⟩ : (tJ (m + 1)).K wr x.list[k] _)
   obtain ⟨ad2, A5, c5, A6, c6, rfl, y0, y1, y2, y3, y4, hs5, hr5, hr6⟩ := C_J_at HRb1.out hB.out k hlt2
   have HK5 := Hd.mk (tJ_K.2 ⟨A5, c5, A6, c6, rfl, hs5, hr5, hr6⟩ : (tJ (m + 1)).K wr y.list[k] _)
   clear hr3 hr4 hr5 hr6
   have ux0 := cell_regrown x0
   have ux1 := cell_regrown x1
   have ux2 := cell_regrown x2
   have ux3 := cell_regrown x3
   have ux4 := cell_regrown x4
   have uy0 := cell_regrown y0
   have uy1 := cell_regrown y1
   have uy2 := cell_regrown y2
   have uy3 := cell_regrown y3
   have uy4 := cell_regrown y4
   have up3 := cell_regrown p3
   have uq3 := cell_regrown q3
   go_wp2_with fail
   refine region_mix [(true, 0), (true, 1), (true, 2), (true, 3), (true, 4), (true, 5), (true, 6), (true, 7), (true, 8), (true, 9), (false, 10), (true, 11)] (by kernel_rfl) (by kernel_rfl) (fun _ _ _ _ _ h => h) ?_
   (repeat (first | (refine mix_z rfl (by rfl) ?_; go_big_quiet_skip; refine wpQuiet_nil ?_) | (refine mix_q rfl ?_; first | (go_big_quiet_skip; refine wpQuiet_nil ?_) | (go_big_quiet_want; go_big_quiet_op; go_big_quiet_on; refine wpQuiet_nil ?_))))
   refine mix_b rfl ?_ (by rfl)
   go_wp2_with fail
   apply calls_gen; intro W hW
   have hX : Below wr.heap.size wr W := by rw [hW]; exact below_drew (Below.refl _ _)
   clear hW
   refine (ih x.list[k] y.list[k] _ _ W ((tJ (m + 1)).K_below hX HK4.out) ((tJ (m + 1)).K_below hX HK5.out)).mono ?_
   rintro e w1 ⟨rfl, hB1⟩
   have hS := Hd.mk (below_then hX hB1)
   have hB2 := Hd.mk (below_then hB.out hS.out)
   have b02 := b0.below hS.out
   have b12 := b1.below hS.out
   clear hX hB1
   cases hb : eqv x.list[k] y.list[k]
   ·have HN := Hd.mk (eqv_no (a := x) (b := y) (fun h => by have := eqv_at k hlt hlt2 (fun h => by rw [h, eqv_self] at hb; cases hb); rw [h, eqv_self] at this; cases this))
    go_wp2_with fail
    refine ⟨cls_below hS.out, ?_⟩
    (repeat (first | (refine mix_z rfl (by rfl) ?_; go_big_quiet_skip; refine wpQuiet_nil ?_) | (refine mix_q rfl ?_; first | (go_big_quiet_skip; refine wpQuiet_nil ?_) | (go_big_quiet_want; go_big_quiet_op; go_big_quiet_on; refine wpQuiet_nil ?_))))
    refine mix_nil ?_
    go_wp2_with fail
    go_ret
    exact ⟨by rw [HN.out]; rfl, hB2.out⟩
   ·have HE2 := Hd.mk (eqv_iff.1 hb)
    go_wp2_with fail
    refine ⟨cls_below hS.out, ?_⟩
    (repeat (first | (refine mix_z rfl (by rfl) ?_; go_big_quiet_skip; refine wpQuiet_nil ?_) | (refine mix_q rfl ?_; first | (go_big_quiet_skip; refine wpQuiet_nil ?_) | (go_big_quiet_want; go_big_quiet_op; go_big_quiet_on; refine wpQuiet_nil ?_))))
    refine mix_nil ?_
    clear ux0 ux1 ux2 ux3 ux4 uy0 uy1 uy2 uy3 uy4 up3 uq3
    go_wp2_with fail
    go_roundw
    case rel =>
     refine ⟨k + 1, by omega, by go_num, ⟨?_⟩, hB2, b02, b12⟩
     rw [List.take_succ_eq_append_getElem hlt, List.take_succ_eq_append_getElem hlt2, HK1.out, HE2.out]
    case measure => simp [intOf]; omega
  ·obtain rfl : k = x.list.length := by omega
   have HE3 := Hd.mk (show x.names = y.names → eqv x y = true from by
    have h1 := HK1.out
    rw [List.take_length, HL.out, List.take_length] at h1
    exact HE.out h1)
   go_wp2_with fail
   clear p3 p4 q3 q4
   go_loopw [6] (fun i w9 => ∃ k : Nat, k ≤ x.names.length ∧ i = .int .i64 k ∧ Hd (x.names.take k = y.names.take k) ∧ Hd (Below w.heap.size w w9) ∧ Blk w9 w.heap.size #[.int .i64 x.kind, .int .i64 x.n, .string x.s, .slice A1 x.list.length c1, .slice A2 x.names.length c2] 43 ∧ Blk w9 (w.heap.size + 1) #[.int .i64 y.kind, .int .i64 y.n, .string y.s, .slice Ab1 y.list.length cb1, .slice Ab2 y.names.length cb2] 43) (fun i _ => x.names.length - (intOf i).toNat)
   case atStart => exact ⟨0, Nat.zero_le _, rfl, ⟨rfl⟩, hB, b0, b1⟩
   case round =>
    clear hB b0 b1 HK1
    obtain ⟨k, hk, rfl, HK1, hB, b0, b1⟩ := hrel
    have p4 : wr.cell? ⟨w.heap.size, 4, none⟩ = some (.slice A2 x.names.length c2) := b0.cell 4 rfl
    have q4 : wr.cell? ⟨w.heap.size + 1, 4, none⟩ = some (.slice Ab2 y.names.length cb2) := b1.cell 4 rfl
    by_cases hlt : k < x.names.length
    ·have hlt2 : k < y.names.length := by have := HM.out; omega
     obtain ⟨ad, rfl, hx, hsz⟩ := C_str_at HR2.out hB.out k hlt
     obtain ⟨ad2, rfl, hx2, hsz2⟩ := C_str_at HRb2.out hB.out k hlt2
     cases hb : (x.names[k].toList == y.names[k].toList)
     ·have HN := Hd.mk (eqv_no (a := x) (b := y) (fun h => by have := eqv_at k hlt hlt2 (fun h9 => by rw [h9] at hb; simp at hb); rw [h, eqv_self] at this; cases this))
      go_wp2_with fail
      go_quiet (fail)
      go_wp2_with fail
      go_ret
      exact ⟨by rw [HN.out]; rfl, below_drewN hB.out _⟩
     ·have HE2 := Hd.mk (bytes_eq.1 hb)
      go_wp2_with fail
      go_quiet (fail)
      go_wp2_with fail
      go_roundw
      case rel =>
       refine ⟨k + 1, by omega, by go_num, ⟨?_⟩, ⟨below_drewN hB.out _⟩, b0.drewN _, b1.drewN _⟩
       rw [List.take_succ_eq_append_getElem hlt, List.take_succ_eq_append_getElem hlt2, HK1.out, HE2.out]
      case measure => simp [intOf]; omega
    ·obtain rfl : k = x.names.length := by omega
     have HN := Hd.mk (HE3.out (by
      have h1 := HK1.out
      rw [List.take_length, HM.out, List.take_length] at h1
      exact h1))
     go_wp2_with fail
     go_ret
     exact ⟨by rw [HN.out]; rfl, hB.out⟩
theorem same_all : ∀ m, SameC m
 | 0 => fun _ _ _ _ _ hk => hk.elim
 | m + 1 => spec_l1Same_of (same_all m)
noncomputable def jsonSame (x y : J) : Bool := jsonOk x && (jsonOk y && eqv x y)
theorem sumZ_congr {α : Type} (f g : α → Int) : ∀ l : List α, (∀ x ∈ l, f x = g x) → sumZ f l = sumZ g l
 | [], _ => rfl
 | x :: l, h => by simp only [sumZ]; rw [h x (by simp), sumZ_congr f g l (fun y hy => h y (by simp [hy]))]
theorem sizeN_up : ∀ (d : Nat) (x : J), sizeN d x ≤ 400 → sizeN (d + 1) x = sizeN d x
 | 0, x, h => by simp [sizeN] at h
 | d + 1, x, h => by
  have h1 : sumZ (sizeN (d + 1)) x.list = sumZ (sizeN d) x.list := sumZ_congr _ _ _ (fun y hy => sizeN_up d y (size_part h hy))
  show (if ownB x = true ∧ 1 + sumZ (sizeN (d + 1)) x.list ≤ 400 then 1 + sumZ (sizeN (d + 1)) x.list else 401) = _
  rw [h1]; rfl
theorem sizeN_to {d e : Nat} (h : d ≤ e) {x : J} (hx : sizeN d x ≤ 400) : sizeN e x ≤ 400 := by
 obtain ⟨i, rfl⟩ : ∃ i, e = d + i := ⟨e - d, by omega⟩
 clear h
 induction i with
 | zero => exact hx
 | succ i ih => rw [← Nat.add_assoc, sizeN_up _ _ ih]; exact ih
theorem size_own {d : Nat} {x : J} (h : sizeN (d + 1) x ≤ 400) : ownB x = true ∧ sizeN (d + 1) x = 1 + sumZ (sizeN d) x.list := by
 unfold sizeN at h ⊢
 split at h
 ·rename_i h1
  exact ⟨h1.1, by rw [if_pos h1]⟩
 ·omega
theorem textB_size {s : ByteArray} (h : textB s = true) : s.size ≤ 60 := by
 unfold textB at h
 simp only [Bool.and_eq_true, decide_eq_true_eq] at h
 omega
theorem namesB_size {l : List ByteArray} (h : namesB l = true) : ∀ s ∈ l, s.size ≤ 60 := by
 intro s hs
 obtain ⟨k, hk, rfl⟩ := List.mem_iff_getElem.1 hs
 have h1 := List.all_eq_true.1 h k (List.mem_range.2 hk)
 rw [nameStep_at hk, Bool.and_eq_true] at h1
 exact textB_size h1.1
theorem bytes_nil' {s : ByteArray} : (s.toList == []) = true ↔ s = ByteArray.empty := by
 have : (s.toList == ByteArray.empty.toList) = true ↔ s = ByteArray.empty := bytes_eq
 simpa using this
theorem own_facts {x : J} (h : ownB x = true) : x.s.size ≤ 60 ∧ x.names.length ≤ x.list.length ∧ ∀ s ∈ x.names, s.size ≤ 60 := by
 unfold ownB at h
 split at h
 ·cases h
 split at h
 ·cases h
 rename_i h2
 split at h
 ·cases h
 split at h
 ·cases h
 rename_i h4
 have hs : x.kind ≠ 3 → x.s.size = 0 := by
  intro hk
  have : x.s.toList == [] := by
   cases hb : (x.s.toList == [])
   ·simp [hb, hk] at h4
   ·rfl
  rw [bytes_nil'.1 this]; rfl
 have hn : x.kind ≠ 5 → x.names = [] := by
  intro hk
  cases hb : x.names with
  | nil => rfl
  | cons a l => simp [hb, hk] at h2
 by_cases h5 : x.kind = 5
 ·have h6 : (((x.names.length : Int) == x.list.length) && namesB x.names) = true := by
   rw [h5] at h; exact h
  rw [Bool.and_eq_true] at h6
  refine ⟨by have := hs (by omega); omega, by have := h6.1; simp at this; omega, namesB_size h6.2⟩
 ·rw [hn h5]
  refine ⟨?_, by simp, by simp⟩
  by_cases h3 : x.kind = 3
  ·rw [h3] at h
   exact textB_size h
  ·have := hs h3; omega
theorem bulk_names {l : List ByteArray} (h : ∀ s ∈ l, s.size ≤ 60) : bulkStringS l ≤ 61 * l.length := by
 unfold bulkStringS
 induction l with
 | nil => simp [bulkL]
 | cons a l ih =>
  have h1 := h a (by simp)
  have h2 := ih (fun s hs => h s (by simp [hs]))
  simp only [bulkL, List.length_cons] at h2 ⊢
  omega
theorem bulkL_sum {α : Type} (f : α → Nat) (g : α → Int) (c e : Nat) : ∀ l : List α, (∀ x ∈ l, (f x : Int) + e ≤ c * g x) → (bulkL f l : Int) + e * l.length ≤ c * sumZ g l
 | [], _ => by simp [bulkL, sumZ]
 | x :: l, h => by
  have h1 := h x (by simp)
  have h2 := bulkL_sum f g c e l (fun y hy => h y (by simp [hy]))
  simp only [bulkL, sumZ, List.length_cons]
  have h3 : (c : Int) * (g x + sumZ g l) = c * g x + c * sumZ g l := by rw [Int.mul_add]
  have h4 : (e : Int) * ((l.length + 1 : Nat) : Int) = e * l.length + e := by push_cast; rw [Int.mul_add, Int.mul_one]
  rw [h3, h4]
  push_cast
  omega
theorem bulk_size : ∀ (m d : Nat) (x : J), sizeN d x ≤ 400 → (bulkJ m x : Int) + (62 : Nat) ≤ (122 : Nat) * sizeN d x
 | 0, d, x, h => by have := (sizeN_bound d x).1; simp only [bulkJ]; omega
 | m + 1, 0, x, h => by simp [sizeN] at h
 | m + 1, d + 1, x, h => by
  obtain ⟨ho, he⟩ := size_own h
  obtain ⟨h1, h2, h3⟩ := own_facts ho
  have h4 := bulk_names h3
  have h5 := bulkL_sum (bulkJ m) (sizeN d) 122 62 x.list (fun y hy => bulk_size m d y (size_part h hy))
  rw [he]
  simp only [bulkJ]
  push_cast at h5 ⊢
  omega
theorem cn_size : ∀ (m d : Nat) (x : J), sizeN d x ≤ 400 → (cnJ m x : Int) + (1 : Nat) ≤ (4 : Nat) * sizeN d x
 | 0, d, x, h => by have := (sizeN_bound d x).1; simp only [cnJ]; omega
 | m + 1, 0, x, h => by simp [sizeN] at h
 | m + 1, d + 1, x, h => by
  obtain ⟨ho, he⟩ := size_own h
  obtain ⟨h1, h2, h3⟩ := own_facts ho
  have h5 := bulkL_sum (cnJ m) (sizeN d) 4 1 x.list (fun y hy => cn_size m d y (size_part h hy))
  rw [he]
  simp only [cnJ]
  push_cast at h5 ⊢
  omega
theorem sum_len (d : Nat) : ∀ l : List J, (l.length : Int) ≤ sumZ (sizeN d) l
 | [] => by simp [sumZ]
 | x :: l => by have := sum_len d l; have := (sizeN_bound d x).1; simp only [sumZ, List.length_cons]; push_cast; omega
theorem list_len {d : Nat} {x : J} (h : sizeN (d + 1) x ≤ 400) : x.list.length ≤ 399 := by
 obtain ⟨_, he⟩ := size_own h
 have := sum_len d x.list
 omega
end Go.Proofs.YtegcecnjmimbiaaDoor.X
