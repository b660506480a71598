/- What is proved here: contracts of the reference's size of a value. Conditions: none. -/
import Derived.Test.YtlkjpnlpankhpaaXGc
namespace Go.Proofs.Ytlkjpnlpankhpaa.X
open Go.RowKit Go.Sort
set_option linter.unusedVariables false
set_option linter.unusedSimpArgs false
open Ty
theorem sizeN_bad {d : Nat} {x : J} (h : ownB x = false) : sizeN (d + 1) x = 401 := by simp [sizeN, h]
theorem sizeN_ok {d : Nat} {x : J} (h : ownB x = true) : sizeN (d + 1) x = if 1 + sumZ (sizeN d) x.list ≤ 400 then 1 + sumZ (sizeN d) x.list else 401 := by simp [sizeN, h]
def GreatMid (d : Nat) (l : List J) (k : Nat) (g : Int) : Prop := 1 ≤ g ∧ g ≤ 401 + 400 * ((d : Int) + 1) ∧ (g ≤ 400 → g = 1 + sumZ (sizeN d) (l.take k)) ∧ (400 < g → 400 < 1 + sumZ (sizeN d) l)
theorem greatMid_start {d : Nat} {l : List J} : GreatMid d l 0 1 := ⟨by omega, by omega, fun _ => rfl, fun h => by omega⟩
theorem greatMid_step {d : Nat} {l : List J} {k : Nat} {g g2 : Int} (hk : k < l.length) (h : GreatMid d l k g) (hg : g ≤ 400) (h2 : (if g2 ≤ 400 then g2 else 401) = sizeN d l[k]) (h3 : 1 ≤ g2) (h4 : g2 ≤ 401 + 400 * (d : Int)) : GreatMid d l (k + 1) (g + g2) := by
  obtain ⟨a, b, c, e⟩ := h
  have c := c hg
  have h5 := sumZ_take (sizeN d) l k hk
  have h6 := sumZ_le (sizeN d) (sizeN_pos d) l (k + 1)
  refine ⟨by omega, by omega, fun h => ?_, fun h => ?_⟩
  · rw [if_pos (by omega)] at h2; omega
  · split at h2 <;> omega
theorem greatMid_end {d : Nat} {l : List J} {k : Nat} {g : Int} (h : GreatMid d l k g) (he : k = l.length ∨ 400 < g) : (if g ≤ 400 then g else 401) = if 1 + sumZ (sizeN d) l ≤ 400 then 1 + sumZ (sizeN d) l else 401 := by
  obtain ⟨a, b, c, e⟩ := h
  by_cases hg : g ≤ 400
  · have hk : k = l.length := by omega
    have := c hg
    rw [hk, List.take_length] at this
    rw [if_pos hg, if_pos (by omega), this]
  · have := e (by omega)
    rw [if_neg hg, if_neg (by omega)]
def GreatPost (d : Nat) (x : J) (w : World) : Ending → World → Prop := fun e w' => ∃ g : Int, e = .returned (.int .i64 g) ∧ (if g ≤ 400 then g else 401) = sizeN d x ∧ 1 ≤ g ∧ g ≤ 401 + 400 * (d : Int) ∧ Below w.heap.size w w'
def GreatC (m : Nat) : Prop := ∀ (x : J) (cs : List Value) (d : Nat) (w : World), d ≤ 6 → (tJ m).K w x cs → Calls Try.prog 39 #[.agg cs.toArray, .int .i64 d] w (GreatPost d x w)
theorem ownx_0 {kind n : Int} {s : ByteArray} {list : List J} {names : List ByteArray} (h3 : (n != 0) = true) : ownB (J.mk 0 n s list names) = false := by
  simp_all [ownB, isNumB, namesOkB, List.length_pos_iff] <;> (cases h : namesB names <;> simp_all)
theorem ownx_1 {kind n : Int} {s : ByteArray} {list : List J} {names : List ByteArray} (h3 : (n != 0) = false) (h4 : (s.toList == []) = false) : ownB (J.mk 0 n s list names) = false := by
  simp_all [ownB, isNumB, namesOkB, List.length_pos_iff] <;> (cases h : namesB names <;> simp_all)
theorem ownx_2 {kind n : Int} {s : ByteArray} {list : List J} {names : List ByteArray} (h3 : (n != 0) = false) (h4 : (s.toList == []) = true) (h1 : 0 < list.length) : ownB (J.mk 0 n s list names) = false := by
  simp_all [ownB, isNumB, namesOkB, List.length_pos_iff] <;> (cases h : namesB names <;> simp_all)
theorem ownx_3 {kind n : Int} {s : ByteArray} {list : List J} {names : List ByteArray} (h3 : (n != 0) = false) (h4 : (s.toList == []) = true) (hq : namesOkB (J.mk 0 n s ([] : List J) names) = false) : ownB (J.mk 0 n s ([] : List J) names) = false := by
  simp_all [ownB, isNumB, namesOkB, List.length_pos_iff] <;> (cases h : namesB names <;> simp_all)
theorem ownx_4 {kind n : Int} {s : ByteArray} {list : List J} {names : List ByteArray} (h3 : (n != 0) = false) (h4 : (s.toList == []) = true) (hq : namesOkB (J.mk 0 n s ([] : List J) names) = true) : ownB (J.mk 0 n s ([] : List J) names) = true := by
  simp_all [ownB, isNumB, namesOkB, List.length_pos_iff] <;> (cases h : namesB names <;> simp_all)
theorem ownx_5 {kind n : Int} {s : ByteArray} {list : List J} {names : List ByteArray} (h6 : inB n 0 1 = false) : ownB (J.mk 1 n s list names) = false := by
  simp_all [ownB, isNumB, namesOkB, List.length_pos_iff] <;> (cases h : namesB names <;> simp_all)
theorem ownx_6 {kind n : Int} {s : ByteArray} {list : List J} {names : List ByteArray} (h6 : inB n 0 1 = true) (h4 : (s.toList == []) = false) : ownB (J.mk 1 n s list names) = false := by
  simp_all [ownB, isNumB, namesOkB, List.length_pos_iff] <;> (cases h : namesB names <;> simp_all)
theorem ownx_7 {kind n : Int} {s : ByteArray} {list : List J} {names : List ByteArray} (h6 : inB n 0 1 = true) (h4 : (s.toList == []) = true) (h1 : 0 < list.length) : ownB (J.mk 1 n s list names) = false := by
  simp_all [ownB, isNumB, namesOkB, List.length_pos_iff] <;> (cases h : namesB names <;> simp_all)
theorem ownx_8 {kind n : Int} {s : ByteArray} {list : List J} {names : List ByteArray} (h6 : inB n 0 1 = true) (h4 : (s.toList == []) = true) (hq : namesOkB (J.mk 1 n s ([] : List J) names) = false) : ownB (J.mk 1 n s ([] : List J) names) = false := by
  simp_all [ownB, isNumB, namesOkB, List.length_pos_iff] <;> (cases h : namesB names <;> simp_all)
theorem ownx_9 {kind n : Int} {s : ByteArray} {list : List J} {names : List ByteArray} (h6 : inB n 0 1 = true) (h4 : (s.toList == []) = true) (hq : namesOkB (J.mk 1 n s ([] : List J) names) = true) : ownB (J.mk 1 n s ([] : List J) names) = true := by
  simp_all [ownB, isNumB, namesOkB, List.length_pos_iff] <;> (cases h : namesB names <;> simp_all)
theorem ownx_10 {kind n : Int} {s : ByteArray} {list : List J} {names : List ByteArray} (h6 : inB n (-1000000000) 1000000000 = false) : ownB (J.mk 2 n s list names) = false := by
  simp_all [ownB, isNumB, namesOkB, List.length_pos_iff] <;> (cases h : namesB names <;> simp_all)
theorem ownx_11 {kind n : Int} {s : ByteArray} {list : List J} {names : List ByteArray} (h6 : inB n (-1000000000) 1000000000 = true) (h4 : (s.toList == []) = false) : ownB (J.mk 2 n s list names) = false := by
  simp_all [ownB, isNumB, namesOkB, List.length_pos_iff] <;> (cases h : namesB names <;> simp_all)
theorem ownx_12 {kind n : Int} {s : ByteArray} {list : List J} {names : List ByteArray} (h6 : inB n (-1000000000) 1000000000 = true) (h4 : (s.toList == []) = true) (h1 : 0 < list.length) : ownB (J.mk 2 n s list names) = false := by
  simp_all [ownB, isNumB, namesOkB, List.length_pos_iff] <;> (cases h : namesB names <;> simp_all)
theorem ownx_13 {kind n : Int} {s : ByteArray} {list : List J} {names : List ByteArray} (h6 : inB n (-1000000000) 1000000000 = true) (h4 : (s.toList == []) = true) (hq : namesOkB (J.mk 2 n s ([] : List J) names) = false) : ownB (J.mk 2 n s ([] : List J) names) = false := by
  simp_all [ownB, isNumB, namesOkB, List.length_pos_iff] <;> (cases h : namesB names <;> simp_all)
theorem ownx_14 {kind n : Int} {s : ByteArray} {list : List J} {names : List ByteArray} (h6 : inB n (-1000000000) 1000000000 = true) (h4 : (s.toList == []) = true) (hq : namesOkB (J.mk 2 n s ([] : List J) names) = true) : ownB (J.mk 2 n s ([] : List J) names) = true := by
  simp_all [ownB, isNumB, namesOkB, List.length_pos_iff] <;> (cases h : namesB names <;> simp_all)
theorem ownx_15 {kind n : Int} {s : ByteArray} {list : List J} {names : List ByteArray} (h6 : textB s = false) : ownB (J.mk 3 n s list names) = false := by
  simp_all [ownB, isNumB, namesOkB, List.length_pos_iff] <;> (cases h : namesB names <;> simp_all)
theorem ownx_16 {kind n : Int} {s : ByteArray} {list : List J} {names : List ByteArray} (h6 : textB s = true) (h3 : (n != 0) = true) : ownB (J.mk 3 n s list names) = false := by
  simp_all [ownB, isNumB, namesOkB, List.length_pos_iff] <;> (cases h : namesB names <;> simp_all)
theorem ownx_17 {kind n : Int} {s : ByteArray} {list : List J} {names : List ByteArray} (h6 : textB s = true) (h3 : (n != 0) = false) (h1 : 0 < list.length) : ownB (J.mk 3 n s list names) = false := by
  simp_all [ownB, isNumB, namesOkB, List.length_pos_iff] <;> (cases h : namesB names <;> simp_all)
theorem ownx_18 {kind n : Int} {s : ByteArray} {list : List J} {names : List ByteArray} (h6 : textB s = true) (h3 : (n != 0) = false) (hq : namesOkB (J.mk 3 n s ([] : List J) names) = false) : ownB (J.mk 3 n s ([] : List J) names) = false := by
  simp_all [ownB, isNumB, namesOkB, List.length_pos_iff] <;> (cases h : namesB names <;> simp_all)
theorem ownx_19 {kind n : Int} {s : ByteArray} {list : List J} {names : List ByteArray} (h6 : textB s = true) (h3 : (n != 0) = false) (hq : namesOkB (J.mk 3 n s ([] : List J) names) = true) : ownB (J.mk 3 n s ([] : List J) names) = true := by
  simp_all [ownB, isNumB, namesOkB, List.length_pos_iff] <;> (cases h : namesB names <;> simp_all)
theorem ownx_20 {kind n : Int} {s : ByteArray} {list : List J} {names : List ByteArray} (h4 : (s.toList == []) = false) : ownB (J.mk 4 n s list names) = false := by
  simp_all [ownB, isNumB, namesOkB, List.length_pos_iff] <;> (cases h : namesB names <;> simp_all)
theorem ownx_21 {kind n : Int} {s : ByteArray} {list : List J} {names : List ByteArray} (h4 : (s.toList == []) = true) (h3 : (n != 0) = true) : ownB (J.mk 4 n s list names) = false := by
  simp_all [ownB, isNumB, namesOkB, List.length_pos_iff] <;> (cases h : namesB names <;> simp_all)
theorem ownx_22 {kind n : Int} {s : ByteArray} {list : List J} {names : List ByteArray} (h4 : (s.toList == []) = true) (h3 : (n != 0) = false) (hq : namesOkB (J.mk 4 n s list names) = false) : ownB (J.mk 4 n s list names) = false := by
  simp_all [ownB, isNumB, namesOkB, List.length_pos_iff] <;> (cases h : namesB names <;> simp_all)
theorem ownx_23 {kind n : Int} {s : ByteArray} {list : List J} {names : List ByteArray} (h4 : (s.toList == []) = true) (h3 : (n != 0) = false) (hq : namesOkB (J.mk 4 n s list names) = true) : ownB (J.mk 4 n s list names) = true := by
  simp_all [ownB, isNumB, namesOkB, List.length_pos_iff] <;> (cases h : namesB names <;> simp_all)
theorem ownx_24 {kind n : Int} {s : ByteArray} {list : List J} {names : List ByteArray} (h4 : (s.toList == []) = false) : ownB (J.mk 4 n s list names) = false := by
  simp_all [ownB, isNumB, namesOkB, List.length_pos_iff] <;> (cases h : namesB names <;> simp_all)
theorem ownx_25 {kind n : Int} {s : ByteArray} {list : List J} {names : List ByteArray} (h4 : (s.toList == []) = true) (h3 : (n != 0) = true) : ownB (J.mk 4 n s list names) = false := by
  simp_all [ownB, isNumB, namesOkB, List.length_pos_iff] <;> (cases h : namesB names <;> simp_all)
theorem ownx_26 {kind n : Int} {s : ByteArray} {list : List J} {names : List ByteArray} (h4 : (s.toList == []) = true) (h3 : (n != 0) = false) (hq : namesOkB (J.mk 4 n s list names) = false) : ownB (J.mk 4 n s list names) = false := by
  simp_all [ownB, isNumB, namesOkB, List.length_pos_iff] <;> (cases h : namesB names <;> simp_all)
theorem ownx_27 {kind n : Int} {s : ByteArray} {list : List J} {names : List ByteArray} (h4 : (s.toList == []) = true) (h3 : (n != 0) = false) (hq : namesOkB (J.mk 4 n s list names) = true) : ownB (J.mk 4 n s list names) = true := by
  simp_all [ownB, isNumB, namesOkB, List.length_pos_iff] <;> (cases h : namesB names <;> simp_all)
theorem ownx_28 {kind n : Int} {s : ByteArray} {list : List J} {names : List ByteArray} (h4 : (s.toList == []) = false) : ownB (J.mk 4 n s list names) = false := by
  simp_all [ownB, isNumB, namesOkB, List.length_pos_iff] <;> (cases h : namesB names <;> simp_all)
theorem ownx_29 {kind n : Int} {s : ByteArray} {list : List J} {names : List ByteArray} (h4 : (s.toList == []) = true) (h3 : (n != 0) = true) : ownB (J.mk 4 n s list names) = false := by
  simp_all [ownB, isNumB, namesOkB, List.length_pos_iff] <;> (cases h : namesB names <;> simp_all)
theorem ownx_30 {kind n : Int} {s : ByteArray} {list : List J} {names : List ByteArray} (h4 : (s.toList == []) = true) (h3 : (n != 0) = false) (hq : namesOkB (J.mk 4 n s list names) = false) : ownB (J.mk 4 n s list names) = false := by
  simp_all [ownB, isNumB, namesOkB, List.length_pos_iff] <;> (cases h : namesB names <;> simp_all)
theorem ownx_31 {kind n : Int} {s : ByteArray} {list : List J} {names : List ByteArray} (h4 : (s.toList == []) = true) (h3 : (n != 0) = false) (hq : namesOkB (J.mk 4 n s list names) = true) : ownB (J.mk 4 n s list names) = true := by
  simp_all [ownB, isNumB, namesOkB, List.length_pos_iff] <;> (cases h : namesB names <;> simp_all)
theorem ownx_32 {kind n : Int} {s : ByteArray} {list : List J} {names : List ByteArray} (h4 : (s.toList == []) = false) : ownB (J.mk 5 n s list names) = false := by
  simp_all [ownB, isNumB, namesOkB, List.length_pos_iff] <;> (cases h : namesB names <;> simp_all)
theorem ownx_33 {kind n : Int} {s : ByteArray} {list : List J} {names : List ByteArray} (h4 : (s.toList == []) = true) (h3 : (n != 0) = true) : ownB (J.mk 5 n s list names) = false := by
  simp_all [ownB, isNumB, namesOkB, List.length_pos_iff] <;> (cases h : namesB names <;> simp_all)
theorem ownx_34 {kind n : Int} {s : ByteArray} {list : List J} {names : List ByteArray} (h4 : (s.toList == []) = true) (h3 : (n != 0) = false) (hq : namesOkB (J.mk 5 n s list names) = false) : ownB (J.mk 5 n s list names) = false := by
  simp_all [ownB, isNumB, namesOkB, List.length_pos_iff] <;> (cases h : namesB names <;> simp_all)
theorem ownx_35 {kind n : Int} {s : ByteArray} {list : List J} {names : List ByteArray} (h4 : (s.toList == []) = true) (h3 : (n != 0) = false) (hq : namesOkB (J.mk 5 n s list names) = true) : ownB (J.mk 5 n s list names) = true := by
  simp_all [ownB, isNumB, namesOkB, List.length_pos_iff] <;> (cases h : namesB names <;> simp_all)
theorem ownx_36 {kind n : Int} {s : ByteArray} {list : List J} {names : List ByteArray} (h4 : (s.toList == []) = false) : ownB (J.mk 5 n s list names) = false := by
  simp_all [ownB, isNumB, namesOkB, List.length_pos_iff] <;> (cases h : namesB names <;> simp_all)
theorem ownx_37 {kind n : Int} {s : ByteArray} {list : List J} {names : List ByteArray} (h4 : (s.toList == []) = true) (h3 : (n != 0) = true) : ownB (J.mk 5 n s list names) = false := by
  simp_all [ownB, isNumB, namesOkB, List.length_pos_iff] <;> (cases h : namesB names <;> simp_all)
theorem ownx_38 {kind n : Int} {s : ByteArray} {list : List J} {names : List ByteArray} (h4 : (s.toList == []) = true) (h3 : (n != 0) = false) (hq : namesOkB (J.mk 5 n s list names) = false) : ownB (J.mk 5 n s list names) = false := by
  simp_all [ownB, isNumB, namesOkB, List.length_pos_iff] <;> (cases h : namesB names <;> simp_all)
theorem ownx_39 {kind n : Int} {s : ByteArray} {list : List J} {names : List ByteArray} (h4 : (s.toList == []) = true) (h3 : (n != 0) = false) (hq : namesOkB (J.mk 5 n s list names) = true) : ownB (J.mk 5 n s list names) = true := by
  simp_all [ownB, isNumB, namesOkB, List.length_pos_iff] <;> (cases h : namesB names <;> simp_all)
theorem ownx_40 {kind n : Int} {s : ByteArray} {list : List J} {names : List ByteArray} (h4 : (s.toList == []) = false) : ownB (J.mk 5 n s list names) = false := by
  simp_all [ownB, isNumB, namesOkB, List.length_pos_iff] <;> (cases h : namesB names <;> simp_all)
theorem ownx_41 {kind n : Int} {s : ByteArray} {list : List J} {names : List ByteArray} (h4 : (s.toList == []) = true) (h3 : (n != 0) = true) : ownB (J.mk 5 n s list names) = false := by
  simp_all [ownB, isNumB, namesOkB, List.length_pos_iff] <;> (cases h : namesB names <;> simp_all)
theorem ownx_42 {kind n : Int} {s : ByteArray} {list : List J} {names : List ByteArray} (h4 : (s.toList == []) = true) (h3 : (n != 0) = false) (hq : namesOkB (J.mk 5 n s list names) = false) : ownB (J.mk 5 n s list names) = false := by
  simp_all [ownB, isNumB, namesOkB, List.length_pos_iff] <;> (cases h : namesB names <;> simp_all)
theorem ownx_43 {kind n : Int} {s : ByteArray} {list : List J} {names : List ByteArray} (h4 : (s.toList == []) = true) (h3 : (n != 0) = false) (hq : namesOkB (J.mk 5 n s list names) = true) : ownB (J.mk 5 n s list names) = true := by
  simp_all [ownB, isNumB, namesOkB, List.length_pos_iff] <;> (cases h : namesB names <;> simp_all)
theorem ownx_44 {kind n : Int} {s : ByteArray} {list : List J} {names : List ByteArray} (e0 : (kind == 0) = false) (e1 : (kind == 1) = false) (e2 : (kind == 2) = false) (e3 : (kind == 3) = false) (e4 : (kind == 4) = false) (e5 : (kind == 5) = false) : ownB (J.mk kind n s list names) = false := by
  simp_all [ownB, isNumB, namesOkB, List.length_pos_iff] <;> (cases h : namesB names <;> simp_all)
set_option maxHeartbeats 4000000 in
set_option maxRecDepth 100000 in
theorem great_0 {m d : Nat} {A1 A2 : Option Addr} {c1 c2 : Nat} {n : Int} {s : ByteArray} {list : List J} {names : List ByteArray} {w : World} (hd : d + 1 ≤ 6) (hk : (tJ (m + 1)).K w (J.mk 0 n s list names) [.int .i64 0, .int .i64 n, .string s, .slice A1 list.length c1, .slice A2 names.length c2]) :
    Calls Try.prog 39 #[.agg #[.int .i64 0, .int .i64 n, .string s, .slice A1 list.length c1, .slice A2 names.length c2], .int .i64 ((d : Int) + 1)] w (GreatPost (d + 1) (J.mk 0 n s list names) w) := by
  have hs : s.size ≤ 9223372036854775807 := by obtain ⟨_, _, _, _, _, h, _⟩ := tJ_K.1 hk; exact h
  have hm1 : list.length ≤ 9223372036854775807 := by obtain ⟨_, _, _, _, _, _, h, _⟩ := tJ_K.1 hk; exact h.2.1
  have hm2 : names.length ≤ 9223372036854775807 := by obtain ⟨_, _, _, _, _, _, _, _, h⟩ := tJ_K.1 hk; exact h.1
  have HK := Hd.mk hk; clear hk
  have hd0 : ((d : Int) + 1 == 0) = false := by rw [beq_eq_false_iff_ne]; omega
  have hB := Hd.mk (below_alloc (Below.refl w.heap.size w) (Obj.cells #[Value.int IntKind.i64 0, Value.int IntKind.i64 n, Value.string s, Value.slice A1 list.length c1, Value.slice A2 names.length c2] 27))
  have b0 := Blk.new w #[Value.int IntKind.i64 0, Value.int IntKind.i64 n, Value.string s, Value.slice A1 list.length c1, Value.slice A2 names.length c2] 27
  go_enter Try.func39, Try.ntmps39
  cases h3 : (n != 0)
  case true =>
    have HE := Hd.mk (show sizeN (d + 1) (J.mk 0 n s list names) = 401 from sizeN_bad (ownx_0 (kind := 0) h3))
    go_wp2_with fail
    go_ret
    exact ⟨_, rfl, by rw [HE.out]; rfl, by omega, by omega, by exact hB.out⟩
  case false =>
    cases h4 : (s.toList == [])
    case false =>
      have HE := Hd.mk (show sizeN (d + 1) (J.mk 0 n s list names) = 401 from sizeN_bad (ownx_1 (kind := 0) h3 h4))
      go_wp2_with fail
      go_ret
      exact ⟨_, rfl, by rw [HE.out]; rfl, by omega, by omega, by exact hB.out⟩
    case true =>
      by_cases h1 : 0 < list.length
      · skip
        have HE := Hd.mk (show sizeN (d + 1) (J.mk 0 n s list names) = 401 from sizeN_bad (ownx_2 (kind := 0) h3 h4 h1))
        go_wp2_with fail
        go_ret
        exact ⟨_, rfl, by rw [HE.out]; rfl, by omega, by omega, by exact hB.out⟩
      · obtain rfl : list = [] := List.eq_nil_of_length_eq_zero (by omega)
        go_wp2_with fail
        refine (spec_l1Names (J.mk 0 n s ([] : List J) names) _ _ ((tJ (m + 1)).K_below hB.out HK.out)).mono ?_
        rintro e w2 ⟨rfl, hX⟩
        replace hB := Hd.mk (below_then hB.out hX)
        clear hX
        cases hq : namesOkB (J.mk 0 n s ([] : List J) names)
        case false =>
          have HE := Hd.mk (show sizeN (d + 1) (J.mk 0 n s ([] : List J) names) = 401 from sizeN_bad (ownx_3 (kind := 0) (list := []) h3 h4 hq))
          go_wp2_with fail
          go_ret
          exact ⟨_, rfl, by rw [HE.out]; rfl, by omega, by omega, by exact hB.out⟩
        case true =>
          have HE := Hd.mk (show sizeN (d + 1) (J.mk 0 n s ([] : List J) names) = 1 by
            rw [sizeN_ok (ownx_4 (kind := 0) (list := []) h3 h4 hq)]
            rfl)
          go_wp2_with fail
          go_ret
          exact ⟨_, rfl, by rw [HE.out]; rfl, by omega, by omega, by exact hB.out⟩
set_option maxHeartbeats 4000000 in
set_option maxRecDepth 100000 in
theorem great_1 {m d : Nat} {A1 A2 : Option Addr} {c1 c2 : Nat} {n : Int} {s : ByteArray} {list : List J} {names : List ByteArray} {w : World} (hd : d + 1 ≤ 6) (hk : (tJ (m + 1)).K w (J.mk 1 n s list names) [.int .i64 1, .int .i64 n, .string s, .slice A1 list.length c1, .slice A2 names.length c2]) :
    Calls Try.prog 39 #[.agg #[.int .i64 1, .int .i64 n, .string s, .slice A1 list.length c1, .slice A2 names.length c2], .int .i64 ((d : Int) + 1)] w (GreatPost (d + 1) (J.mk 1 n s list names) w) := by
  have hs : s.size ≤ 9223372036854775807 := by obtain ⟨_, _, _, _, _, h, _⟩ := tJ_K.1 hk; exact h
  have hm1 : list.length ≤ 9223372036854775807 := by obtain ⟨_, _, _, _, _, _, h, _⟩ := tJ_K.1 hk; exact h.2.1
  have hm2 : names.length ≤ 9223372036854775807 := by obtain ⟨_, _, _, _, _, _, _, _, h⟩ := tJ_K.1 hk; exact h.1
  have HK := Hd.mk hk; clear hk
  have hd0 : ((d : Int) + 1 == 0) = false := by rw [beq_eq_false_iff_ne]; omega
  have hB := Hd.mk (below_alloc (Below.refl w.heap.size w) (Obj.cells #[Value.int IntKind.i64 1, Value.int IntKind.i64 n, Value.string s, Value.slice A1 list.length c1, Value.slice A2 names.length c2] 27))
  have b0 := Blk.new w #[Value.int IntKind.i64 1, Value.int IntKind.i64 n, Value.string s, Value.slice A1 list.length c1, Value.slice A2 names.length c2] 27
  go_enter Try.func39, Try.ntmps39
  go_wp2_with fail
  refine (spec_l1In _ _ _ _).mono ?_
  rintro e w' ⟨rfl, rfl⟩
  cases h6 : inB n 0 1
  case false =>
    have HE := Hd.mk (show sizeN (d + 1) (J.mk 1 n s list names) = 401 from sizeN_bad (ownx_5 (kind := 0) h6))
    go_wp2_with fail
    go_ret
    exact ⟨_, rfl, by rw [HE.out]; rfl, by omega, by omega, by exact hB.out⟩
  case true =>
    cases h4 : (s.toList == [])
    case false =>
      have HE := Hd.mk (show sizeN (d + 1) (J.mk 1 n s list names) = 401 from sizeN_bad (ownx_6 (kind := 0) h6 h4))
      go_wp2_with fail
      go_ret
      exact ⟨_, rfl, by rw [HE.out]; rfl, by omega, by omega, by exact hB.out⟩
    case true =>
      by_cases h1 : 0 < list.length
      · skip
        have HE := Hd.mk (show sizeN (d + 1) (J.mk 1 n s list names) = 401 from sizeN_bad (ownx_7 (kind := 0) h6 h4 h1))
        go_wp2_with fail
        go_ret
        exact ⟨_, rfl, by rw [HE.out]; rfl, by omega, by omega, by exact hB.out⟩
      · obtain rfl : list = [] := List.eq_nil_of_length_eq_zero (by omega)
        go_wp2_with fail
        refine (spec_l1Names (J.mk 1 n s ([] : List J) names) _ _ ((tJ (m + 1)).K_below hB.out HK.out)).mono ?_
        rintro e w2 ⟨rfl, hX⟩
        replace hB := Hd.mk (below_then hB.out hX)
        clear hX
        cases hq : namesOkB (J.mk 1 n s ([] : List J) names)
        case false =>
          have HE := Hd.mk (show sizeN (d + 1) (J.mk 1 n s ([] : List J) names) = 401 from sizeN_bad (ownx_8 (kind := 0) (list := []) h6 h4 hq))
          go_wp2_with fail
          go_ret
          exact ⟨_, rfl, by rw [HE.out]; rfl, by omega, by omega, by exact hB.out⟩
        case true =>
          have HE := Hd.mk (show sizeN (d + 1) (J.mk 1 n s ([] : List J) names) = 1 by
            rw [sizeN_ok (ownx_9 (kind := 0) (list := []) h6 h4 hq)]
            rfl)
          go_wp2_with fail
          go_ret
          exact ⟨_, rfl, by rw [HE.out]; rfl, by omega, by omega, by exact hB.out⟩
set_option maxHeartbeats 4000000 in
set_option maxRecDepth 100000 in
theorem great_2 {m d : Nat} {A1 A2 : Option Addr} {c1 c2 : Nat} {n : Int} {s : ByteArray} {list : List J} {names : List ByteArray} {w : World} (hd : d + 1 ≤ 6) (hk : (tJ (m + 1)).K w (J.mk 2 n s list names) [.int .i64 2, .int .i64 n, .string s, .slice A1 list.length c1, .slice A2 names.length c2]) :
    Calls Try.prog 39 #[.agg #[.int .i64 2, .int .i64 n, .string s, .slice A1 list.length c1, .slice A2 names.length c2], .int .i64 ((d : Int) + 1)] w (GreatPost (d + 1) (J.mk 2 n s list names) w) := by
  have hs : s.size ≤ 9223372036854775807 := by obtain ⟨_, _, _, _, _, h, _⟩ := tJ_K.1 hk; exact h
  have hm1 : list.length ≤ 9223372036854775807 := by obtain ⟨_, _, _, _, _, _, h, _⟩ := tJ_K.1 hk; exact h.2.1
  have hm2 : names.length ≤ 9223372036854775807 := by obtain ⟨_, _, _, _, _, _, _, _, h⟩ := tJ_K.1 hk; exact h.1
  have HK := Hd.mk hk; clear hk
  have hd0 : ((d : Int) + 1 == 0) = false := by rw [beq_eq_false_iff_ne]; omega
  have hB := Hd.mk (below_alloc (Below.refl w.heap.size w) (Obj.cells #[Value.int IntKind.i64 2, Value.int IntKind.i64 n, Value.string s, Value.slice A1 list.length c1, Value.slice A2 names.length c2] 27))
  have b0 := Blk.new w #[Value.int IntKind.i64 2, Value.int IntKind.i64 n, Value.string s, Value.slice A1 list.length c1, Value.slice A2 names.length c2] 27
  go_enter Try.func39, Try.ntmps39
  go_wp2_with fail
  refine (spec_l1In _ _ _ _).mono ?_
  rintro e w' ⟨rfl, rfl⟩
  cases h6 : inB n (-1000000000) 1000000000
  case false =>
    have HE := Hd.mk (show sizeN (d + 1) (J.mk 2 n s list names) = 401 from sizeN_bad (ownx_10 (kind := 0) h6))
    go_wp2_with fail
    go_ret
    exact ⟨_, rfl, by rw [HE.out]; rfl, by omega, by omega, by exact hB.out⟩
  case true =>
    cases h4 : (s.toList == [])
    case false =>
      have HE := Hd.mk (show sizeN (d + 1) (J.mk 2 n s list names) = 401 from sizeN_bad (ownx_11 (kind := 0) h6 h4))
      go_wp2_with fail
      go_ret
      exact ⟨_, rfl, by rw [HE.out]; rfl, by omega, by omega, by exact hB.out⟩
    case true =>
      by_cases h1 : 0 < list.length
      · skip
        have HE := Hd.mk (show sizeN (d + 1) (J.mk 2 n s list names) = 401 from sizeN_bad (ownx_12 (kind := 0) h6 h4 h1))
        go_wp2_with fail
        go_ret
        exact ⟨_, rfl, by rw [HE.out]; rfl, by omega, by omega, by exact hB.out⟩
      · obtain rfl : list = [] := List.eq_nil_of_length_eq_zero (by omega)
        go_wp2_with fail
        refine (spec_l1Names (J.mk 2 n s ([] : List J) names) _ _ ((tJ (m + 1)).K_below hB.out HK.out)).mono ?_
        rintro e w2 ⟨rfl, hX⟩
        replace hB := Hd.mk (below_then hB.out hX)
        clear hX
        cases hq : namesOkB (J.mk 2 n s ([] : List J) names)
        case false =>
          have HE := Hd.mk (show sizeN (d + 1) (J.mk 2 n s ([] : List J) names) = 401 from sizeN_bad (ownx_13 (kind := 0) (list := []) h6 h4 hq))
          go_wp2_with fail
          go_ret
          exact ⟨_, rfl, by rw [HE.out]; rfl, by omega, by omega, by exact hB.out⟩
        case true =>
          have HE := Hd.mk (show sizeN (d + 1) (J.mk 2 n s ([] : List J) names) = 1 by
            rw [sizeN_ok (ownx_14 (kind := 0) (list := []) h6 h4 hq)]
            rfl)
          go_wp2_with fail
          go_ret
          exact ⟨_, rfl, by rw [HE.out]; rfl, by omega, by omega, by exact hB.out⟩
set_option maxHeartbeats 4000000 in
set_option maxRecDepth 100000 in
theorem great_3 {m d : Nat} {A1 A2 : Option Addr} {c1 c2 : Nat} {n : Int} {s : ByteArray} {list : List J} {names : List ByteArray} {w : World} (hd : d + 1 ≤ 6) (hk : (tJ (m + 1)).K w (J.mk 3 n s list names) [.int .i64 3, .int .i64 n, .string s, .slice A1 list.length c1, .slice A2 names.length c2]) :
    Calls Try.prog 39 #[.agg #[.int .i64 3, .int .i64 n, .string s, .slice A1 list.length c1, .slice A2 names.length c2], .int .i64 ((d : Int) + 1)] w (GreatPost (d + 1) (J.mk 3 n s list names) w) := by
  have hs : s.size ≤ 9223372036854775807 := by obtain ⟨_, _, _, _, _, h, _⟩ := tJ_K.1 hk; exact h
  have hm1 : list.length ≤ 9223372036854775807 := by obtain ⟨_, _, _, _, _, _, h, _⟩ := tJ_K.1 hk; exact h.2.1
  have hm2 : names.length ≤ 9223372036854775807 := by obtain ⟨_, _, _, _, _, _, _, _, h⟩ := tJ_K.1 hk; exact h.1
  have HK := Hd.mk hk; clear hk
  have hd0 : ((d : Int) + 1 == 0) = false := by rw [beq_eq_false_iff_ne]; omega
  have hB := Hd.mk (below_alloc (Below.refl w.heap.size w) (Obj.cells #[Value.int IntKind.i64 3, Value.int IntKind.i64 n, Value.string s, Value.slice A1 list.length c1, Value.slice A2 names.length c2] 27))
  have b0 := Blk.new w #[Value.int IntKind.i64 3, Value.int IntKind.i64 n, Value.string s, Value.slice A1 list.length c1, Value.slice A2 names.length c2] 27
  go_enter Try.func39, Try.ntmps39
  go_wp2_with fail
  refine (spec_l1Text _ _ hs).mono ?_
  rintro e w' ⟨rfl, rfl⟩
  cases h6 : textB s
  case false =>
    have HE := Hd.mk (show sizeN (d + 1) (J.mk 3 n s list names) = 401 from sizeN_bad (ownx_15 (kind := 0) h6))
    go_wp2_with fail
    go_ret
    exact ⟨_, rfl, by rw [HE.out]; rfl, by omega, by omega, by exact hB.out⟩
  case true =>
    cases h3 : (n != 0)
    case true =>
      have HE := Hd.mk (show sizeN (d + 1) (J.mk 3 n s list names) = 401 from sizeN_bad (ownx_16 (kind := 0) h6 h3))
      go_wp2_with fail
      go_ret
      exact ⟨_, rfl, by rw [HE.out]; rfl, by omega, by omega, by exact hB.out⟩
    case false =>
      by_cases h1 : 0 < list.length
      · skip
        have HE := Hd.mk (show sizeN (d + 1) (J.mk 3 n s list names) = 401 from sizeN_bad (ownx_17 (kind := 0) h6 h3 h1))
        go_wp2_with fail
        go_ret
        exact ⟨_, rfl, by rw [HE.out]; rfl, by omega, by omega, by exact hB.out⟩
      · obtain rfl : list = [] := List.eq_nil_of_length_eq_zero (by omega)
        go_wp2_with fail
        refine (spec_l1Names (J.mk 3 n s ([] : List J) names) _ _ ((tJ (m + 1)).K_below hB.out HK.out)).mono ?_
        rintro e w2 ⟨rfl, hX⟩
        replace hB := Hd.mk (below_then hB.out hX)
        clear hX
        cases hq : namesOkB (J.mk 3 n s ([] : List J) names)
        case false =>
          have HE := Hd.mk (show sizeN (d + 1) (J.mk 3 n s ([] : List J) names) = 401 from sizeN_bad (ownx_18 (kind := 0) (list := []) h6 h3 hq))
          go_wp2_with fail
          go_ret
          exact ⟨_, rfl, by rw [HE.out]; rfl, by omega, by omega, by exact hB.out⟩
        case true =>
          have HE := Hd.mk (show sizeN (d + 1) (J.mk 3 n s ([] : List J) names) = 1 by
            rw [sizeN_ok (ownx_19 (kind := 0) (list := []) h6 h3 hq)]
            rfl)
          go_wp2_with fail
          go_ret
          exact ⟨_, rfl, by rw [HE.out]; rfl, by omega, by omega, by exact hB.out⟩
set_option maxHeartbeats 4000000 in
set_option maxRecDepth 100000 in
theorem great_4 {m d : Nat} (ih : GreatC m) {A1 A2 : Option Addr} {c1 c2 : Nat} {n : Int} {s : ByteArray} {list : List J} {names : List ByteArray} {w : World} (hd : d + 1 ≤ 6) (hk : (tJ (m + 1)).K w (J.mk 4 n s list names) [.int .i64 4, .int .i64 n, .string s, .slice A1 list.length c1, .slice A2 names.length c2]) :
    Calls Try.prog 39 #[.agg #[.int .i64 4, .int .i64 n, .string s, .slice A1 list.length c1, .slice A2 names.length c2], .int .i64 ((d : Int) + 1)] w (GreatPost (d + 1) (J.mk 4 n s list names) w) := by
  have hs : s.size ≤ 9223372036854775807 := by obtain ⟨_, _, _, _, _, h, _⟩ := tJ_K.1 hk; exact h
  have hm1 : list.length ≤ 9223372036854775807 := by obtain ⟨_, _, _, _, _, _, h, _⟩ := tJ_K.1 hk; exact h.2.1
  have hm2 : names.length ≤ 9223372036854775807 := by obtain ⟨_, _, _, _, _, _, _, _, h⟩ := tJ_K.1 hk; exact h.1
  have HK := Hd.mk hk; clear hk
  have hd0 : ((d : Int) + 1 == 0) = false := by rw [beq_eq_false_iff_ne]; omega
  have hB := Hd.mk (below_alloc (Below.refl w.heap.size w) (Obj.cells #[Value.int IntKind.i64 4, Value.int IntKind.i64 n, Value.string s, Value.slice A1 list.length c1, Value.slice A2 names.length c2] 27))
  have b0 := Blk.new w #[Value.int IntKind.i64 4, Value.int IntKind.i64 n, Value.string s, Value.slice A1 list.length c1, Value.slice A2 names.length c2] 27
  go_enter Try.func39, Try.ntmps39
  go_wp2_with fail
  go_loopw [6, 7] (fun v i wr => ∃ (k : Nat) (g : Int), k ≤ list.length ∧ i = .int .i64 k ∧ v = .int .i64 g ∧ Hd (GreatMid d list k g) ∧ Hd (Below w.heap.size w wr) ∧ Blk wr w.heap.size #[Value.int IntKind.i64 4, Value.int IntKind.i64 n, Value.string s, Value.slice A1 list.length c1, Value.slice A2 names.length c2] 27) (fun _ i _ => list.length - (intOf i).toNat)
  case atStart => exact ⟨0, 1, Nat.zero_le _, rfl, rfl, ⟨greatMid_start⟩, hB, b0⟩
  case round =>
    clear hB b0
    obtain ⟨k, g, hk, rfl, rfl, HG, hB, b0⟩ := hrel
    have hg1 := HG.out.1
    have hg2 := HG.out.2.1
    have f0 : wr.cell? ⟨w.heap.size, 0, none⟩ = some (Value.int IntKind.i64 4) := b0.cell 0 rfl
    have f1 : wr.cell? ⟨w.heap.size, 1, none⟩ = some (Value.int IntKind.i64 n) := b0.cell 1 rfl
    have f2 : wr.cell? ⟨w.heap.size, 2, none⟩ = some (Value.string s) := b0.cell 2 rfl
    have f3 : wr.cell? ⟨w.heap.size, 3, none⟩ = some (Value.slice A1 list.length c1) := b0.cell 3 rfl
    have f4 : wr.cell? ⟨w.heap.size, 4, none⟩ = some (Value.slice A2 names.length c2) := b0.cell 4 rfl
    by_cases hv : g ≤ 400
    · by_cases hlt : k < list.length
      · obtain ⟨_, _, _, _, he, _, ⟨_, hr1⟩, _⟩ := tJ_K.1 HK.out
        simp only [List.cons.injEq, Value.slice.injEq, and_true, true_and, J.kind_mk, J.n_mk, J.s_mk, J.list_mk, J.names_mk] at he
        obtain ⟨⟨rfl, rfl⟩, rfl, rfl⟩ := he
        obtain ⟨m, rfl⟩ : ∃ m1 : Nat, m = m1 + 1 := by
          cases m with
          | zero => obtain ⟨_, _, _, h, _⟩ := C_at hr1 (Below.refl _ _) k hlt; exact h.elim
          | succ m => exact ⟨m, rfl⟩
        obtain ⟨ad, A3, c3, A4, c4, rfl, x0, x1, x2, x3, x4, hs4, hr3, hr4⟩ := C_J_at hr1 hB.out k hlt
        simp only [J.list_mk] at x0 x1 x2 x3 x4
        have HK4 := Hd.mk (tJ_K.2 ⟨A3, c3, A4, c4, rfl, hs4, hr3, hr4⟩ : (tJ (m + 1)).K wr list[k] _)
        clear hr3 hr4 hr1
        go_wp2_with fail
        refine (ih list[k] _ d _ (by omega) HK4.out).mono ?_
        rintro e w2 ⟨g2, rfl, hg3, hg4, hg5, hX⟩
        have b02 := b0.below hX
        have hB2 := Hd.mk (below_then hB.out hX)
        have HN := Hd.mk (greatMid_step hlt HG.out hv hg3 hg4 hg5)
        have HG3 := Hd.mk hg3
        clear hX hg3
        go_wp2_with fail
        go_roundw
        case rel => exact ⟨k + 1, g + g2, by omega, by go_num, rfl, HN, hB2, b02⟩
        case measure => simp [intOf]; omega
      · obtain rfl : k = list.length := by omega
        have HF := Hd.mk (greatMid_end HG.out (.inl rfl))
        cases h4 : (s.toList == [])
        case false =>
          have HE := Hd.mk (show sizeN (d + 1) (J.mk 4 n s list names) = 401 from sizeN_bad (ownx_20 (kind := 0) h4))
          go_wp2_with fail
          go_ret
          exact ⟨_, rfl, by rw [HE.out]; rfl, by omega, by omega, by exact hB.out⟩
        case true =>
          cases h3 : (n != 0)
          case true =>
            have HE := Hd.mk (show sizeN (d + 1) (J.mk 4 n s list names) = 401 from sizeN_bad (ownx_21 (kind := 0) h4 h3))
            go_wp2_with fail
            go_ret
            exact ⟨_, rfl, by rw [HE.out]; rfl, by omega, by omega, by exact hB.out⟩
          case false =>
            go_wp2_with fail
            refine (spec_l1Names (J.mk 4 n s list names) _ _ ((tJ (m + 1)).K_below hB.out HK.out)).mono ?_
            rintro e w2 ⟨rfl, hX⟩
            replace hB := Hd.mk (below_then hB.out hX)
            clear hX
            cases hq : namesOkB (J.mk 4 n s list names)
            case false =>
              have HE := Hd.mk (show sizeN (d + 1) (J.mk 4 n s list names) = 401 from sizeN_bad (ownx_22 (kind := 0) h4 h3 hq))
              go_wp2_with fail
              go_ret
              exact ⟨_, rfl, by rw [HE.out]; rfl, by omega, by omega, by exact hB.out⟩
            case true =>
              have HE := Hd.mk (show sizeN (d + 1) (J.mk 4 n s list names) = _ from sizeN_ok (ownx_23 (kind := 0) h4 h3 hq))
              go_wp2_with fail
              go_ret
              exact ⟨_, rfl, by rw [HE.out]; exact HF.out, by omega, by omega, by exact hB.out⟩
    · have HF := Hd.mk (greatMid_end HG.out (.inr (by omega)))
      by_cases hlt : k < list.length
      · skip
        cases h4 : (s.toList == [])
        case false =>
          have HE := Hd.mk (show sizeN (d + 1) (J.mk 4 n s list names) = 401 from sizeN_bad (ownx_24 (kind := 0) h4))
          go_wp2_with fail
          go_ret
          exact ⟨_, rfl, by rw [HE.out]; rfl, by omega, by omega, by exact hB.out⟩
        case true =>
          cases h3 : (n != 0)
          case true =>
            have HE := Hd.mk (show sizeN (d + 1) (J.mk 4 n s list names) = 401 from sizeN_bad (ownx_25 (kind := 0) h4 h3))
            go_wp2_with fail
            go_ret
            exact ⟨_, rfl, by rw [HE.out]; rfl, by omega, by omega, by exact hB.out⟩
          case false =>
            go_wp2_with fail
            refine (spec_l1Names (J.mk 4 n s list names) _ _ ((tJ (m + 1)).K_below hB.out HK.out)).mono ?_
            rintro e w2 ⟨rfl, hX⟩
            replace hB := Hd.mk (below_then hB.out hX)
            clear hX
            cases hq : namesOkB (J.mk 4 n s list names)
            case false =>
              have HE := Hd.mk (show sizeN (d + 1) (J.mk 4 n s list names) = 401 from sizeN_bad (ownx_26 (kind := 0) h4 h3 hq))
              go_wp2_with fail
              go_ret
              exact ⟨_, rfl, by rw [HE.out]; rfl, by omega, by omega, by exact hB.out⟩
            case true =>
              have HE := Hd.mk (show sizeN (d + 1) (J.mk 4 n s list names) = _ from sizeN_ok (ownx_27 (kind := 0) h4 h3 hq))
              go_wp2_with fail
              go_ret
              exact ⟨_, rfl, by rw [HE.out]; exact HF.out, by omega, by omega, by exact hB.out⟩
      · obtain rfl : k = list.length := by omega
        cases h4 : (s.toList == [])
        case false =>
          have HE := Hd.mk (show sizeN (d + 1) (J.mk 4 n s list names) = 401 from sizeN_bad (ownx_28 (kind := 0) h4))
          go_wp2_with fail
          go_ret
          exact ⟨_, rfl, by rw [HE.out]; rfl, by omega, by omega, by exact hB.out⟩
        case true =>
          cases h3 : (n != 0)
          case true =>
            have HE := Hd.mk (show sizeN (d + 1) (J.mk 4 n s list names) = 401 from sizeN_bad (ownx_29 (kind := 0) h4 h3))
            go_wp2_with fail
            go_ret
            exact ⟨_, rfl, by rw [HE.out]; rfl, by omega, by omega, by exact hB.out⟩
          case false =>
            go_wp2_with fail
            refine (spec_l1Names (J.mk 4 n s list names) _ _ ((tJ (m + 1)).K_below hB.out HK.out)).mono ?_
            rintro e w2 ⟨rfl, hX⟩
            replace hB := Hd.mk (below_then hB.out hX)
            clear hX
            cases hq : namesOkB (J.mk 4 n s list names)
            case false =>
              have HE := Hd.mk (show sizeN (d + 1) (J.mk 4 n s list names) = 401 from sizeN_bad (ownx_30 (kind := 0) h4 h3 hq))
              go_wp2_with fail
              go_ret
              exact ⟨_, rfl, by rw [HE.out]; rfl, by omega, by omega, by exact hB.out⟩
            case true =>
              have HE := Hd.mk (show sizeN (d + 1) (J.mk 4 n s list names) = _ from sizeN_ok (ownx_31 (kind := 0) h4 h3 hq))
              go_wp2_with fail
              go_ret
              exact ⟨_, rfl, by rw [HE.out]; exact HF.out, by omega, by omega, by exact hB.out⟩
set_option maxHeartbeats 4000000 in
set_option maxRecDepth 100000 in
theorem great_5 {m d : Nat} (ih : GreatC m) {A1 A2 : Option Addr} {c1 c2 : Nat} {n : Int} {s : ByteArray} {list : List J} {names : List ByteArray} {w : World} (hd : d + 1 ≤ 6) (hk : (tJ (m + 1)).K w (J.mk 5 n s list names) [.int .i64 5, .int .i64 n, .string s, .slice A1 list.length c1, .slice A2 names.length c2]) :
    Calls Try.prog 39 #[.agg #[.int .i64 5, .int .i64 n, .string s, .slice A1 list.length c1, .slice A2 names.length c2], .int .i64 ((d : Int) + 1)] w (GreatPost (d + 1) (J.mk 5 n s list names) w) := by
  have hs : s.size ≤ 9223372036854775807 := by obtain ⟨_, _, _, _, _, h, _⟩ := tJ_K.1 hk; exact h
  have hm1 : list.length ≤ 9223372036854775807 := by obtain ⟨_, _, _, _, _, _, h, _⟩ := tJ_K.1 hk; exact h.2.1
  have hm2 : names.length ≤ 9223372036854775807 := by obtain ⟨_, _, _, _, _, _, _, _, h⟩ := tJ_K.1 hk; exact h.1
  have HK := Hd.mk hk; clear hk
  have hd0 : ((d : Int) + 1 == 0) = false := by rw [beq_eq_false_iff_ne]; omega
  have hB := Hd.mk (below_alloc (Below.refl w.heap.size w) (Obj.cells #[Value.int IntKind.i64 5, Value.int IntKind.i64 n, Value.string s, Value.slice A1 list.length c1, Value.slice A2 names.length c2] 27))
  have b0 := Blk.new w #[Value.int IntKind.i64 5, Value.int IntKind.i64 n, Value.string s, Value.slice A1 list.length c1, Value.slice A2 names.length c2] 27
  go_enter Try.func39, Try.ntmps39
  go_wp2_with fail
  go_loopw [6, 7] (fun v i wr => ∃ (k : Nat) (g : Int), k ≤ list.length ∧ i = .int .i64 k ∧ v = .int .i64 g ∧ Hd (GreatMid d list k g) ∧ Hd (Below w.heap.size w wr) ∧ Blk wr w.heap.size #[Value.int IntKind.i64 5, Value.int IntKind.i64 n, Value.string s, Value.slice A1 list.length c1, Value.slice A2 names.length c2] 27) (fun _ i _ => list.length - (intOf i).toNat)
  case atStart => exact ⟨0, 1, Nat.zero_le _, rfl, rfl, ⟨greatMid_start⟩, hB, b0⟩
  case round =>
    clear hB b0
    obtain ⟨k, g, hk, rfl, rfl, HG, hB, b0⟩ := hrel
    have hg1 := HG.out.1
    have hg2 := HG.out.2.1
    have f0 : wr.cell? ⟨w.heap.size, 0, none⟩ = some (Value.int IntKind.i64 5) := b0.cell 0 rfl
    have f1 : wr.cell? ⟨w.heap.size, 1, none⟩ = some (Value.int IntKind.i64 n) := b0.cell 1 rfl
    have f2 : wr.cell? ⟨w.heap.size, 2, none⟩ = some (Value.string s) := b0.cell 2 rfl
    have f3 : wr.cell? ⟨w.heap.size, 3, none⟩ = some (Value.slice A1 list.length c1) := b0.cell 3 rfl
    have f4 : wr.cell? ⟨w.heap.size, 4, none⟩ = some (Value.slice A2 names.length c2) := b0.cell 4 rfl
    by_cases hv : g ≤ 400
    · by_cases hlt : k < list.length
      · obtain ⟨_, _, _, _, he, _, ⟨_, hr1⟩, _⟩ := tJ_K.1 HK.out
        simp only [List.cons.injEq, Value.slice.injEq, and_true, true_and, J.kind_mk, J.n_mk, J.s_mk, J.list_mk, J.names_mk] at he
        obtain ⟨⟨rfl, rfl⟩, rfl, rfl⟩ := he
        obtain ⟨m, rfl⟩ : ∃ m1 : Nat, m = m1 + 1 := by
          cases m with
          | zero => obtain ⟨_, _, _, h, _⟩ := C_at hr1 (Below.refl _ _) k hlt; exact h.elim
          | succ m => exact ⟨m, rfl⟩
        obtain ⟨ad, A3, c3, A4, c4, rfl, x0, x1, x2, x3, x4, hs4, hr3, hr4⟩ := C_J_at hr1 hB.out k hlt
        simp only [J.list_mk] at x0 x1 x2 x3 x4
        have HK4 := Hd.mk (tJ_K.2 ⟨A3, c3, A4, c4, rfl, hs4, hr3, hr4⟩ : (tJ (m + 1)).K wr list[k] _)
        clear hr3 hr4 hr1
        go_wp2_with fail
        refine (ih list[k] _ d _ (by omega) HK4.out).mono ?_
        rintro e w2 ⟨g2, rfl, hg3, hg4, hg5, hX⟩
        have b02 := b0.below hX
        have hB2 := Hd.mk (below_then hB.out hX)
        have HN := Hd.mk (greatMid_step hlt HG.out hv hg3 hg4 hg5)
        have HG3 := Hd.mk hg3
        clear hX hg3
        go_wp2_with fail
        go_roundw
        case rel => exact ⟨k + 1, g + g2, by omega, by go_num, rfl, HN, hB2, b02⟩
        case measure => simp [intOf]; omega
      · obtain rfl : k = list.length := by omega
        have HF := Hd.mk (greatMid_end HG.out (.inl rfl))
        cases h4 : (s.toList == [])
        case false =>
          have HE := Hd.mk (show sizeN (d + 1) (J.mk 5 n s list names) = 401 from sizeN_bad (ownx_32 (kind := 0) h4))
          go_wp2_with fail
          go_ret
          exact ⟨_, rfl, by rw [HE.out]; rfl, by omega, by omega, by exact hB.out⟩
        case true =>
          cases h3 : (n != 0)
          case true =>
            have HE := Hd.mk (show sizeN (d + 1) (J.mk 5 n s list names) = 401 from sizeN_bad (ownx_33 (kind := 0) h4 h3))
            go_wp2_with fail
            go_ret
            exact ⟨_, rfl, by rw [HE.out]; rfl, by omega, by omega, by exact hB.out⟩
          case false =>
            go_wp2_with fail
            refine (spec_l1Names (J.mk 5 n s list names) _ _ ((tJ (m + 1)).K_below hB.out HK.out)).mono ?_
            rintro e w2 ⟨rfl, hX⟩
            replace hB := Hd.mk (below_then hB.out hX)
            clear hX
            cases hq : namesOkB (J.mk 5 n s list names)
            case false =>
              have HE := Hd.mk (show sizeN (d + 1) (J.mk 5 n s list names) = 401 from sizeN_bad (ownx_34 (kind := 0) h4 h3 hq))
              go_wp2_with fail
              go_ret
              exact ⟨_, rfl, by rw [HE.out]; rfl, by omega, by omega, by exact hB.out⟩
            case true =>
              have HE := Hd.mk (show sizeN (d + 1) (J.mk 5 n s list names) = _ from sizeN_ok (ownx_35 (kind := 0) h4 h3 hq))
              go_wp2_with fail
              go_ret
              exact ⟨_, rfl, by rw [HE.out]; exact HF.out, by omega, by omega, by exact hB.out⟩
    · have HF := Hd.mk (greatMid_end HG.out (.inr (by omega)))
      by_cases hlt : k < list.length
      · skip
        cases h4 : (s.toList == [])
        case false =>
          have HE := Hd.mk (show sizeN (d + 1) (J.mk 5 n s list names) = 401 from sizeN_bad (ownx_36 (kind := 0) h4))
          go_wp2_with fail
          go_ret
          exact ⟨_, rfl, by rw [HE.out]; rfl, by omega, by omega, by exact hB.out⟩
        case true =>
          cases h3 : (n != 0)
          case true =>
            have HE := Hd.mk (show sizeN (d + 1) (J.mk 5 n s list names) = 401 from sizeN_bad (ownx_37 (kind := 0) h4 h3))
            go_wp2_with fail
            go_ret
            exact ⟨_, rfl, by rw [HE.out]; rfl, by omega, by omega, by exact hB.out⟩
          case false =>
            go_wp2_with fail
            refine (spec_l1Names (J.mk 5 n s list names) _ _ ((tJ (m + 1)).K_below hB.out HK.out)).mono ?_
            rintro e w2 ⟨rfl, hX⟩
            replace hB := Hd.mk (below_then hB.out hX)
            clear hX
            cases hq : namesOkB (J.mk 5 n s list names)
            case false =>
              have HE := Hd.mk (show sizeN (d + 1) (J.mk 5 n s list names) = 401 from sizeN_bad (ownx_38 (kind := 0) h4 h3 hq))
              go_wp2_with fail
              go_ret
              exact ⟨_, rfl, by rw [HE.out]; rfl, by omega, by omega, by exact hB.out⟩
            case true =>
              have HE := Hd.mk (show sizeN (d + 1) (J.mk 5 n s list names) = _ from sizeN_ok (ownx_39 (kind := 0) h4 h3 hq))
              go_wp2_with fail
              go_ret
              exact ⟨_, rfl, by rw [HE.out]; exact HF.out, by omega, by omega, by exact hB.out⟩
      · obtain rfl : k = list.length := by omega
        cases h4 : (s.toList == [])
        case false =>
          have HE := Hd.mk (show sizeN (d + 1) (J.mk 5 n s list names) = 401 from sizeN_bad (ownx_40 (kind := 0) h4))
          go_wp2_with fail
          go_ret
          exact ⟨_, rfl, by rw [HE.out]; rfl, by omega, by omega, by exact hB.out⟩
        case true =>
          cases h3 : (n != 0)
          case true =>
            have HE := Hd.mk (show sizeN (d + 1) (J.mk 5 n s list names) = 401 from sizeN_bad (ownx_41 (kind := 0) h4 h3))
            go_wp2_with fail
            go_ret
            exact ⟨_, rfl, by rw [HE.out]; rfl, by omega, by omega, by exact hB.out⟩
          case false =>
            go_wp2_with fail
            refine (spec_l1Names (J.mk 5 n s list names) _ _ ((tJ (m + 1)).K_below hB.out HK.out)).mono ?_
            rintro e w2 ⟨rfl, hX⟩
            replace hB := Hd.mk (below_then hB.out hX)
            clear hX
            cases hq : namesOkB (J.mk 5 n s list names)
            case false =>
              have HE := Hd.mk (show sizeN (d + 1) (J.mk 5 n s list names) = 401 from sizeN_bad (ownx_42 (kind := 0) h4 h3 hq))
              go_wp2_with fail
              go_ret
              exact ⟨_, rfl, by rw [HE.out]; rfl, by omega, by omega, by exact hB.out⟩
            case true =>
              have HE := Hd.mk (show sizeN (d + 1) (J.mk 5 n s list names) = _ from sizeN_ok (ownx_43 (kind := 0) h4 h3 hq))
              go_wp2_with fail
              go_ret
              exact ⟨_, rfl, by rw [HE.out]; exact HF.out, by omega, by omega, by exact hB.out⟩
set_option maxHeartbeats 4000000 in
set_option maxRecDepth 100000 in
theorem great_o {m d : Nat} {A1 A2 : Option Addr} {c1 c2 : Nat} {kind n : Int} {s : ByteArray} {list : List J} {names : List ByteArray} {w : World} (hd : d + 1 ≤ 6) (hk : (tJ (m + 1)).K w (J.mk kind n s list names) [.int .i64 kind, .int .i64 n, .string s, .slice A1 list.length c1, .slice A2 names.length c2]) (e0 : (kind == 0) = false) (e1 : (kind == 1) = false) (e2 : (kind == 2) = false) (e3 : (kind == 3) = false) (e4 : (kind == 4) = false) (e5 : (kind == 5) = false) :
    Calls Try.prog 39 #[.agg #[.int .i64 kind, .int .i64 n, .string s, .slice A1 list.length c1, .slice A2 names.length c2], .int .i64 ((d : Int) + 1)] w (GreatPost (d + 1) (J.mk kind n s list names) w) := by
  have hs : s.size ≤ 9223372036854775807 := by obtain ⟨_, _, _, _, _, h, _⟩ := tJ_K.1 hk; exact h
  have hm1 : list.length ≤ 9223372036854775807 := by obtain ⟨_, _, _, _, _, _, h, _⟩ := tJ_K.1 hk; exact h.2.1
  have hm2 : names.length ≤ 9223372036854775807 := by obtain ⟨_, _, _, _, _, _, _, _, h⟩ := tJ_K.1 hk; exact h.1
  have HK := Hd.mk hk; clear hk
  have hd0 : ((d : Int) + 1 == 0) = false := by rw [beq_eq_false_iff_ne]; omega
  have hB := Hd.mk (below_alloc (Below.refl w.heap.size w) (Obj.cells #[Value.int IntKind.i64 kind, Value.int IntKind.i64 n, Value.string s, Value.slice A1 list.length c1, Value.slice A2 names.length c2] 27))
  have b0 := Blk.new w #[Value.int IntKind.i64 kind, Value.int IntKind.i64 n, Value.string s, Value.slice A1 list.length c1, Value.slice A2 names.length c2] 27
  go_enter Try.func39, Try.ntmps39
  have HE := Hd.mk (show sizeN (d + 1) (J.mk kind n s list names) = 401 from sizeN_bad (ownx_44 e0 e1 e2 e3 e4 e5))
  go_wp2_with fail
  go_ret
  exact ⟨_, rfl, by rw [HE.out]; rfl, by omega, by omega, by exact hB.out⟩
theorem great_of {m : Nat} (ih : GreatC m) : GreatC (m + 1) := by
  intro x cs d w hd hk
  obtain ⟨A1, c1, A2, c2, rfl, hs, ⟨hc1, hr1⟩, hc2, hr2⟩ := tJ_K.1 hk
  clear hr1 hr2
  obtain ⟨kind, n, s, list, names⟩ := x
  cases d with
  | zero =>
    clear hk
    have hB := Hd.mk (below_alloc (Below.refl w.heap.size w) (Obj.cells #[Value.int IntKind.i64 kind, Value.int IntKind.i64 n, Value.string s, Value.slice A1 list.length c1, Value.slice A2 names.length c2] 27))
    go_enter Try.func39, Try.ntmps39
    go_wp2_with fail
    go_ret
    exact ⟨_, rfl, rfl, by omega, by omega, by exact hB.out⟩
  | succ d =>
    by_cases k0 : kind = 0
    · subst k0; exact great_0 hd hk
    by_cases k1 : kind = 1
    · subst k1; exact great_1 hd hk
    by_cases k2 : kind = 2
    · subst k2; exact great_2 hd hk
    by_cases k3 : kind = 3
    · subst k3; exact great_3 hd hk
    by_cases k4 : kind = 4
    · subst k4; exact great_4 ih hd hk
    by_cases k5 : kind = 5
    · subst k5; exact great_5 ih hd hk
    exact great_o hd hk (by simpa using k0) (by simpa using k1) (by simpa using k2) (by simpa using k3) (by simpa using k4) (by simpa using k5)
theorem great_all : ∀ m, GreatC m
  | 0 => fun _ _ _ _ _ hk => hk.elim
  | m + 1 => great_of (great_all m)
set_option maxRecDepth 100000 in
theorem spec_JsonOk {m : Nat} (x : J) (cs : List Value) (w : World) (hk : (tJ (m + 1)).K w x cs) :
    Calls Try.prog 12 #[.agg cs.toArray] w fun e w' => e = .returned (.bool (jsonOk x)) ∧ Below w.heap.size w w' := by
  have HK := Hd.mk hk
  obtain ⟨A1, c1, A2, c2, rfl, hs, ⟨hc1, hr1⟩, hc2, hr2⟩ := tJ_K.1 hk
  clear hk hr1 hr2
  have b0 := Blk.new w #[Value.int IntKind.i64 x.kind, Value.int IntKind.i64 x.n, Value.string x.s, Value.slice A1 x.list.length c1, Value.slice A2 x.names.length c2] 27
  have hB0 := Hd.mk (below_alloc (Below.refl w.heap.size w) (Obj.cells #[Value.int IntKind.i64 x.kind, Value.int IntKind.i64 x.n, Value.string x.s, Value.slice A1 x.list.length c1, Value.slice A2 x.names.length c2] 27))
  go_enter Try.func12, Try.ntmps12
  go_wp2_with fail
  apply calls_gen; intro W hW
  have hX : Below w.heap.size w W := by rw [hW]; exact hB0.out
  clear hW
  refine (great_all (m + 1) x _ 6 W (by omega) ((tJ (m + 1)).K_below hX HK.out)).mono ?_
  rintro e w1 ⟨g, rfl, h1, h2, h3, hX1⟩
  have hB := Hd.mk (below_then hX hX1); clear hX hX1
  have HE := Hd.mk (show jsonOk x = decide (g ≤ 400) by
    rw [jsonOk, ← h1]
    by_cases hg : g ≤ 400
    · rw [if_pos hg]
    · rw [if_neg hg]; simp [hg])
  clear h1
  go_wp2_with fail
  go_ret
  exact ⟨by rw [HE.out]; rfl, hB.out⟩
set_option maxRecDepth 100000 in
theorem spec_JsonSize {m : Nat} (x : J) (cs : List Value) (w : World) (hk : (tJ (m + 1)).K w x cs) :
    Calls Try.prog 15 #[.agg cs.toArray] w fun e w' => e = .returned (.int .i64 (jsonSize x)) ∧ Below w.heap.size w w' := by
  have HK := Hd.mk hk
  obtain ⟨A1, c1, A2, c2, rfl, hs, ⟨hc1, hr1⟩, hc2, hr2⟩ := tJ_K.1 hk
  clear hk hr1 hr2
  have b0 := Blk.new w #[Value.int IntKind.i64 x.kind, Value.int IntKind.i64 x.n, Value.string x.s, Value.slice A1 x.list.length c1, Value.slice A2 x.names.length c2] 27
  have hB0 := Hd.mk (below_alloc (Below.refl w.heap.size w) (Obj.cells #[Value.int IntKind.i64 x.kind, Value.int IntKind.i64 x.n, Value.string x.s, Value.slice A1 x.list.length c1, Value.slice A2 x.names.length c2] 27))
  go_enter Try.func15, Try.ntmps15
  go_wp2_with fail
  apply calls_gen; intro W hW
  have hX : Below w.heap.size w W := by rw [hW]; exact hB0.out
  replace b0 : Blk W w.heap.size #[Value.int IntKind.i64 x.kind, Value.int IntKind.i64 x.n, Value.string x.s, Value.slice A1 x.list.length c1, Value.slice A2 x.names.length c2] 27 := by rw [hW]; exact b0
  clear hW
  refine (spec_JsonOk x _ W ((tJ (m + 1)).K_below hX HK.out)).mono ?_
  rintro e w1 ⟨rfl, hX1⟩
  replace b0 := b0.below hX1
  have hB := Hd.mk (below_then hX hX1); clear hX hX1
  have f0 : w1.cell? ⟨w.heap.size, 0, none⟩ = some (Value.int IntKind.i64 x.kind) := b0.cell 0 rfl
  have f1 : w1.cell? ⟨w.heap.size, 1, none⟩ = some (Value.int IntKind.i64 x.n) := b0.cell 1 rfl
  have f2 : w1.cell? ⟨w.heap.size, 2, none⟩ = some (Value.string x.s) := b0.cell 2 rfl
  have f3 : w1.cell? ⟨w.heap.size, 3, none⟩ = some (Value.slice A1 x.list.length c1) := b0.cell 3 rfl
  have f4 : w1.cell? ⟨w.heap.size, 4, none⟩ = some (Value.slice A2 x.names.length c2) := b0.cell 4 rfl
  cases h1 : jsonOk x
  · have HE := Hd.mk (show jsonSize x = 0 by
      rw [jsonSize, if_neg (by simpa [jsonOk] using h1)])
    go_wp2_with fail
    go_ret
    exact ⟨by rw [HE.out]; rfl, hB.out⟩
  · have h1' : sizeN 6 x ≤ 400 := by simpa [jsonOk] using h1
    have HE := Hd.mk (show jsonSize x = sizeN 6 x by rw [jsonSize, if_pos h1'])
    have HF := Hd.mk h1'
    clear h1'
    go_wp2_with fail
    refine (great_all (m + 1) x _ 6 w1 (by omega) ((tJ (m + 1)).K_below hB.out HK.out)).mono ?_
    rintro e w2 ⟨g, rfl, h2, h3, h4, hX1⟩
    have hB2 := Hd.mk (below_then hB.out hX1); clear hX1
    have HG := Hd.mk (show jsonSize x = g by
      have := HF.out
      rw [HE.out, ← h2] at *
      split at this
      · rw [if_pos (by assumption)]
      · omega)
    clear h2
    go_wp2_with fail
    go_ret
    exact ⟨by rw [HG.out]; rfl, hB2.out⟩
end Go.Proofs.Ytlkjpnlpankhpaa.X
