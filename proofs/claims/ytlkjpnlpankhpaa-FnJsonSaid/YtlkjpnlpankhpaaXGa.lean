/- What is proved here: contracts of the test of a value's own fields. Conditions: none. -/
import Derived.Test.YtlkjpnlpankhpaaXG

namespace Go.Proofs.Ytlkjpnlpankhpaa.X
open Go.RowKit Go.Sort
set_option linter.unusedVariables false
set_option linter.unusedSimpArgs false
open Ty
def ownB (j : J) : Bool :=
  if 0 < j.list.length && (j.kind != 4 && j.kind != 5) then false
  else if 0 < j.names.length && j.kind != 5 then false
  else if j.n != 0 && (j.kind != 1 && j.kind != 2) then false
  else if (!(j.s.toList == [])) && j.kind != 3 then false
  else if j.kind == 1 then inB j.n 0 1
  else if j.kind == 2 then isNumB j.n
  else if j.kind == 3 then textB j.s
  else if j.kind == 5 then ((j.names.length : Int) == j.list.length) && namesB j.names
  else j.kind == 0 || j.kind == 4
set_option maxHeartbeats 4000000 in
set_option maxRecDepth 100000 in
theorem impl_ownOk_0 {A1 A2 : Option Addr} {c1 c2 : Nat} {n : Int} {s : ByteArray} {list : List J} {names : List ByteArray} {w : World} (hs : s.size ≤ 9223372036854775807) (hm1 : list.length ≤ 9223372036854775807) (hr2 : str.C w A2 names) :
    Calls Try.prog 75 #[.agg #[.int .i64 0, .int .i64 n, .string s, .slice A1 list.length c1, .slice A2 names.length c2]] w fun e w' => e = .returned (.bool (ownB (J.mk 0 n s list names))) ∧ Below w.heap.size w w' := by
  have hm2 := hr2.1
  have HC2 := Hd.mk hr2; clear hr2
  have hB := Hd.mk (below_alloc (Below.refl w.heap.size w) (Obj.cells #[.int .i64 0, .int .i64 n, .string s, .slice A1 list.length c1, .slice A2 names.length c2] 27))
  go_enter Try.func75, Try.ntmps75
  by_cases h1 : 0 < list.length
  · skip
    have HE := Hd.mk (show ownB (J.mk 0 n s list names) = false by simp_all [ownB, isNumB])
    go_wp2_with fail
    go_ret
    exact ⟨by rw [HE.out]; rfl, by exact hB.out⟩
  · skip
    obtain rfl : list = [] := List.eq_nil_of_length_eq_zero (by omega)
    by_cases h2 : 0 < names.length
    · skip
      have HE := Hd.mk (show ownB (J.mk 0 n s ([] : List J) names) = false by simp_all [ownB, isNumB])
      go_wp2_with fail
      go_ret
      exact ⟨by rw [HE.out]; rfl, by exact hB.out⟩
    · skip
      obtain rfl : names = [] := List.eq_nil_of_length_eq_zero (by omega)
      cases h3 : (n != 0)
      case true =>
        have HE := Hd.mk (show ownB (J.mk 0 n s ([] : List J) ([] : List ByteArray)) = false by simp_all [ownB, isNumB])
        go_wp2_with fail
        go_ret
        exact ⟨by rw [HE.out]; rfl, by exact hB.out⟩
      case false =>
        cases h4 : (s.toList == [])
        case true =>
          have HE := Hd.mk (show ownB (J.mk 0 n s ([] : List J) ([] : List ByteArray)) = true by simp_all [ownB, isNumB])
          go_wp2_with fail
          go_ret
          exact ⟨by rw [HE.out]; rfl, by exact hB.out⟩
        case false =>
          have HE := Hd.mk (show ownB (J.mk 0 n s ([] : List J) ([] : List ByteArray)) = false by simp_all [ownB, isNumB])
          go_wp2_with fail
          go_ret
          exact ⟨by rw [HE.out]; rfl, by exact hB.out⟩
set_option maxHeartbeats 4000000 in
set_option maxRecDepth 100000 in
theorem impl_ownOk_1 {A1 A2 : Option Addr} {c1 c2 : Nat} {n : Int} {s : ByteArray} {list : List J} {names : List ByteArray} {w : World} (hs : s.size ≤ 9223372036854775807) (hm1 : list.length ≤ 9223372036854775807) (hr2 : str.C w A2 names) :
    Calls Try.prog 75 #[.agg #[.int .i64 1, .int .i64 n, .string s, .slice A1 list.length c1, .slice A2 names.length c2]] w fun e w' => e = .returned (.bool (ownB (J.mk 1 n s list names))) ∧ Below w.heap.size w w' := by
  have hm2 := hr2.1
  have HC2 := Hd.mk hr2; clear hr2
  have hB := Hd.mk (below_alloc (Below.refl w.heap.size w) (Obj.cells #[.int .i64 1, .int .i64 n, .string s, .slice A1 list.length c1, .slice A2 names.length c2] 27))
  go_enter Try.func75, Try.ntmps75
  by_cases h1 : 0 < list.length
  · skip
    have HE := Hd.mk (show ownB (J.mk 1 n s list names) = false by simp_all [ownB, isNumB])
    go_wp2_with fail
    go_ret
    exact ⟨by rw [HE.out]; rfl, by exact hB.out⟩
  · skip
    obtain rfl : list = [] := List.eq_nil_of_length_eq_zero (by omega)
    by_cases h2 : 0 < names.length
    · skip
      have HE := Hd.mk (show ownB (J.mk 1 n s ([] : List J) names) = false by simp_all [ownB, isNumB])
      go_wp2_with fail
      go_ret
      exact ⟨by rw [HE.out]; rfl, by exact hB.out⟩
    · skip
      obtain rfl : names = [] := List.eq_nil_of_length_eq_zero (by omega)
      cases h3 : (n != 0)
      case true =>
        cases h4 : (s.toList == [])
        case true =>
          have HE := Hd.mk (show ownB (J.mk 1 n s ([] : List J) ([] : List ByteArray)) = inB n 0 1 by simp_all [ownB, isNumB])
          go_wp2_with (go_at_call 65; refine (impl_within _ _ _ _).mono ?_; rintro e w' ⟨rfl, rfl⟩)
          go_ret
          exact ⟨by rw [HE.out]; rfl, by exact hB.out⟩
        case false =>
          have HE := Hd.mk (show ownB (J.mk 1 n s ([] : List J) ([] : List ByteArray)) = false by simp_all [ownB, isNumB])
          go_wp2_with fail
          go_ret
          exact ⟨by rw [HE.out]; rfl, by exact hB.out⟩
      case false =>
        cases h4 : (s.toList == [])
        case true =>
          have HE := Hd.mk (show ownB (J.mk 1 n s ([] : List J) ([] : List ByteArray)) = inB n 0 1 by simp_all [ownB, isNumB])
          go_wp2_with (go_at_call 65; refine (impl_within _ _ _ _).mono ?_; rintro e w' ⟨rfl, rfl⟩)
          go_ret
          exact ⟨by rw [HE.out]; rfl, by exact hB.out⟩
        case false =>
          have HE := Hd.mk (show ownB (J.mk 1 n s ([] : List J) ([] : List ByteArray)) = false by simp_all [ownB, isNumB])
          go_wp2_with fail
          go_ret
          exact ⟨by rw [HE.out]; rfl, by exact hB.out⟩
set_option maxHeartbeats 4000000 in
set_option maxRecDepth 100000 in
theorem impl_ownOk_2 {A1 A2 : Option Addr} {c1 c2 : Nat} {n : Int} {s : ByteArray} {list : List J} {names : List ByteArray} {w : World} (hs : s.size ≤ 9223372036854775807) (hm1 : list.length ≤ 9223372036854775807) (hr2 : str.C w A2 names) :
    Calls Try.prog 75 #[.agg #[.int .i64 2, .int .i64 n, .string s, .slice A1 list.length c1, .slice A2 names.length c2]] w fun e w' => e = .returned (.bool (ownB (J.mk 2 n s list names))) ∧ Below w.heap.size w w' := by
  have hm2 := hr2.1
  have HC2 := Hd.mk hr2; clear hr2
  have hB := Hd.mk (below_alloc (Below.refl w.heap.size w) (Obj.cells #[.int .i64 2, .int .i64 n, .string s, .slice A1 list.length c1, .slice A2 names.length c2] 27))
  go_enter Try.func75, Try.ntmps75
  by_cases h1 : 0 < list.length
  · skip
    have HE := Hd.mk (show ownB (J.mk 2 n s list names) = false by simp_all [ownB, isNumB])
    go_wp2_with fail
    go_ret
    exact ⟨by rw [HE.out]; rfl, by exact hB.out⟩
  · skip
    obtain rfl : list = [] := List.eq_nil_of_length_eq_zero (by omega)
    by_cases h2 : 0 < names.length
    · skip
      have HE := Hd.mk (show ownB (J.mk 2 n s ([] : List J) names) = false by simp_all [ownB, isNumB])
      go_wp2_with fail
      go_ret
      exact ⟨by rw [HE.out]; rfl, by exact hB.out⟩
    · skip
      obtain rfl : names = [] := List.eq_nil_of_length_eq_zero (by omega)
      cases h3 : (n != 0)
      case true =>
        cases h4 : (s.toList == [])
        case true =>
          have HE := Hd.mk (show ownB (J.mk 2 n s ([] : List J) ([] : List ByteArray)) = inB n (-1000000000) 1000000000 by simp_all [ownB, isNumB])
          go_wp2_with (go_at_call 103; refine (impl_isNum _ _).mono ?_; rintro e w' ⟨rfl, rfl⟩)
          go_ret
          exact ⟨by rw [HE.out]; rfl, by exact hB.out⟩
        case false =>
          have HE := Hd.mk (show ownB (J.mk 2 n s ([] : List J) ([] : List ByteArray)) = false by simp_all [ownB, isNumB])
          go_wp2_with fail
          go_ret
          exact ⟨by rw [HE.out]; rfl, by exact hB.out⟩
      case false =>
        cases h4 : (s.toList == [])
        case true =>
          have HE := Hd.mk (show ownB (J.mk 2 n s ([] : List J) ([] : List ByteArray)) = inB n (-1000000000) 1000000000 by simp_all [ownB, isNumB])
          go_wp2_with (go_at_call 103; refine (impl_isNum _ _).mono ?_; rintro e w' ⟨rfl, rfl⟩)
          go_ret
          exact ⟨by rw [HE.out]; rfl, by exact hB.out⟩
        case false =>
          have HE := Hd.mk (show ownB (J.mk 2 n s ([] : List J) ([] : List ByteArray)) = false by simp_all [ownB, isNumB])
          go_wp2_with fail
          go_ret
          exact ⟨by rw [HE.out]; rfl, by exact hB.out⟩
set_option maxHeartbeats 4000000 in
set_option maxRecDepth 100000 in
theorem impl_ownOk_3 {A1 A2 : Option Addr} {c1 c2 : Nat} {n : Int} {s : ByteArray} {list : List J} {names : List ByteArray} {w : World} (hs : s.size ≤ 9223372036854775807) (hm1 : list.length ≤ 9223372036854775807) (hr2 : str.C w A2 names) :
    Calls Try.prog 75 #[.agg #[.int .i64 3, .int .i64 n, .string s, .slice A1 list.length c1, .slice A2 names.length c2]] w fun e w' => e = .returned (.bool (ownB (J.mk 3 n s list names))) ∧ Below w.heap.size w w' := by
  have hm2 := hr2.1
  have HC2 := Hd.mk hr2; clear hr2
  have hB := Hd.mk (below_alloc (Below.refl w.heap.size w) (Obj.cells #[.int .i64 3, .int .i64 n, .string s, .slice A1 list.length c1, .slice A2 names.length c2] 27))
  go_enter Try.func75, Try.ntmps75
  by_cases h1 : 0 < list.length
  · skip
    have HE := Hd.mk (show ownB (J.mk 3 n s list names) = false by simp_all [ownB, isNumB])
    go_wp2_with fail
    go_ret
    exact ⟨by rw [HE.out]; rfl, by exact hB.out⟩
  · skip
    obtain rfl : list = [] := List.eq_nil_of_length_eq_zero (by omega)
    by_cases h2 : 0 < names.length
    · skip
      have HE := Hd.mk (show ownB (J.mk 3 n s ([] : List J) names) = false by simp_all [ownB, isNumB])
      go_wp2_with fail
      go_ret
      exact ⟨by rw [HE.out]; rfl, by exact hB.out⟩
    · skip
      obtain rfl : names = [] := List.eq_nil_of_length_eq_zero (by omega)
      cases h3 : (n != 0)
      case true =>
        have HE := Hd.mk (show ownB (J.mk 3 n s ([] : List J) ([] : List ByteArray)) = false by simp_all [ownB, isNumB])
        go_wp2_with fail
        go_ret
        exact ⟨by rw [HE.out]; rfl, by exact hB.out⟩
      case false =>
        cases h4 : (s.toList == [])
        case true =>
          have HE := Hd.mk (show ownB (J.mk 3 n s ([] : List J) ([] : List ByteArray)) = textB s by simp_all [ownB, isNumB])
          go_wp2_with (go_at_call 106; refine (impl_textOk _ _ hs).mono ?_; rintro e w' ⟨rfl, rfl⟩)
          go_ret
          exact ⟨by rw [HE.out]; rfl, by exact hB.out⟩
        case false =>
          have HE := Hd.mk (show ownB (J.mk 3 n s ([] : List J) ([] : List ByteArray)) = textB s by simp_all [ownB, isNumB])
          go_wp2_with (go_at_call 106; refine (impl_textOk _ _ hs).mono ?_; rintro e w' ⟨rfl, rfl⟩)
          go_ret
          exact ⟨by rw [HE.out]; rfl, by exact hB.out⟩
set_option maxHeartbeats 4000000 in
set_option maxRecDepth 100000 in
theorem impl_ownOk_4a {A1 A2 : Option Addr} {c1 c2 : Nat} {n : Int} {s : ByteArray} {list : List J} {names : List ByteArray} {w : World} (hs : s.size ≤ 9223372036854775807) (hm1 : list.length ≤ 9223372036854775807) (hr2 : str.C w A2 names) (h1 : 0 < list.length) :
    Calls Try.prog 75 #[.agg #[.int .i64 4, .int .i64 n, .string s, .slice A1 list.length c1, .slice A2 names.length c2]] w fun e w' => e = .returned (.bool (ownB (J.mk 4 n s list names))) ∧ Below w.heap.size w w' := by
  have hm2 := hr2.1
  have HC2 := Hd.mk hr2; clear hr2
  have hB := Hd.mk (below_alloc (Below.refl w.heap.size w) (Obj.cells #[.int .i64 4, .int .i64 n, .string s, .slice A1 list.length c1, .slice A2 names.length c2] 27))
  go_enter Try.func75, Try.ntmps75
  by_cases h2 : 0 < names.length
  · skip
    have HE := Hd.mk (show ownB (J.mk 4 n s list names) = false by simp_all [ownB, isNumB])
    go_wp2_with fail
    go_ret
    exact ⟨by rw [HE.out]; rfl, by exact hB.out⟩
  · skip
    obtain rfl : names = [] := List.eq_nil_of_length_eq_zero (by omega)
    cases h3 : (n != 0)
    case true =>
      have HE := Hd.mk (show ownB (J.mk 4 n s list ([] : List ByteArray)) = false by simp_all [ownB, isNumB])
      go_wp2_with fail
      go_ret
      exact ⟨by rw [HE.out]; rfl, by exact hB.out⟩
    case false =>
      cases h4 : (s.toList == [])
      case true =>
        have HE := Hd.mk (show ownB (J.mk 4 n s list ([] : List ByteArray)) = true by simp_all [ownB, isNumB])
        go_wp2_with fail
        go_ret
        exact ⟨by rw [HE.out]; rfl, by exact hB.out⟩
      case false =>
        have HE := Hd.mk (show ownB (J.mk 4 n s list ([] : List ByteArray)) = false by simp_all [ownB, isNumB])
        go_wp2_with fail
        go_ret
        exact ⟨by rw [HE.out]; rfl, by exact hB.out⟩
set_option maxHeartbeats 4000000 in
set_option maxRecDepth 100000 in
theorem impl_ownOk_4b {A1 A2 : Option Addr} {c1 c2 : Nat} {n : Int} {s : ByteArray} {list : List J} {names : List ByteArray} {w : World} (hs : s.size ≤ 9223372036854775807) (hm1 : list.length ≤ 9223372036854775807) (hr2 : str.C w A2 names) (h1 : ¬ 0 < list.length) :
    Calls Try.prog 75 #[.agg #[.int .i64 4, .int .i64 n, .string s, .slice A1 list.length c1, .slice A2 names.length c2]] w fun e w' => e = .returned (.bool (ownB (J.mk 4 n s list names))) ∧ Below w.heap.size w w' := by
  have hm2 := hr2.1
  have HC2 := Hd.mk hr2; clear hr2
  have hB := Hd.mk (below_alloc (Below.refl w.heap.size w) (Obj.cells #[.int .i64 4, .int .i64 n, .string s, .slice A1 list.length c1, .slice A2 names.length c2] 27))
  go_enter Try.func75, Try.ntmps75
  obtain rfl : list = [] := List.eq_nil_of_length_eq_zero (by omega)
  by_cases h2 : 0 < names.length
  · skip
    have HE := Hd.mk (show ownB (J.mk 4 n s ([] : List J) names) = false by simp_all [ownB, isNumB])
    go_wp2_with fail
    go_ret
    exact ⟨by rw [HE.out]; rfl, by exact hB.out⟩
  · skip
    obtain rfl : names = [] := List.eq_nil_of_length_eq_zero (by omega)
    cases h3 : (n != 0)
    case true =>
      have HE := Hd.mk (show ownB (J.mk 4 n s ([] : List J) ([] : List ByteArray)) = false by simp_all [ownB, isNumB])
      go_wp2_with fail
      go_ret
      exact ⟨by rw [HE.out]; rfl, by exact hB.out⟩
    case false =>
      cases h4 : (s.toList == [])
      case true =>
        have HE := Hd.mk (show ownB (J.mk 4 n s ([] : List J) ([] : List ByteArray)) = true by simp_all [ownB, isNumB])
        go_wp2_with fail
        go_ret
        exact ⟨by rw [HE.out]; rfl, by exact hB.out⟩
      case false =>
        have HE := Hd.mk (show ownB (J.mk 4 n s ([] : List J) ([] : List ByteArray)) = false by simp_all [ownB, isNumB])
        go_wp2_with fail
        go_ret
        exact ⟨by rw [HE.out]; rfl, by exact hB.out⟩
set_option maxHeartbeats 4000000 in
set_option maxRecDepth 100000 in
theorem impl_ownOk_5a {A1 A2 : Option Addr} {c1 c2 : Nat} {n : Int} {s : ByteArray} {list : List J} {names : List ByteArray} {w : World} (hs : s.size ≤ 9223372036854775807) (hm1 : list.length ≤ 9223372036854775807) (hr2 : str.C w A2 names) (h1 : 0 < list.length) :
    Calls Try.prog 75 #[.agg #[.int .i64 5, .int .i64 n, .string s, .slice A1 list.length c1, .slice A2 names.length c2]] w fun e w' => e = .returned (.bool (ownB (J.mk 5 n s list names))) ∧ Below w.heap.size w w' := by
  have hm2 := hr2.1
  have HC2 := Hd.mk hr2; clear hr2
  have hB := Hd.mk (below_alloc (Below.refl w.heap.size w) (Obj.cells #[.int .i64 5, .int .i64 n, .string s, .slice A1 list.length c1, .slice A2 names.length c2] 27))
  go_enter Try.func75, Try.ntmps75
  by_cases h2 : 0 < names.length
  · skip
    cases h3 : (n != 0)
    case true =>
      have HE := Hd.mk (show ownB (J.mk 5 n s list names) = false by simp_all [ownB, isNumB])
      go_wp2_with fail
      go_ret
      exact ⟨by rw [HE.out]; rfl, by exact hB.out⟩
    case false =>
      cases h4 : (s.toList == [])
      case true =>
        cases hq : ((names.length : Int) == list.length)
        · skip
          have HE := Hd.mk (show ownB (J.mk 5 n s list names) = false by simp_all [ownB, isNumB])
          go_wp2_with fail
          go_ret
          exact ⟨by rw [HE.out]; rfl, by exact hB.out⟩
        · skip
          have HE := Hd.mk (show ownB (J.mk 5 n s list names) = namesB names by simp_all [ownB, isNumB])
          go_wp2_with (go_at_call 107; refine (impl_namesOk A2 c2 names _ (C_below HC2.out hB.out)).mono ?_; rintro e w' ⟨rfl, rfl⟩)
          go_ret
          exact ⟨by rw [HE.out]; rfl, by exact hB.out⟩
      case false =>
        have HE := Hd.mk (show ownB (J.mk 5 n s list names) = false by simp_all [ownB, isNumB])
        go_wp2_with fail
        go_ret
        exact ⟨by rw [HE.out]; rfl, by exact hB.out⟩
  · skip
    obtain rfl : names = [] := List.eq_nil_of_length_eq_zero (by omega)
    cases h3 : (n != 0)
    case true =>
      have HE := Hd.mk (show ownB (J.mk 5 n s list ([] : List ByteArray)) = false by simp_all [ownB, isNumB])
      go_wp2_with fail
      go_ret
      exact ⟨by rw [HE.out]; rfl, by exact hB.out⟩
    case false =>
      cases h4 : (s.toList == [])
      case true =>
        have hq : (((([] : List ByteArray)).length : Int) == (list).length) = false := by rw [beq_eq_false_iff_ne]; simp only [List.length_nil]; omega
        have HE := Hd.mk (show ownB (J.mk 5 n s list ([] : List ByteArray)) = false by simp_all [ownB, isNumB])
        go_wp2_with fail
        go_ret
        exact ⟨by rw [HE.out]; rfl, by exact hB.out⟩
      case false =>
        have HE := Hd.mk (show ownB (J.mk 5 n s list ([] : List ByteArray)) = false by simp_all [ownB, isNumB])
        go_wp2_with fail
        go_ret
        exact ⟨by rw [HE.out]; rfl, by exact hB.out⟩
set_option maxHeartbeats 4000000 in
set_option maxRecDepth 100000 in
theorem impl_ownOk_5b {A1 A2 : Option Addr} {c1 c2 : Nat} {n : Int} {s : ByteArray} {list : List J} {names : List ByteArray} {w : World} (hs : s.size ≤ 9223372036854775807) (hm1 : list.length ≤ 9223372036854775807) (hr2 : str.C w A2 names) (h1 : ¬ 0 < list.length) :
    Calls Try.prog 75 #[.agg #[.int .i64 5, .int .i64 n, .string s, .slice A1 list.length c1, .slice A2 names.length c2]] w fun e w' => e = .returned (.bool (ownB (J.mk 5 n s list names))) ∧ Below w.heap.size w w' := by
  have hm2 := hr2.1
  have HC2 := Hd.mk hr2; clear hr2
  have hB := Hd.mk (below_alloc (Below.refl w.heap.size w) (Obj.cells #[.int .i64 5, .int .i64 n, .string s, .slice A1 list.length c1, .slice A2 names.length c2] 27))
  go_enter Try.func75, Try.ntmps75
  obtain rfl : list = [] := List.eq_nil_of_length_eq_zero (by omega)
  by_cases h2 : 0 < names.length
  · skip
    cases h3 : (n != 0)
    case true =>
      have HE := Hd.mk (show ownB (J.mk 5 n s ([] : List J) names) = false by simp_all [ownB, isNumB])
      go_wp2_with fail
      go_ret
      exact ⟨by rw [HE.out]; rfl, by exact hB.out⟩
    case false =>
      cases h4 : (s.toList == [])
      case true =>
        have hq : (((names).length : Int) == (([] : List J)).length) = false := by rw [beq_eq_false_iff_ne]; simp only [List.length_nil]; omega
        have hq2 : ((names.length : Int) == 0) = false := by rw [beq_eq_false_iff_ne]; omega
        have HE := Hd.mk (show ownB (J.mk 5 n s ([] : List J) names) = false by simp_all [ownB, isNumB])
        go_wp2_with fail
        go_ret
        exact ⟨by rw [HE.out]; rfl, by exact hB.out⟩
      case false =>
        have HE := Hd.mk (show ownB (J.mk 5 n s ([] : List J) names) = false by simp_all [ownB, isNumB])
        go_wp2_with fail
        go_ret
        exact ⟨by rw [HE.out]; rfl, by exact hB.out⟩
  · skip
    obtain rfl : names = [] := List.eq_nil_of_length_eq_zero (by omega)
    cases h3 : (n != 0)
    case true =>
      have HE := Hd.mk (show ownB (J.mk 5 n s ([] : List J) ([] : List ByteArray)) = false by simp_all [ownB, isNumB])
      go_wp2_with fail
      go_ret
      exact ⟨by rw [HE.out]; rfl, by exact hB.out⟩
    case false =>
      cases h4 : (s.toList == [])
      case true =>
        have HE := Hd.mk (show ownB (J.mk 5 n s ([] : List J) ([] : List ByteArray)) = namesB ([] : List ByteArray) by simp_all [ownB, isNumB])
        go_wp2_with (go_at_call 107; refine (impl_namesOk A2 c2 ([] : List ByteArray) _ (C_below HC2.out hB.out)).mono ?_; rintro e w' ⟨rfl, rfl⟩)
        go_ret
        exact ⟨by rw [HE.out]; rfl, by exact hB.out⟩
      case false =>
        have HE := Hd.mk (show ownB (J.mk 5 n s ([] : List J) ([] : List ByteArray)) = false by simp_all [ownB, isNumB])
        go_wp2_with fail
        go_ret
        exact ⟨by rw [HE.out]; rfl, by exact hB.out⟩
set_option maxHeartbeats 4000000 in
set_option maxRecDepth 100000 in
theorem impl_ownOk_o {A1 A2 : Option Addr} {c1 c2 : Nat} {kind n : Int} {s : ByteArray} {list : List J} {names : List ByteArray} {w : World} (hs : s.size ≤ 9223372036854775807) (hm1 : list.length ≤ 9223372036854775807) (hr2 : str.C w A2 names) (e0 : (kind == 0) = false) (f0 : (kind != 0) = true) (e1 : (kind == 1) = false) (f1 : (kind != 1) = true) (e2 : (kind == 2) = false) (f2 : (kind != 2) = true) (e3 : (kind == 3) = false) (f3 : (kind != 3) = true) (e4 : (kind == 4) = false) (f4 : (kind != 4) = true) (e5 : (kind == 5) = false) (f5 : (kind != 5) = true) :
    Calls Try.prog 75 #[.agg #[.int .i64 kind, .int .i64 n, .string s, .slice A1 list.length c1, .slice A2 names.length c2]] w fun e w' => e = .returned (.bool (ownB (J.mk kind n s list names))) ∧ Below w.heap.size w w' := by
  have hm2 := hr2.1
  have HC2 := Hd.mk hr2; clear hr2
  have hB := Hd.mk (below_alloc (Below.refl w.heap.size w) (Obj.cells #[.int .i64 kind, .int .i64 n, .string s, .slice A1 list.length c1, .slice A2 names.length c2] 27))
  go_enter Try.func75, Try.ntmps75
  by_cases h1 : 0 < list.length
  · skip
    have HE := Hd.mk (show ownB (J.mk kind n s list names) = false by simp_all [ownB, isNumB])
    go_wp2_with fail
    go_ret
    exact ⟨by rw [HE.out]; rfl, by exact hB.out⟩
  · skip
    obtain rfl : list = [] := List.eq_nil_of_length_eq_zero (by omega)
    by_cases h2 : 0 < names.length
    · skip
      have HE := Hd.mk (show ownB (J.mk kind n s ([] : List J) names) = false by simp_all [ownB, isNumB])
      go_wp2_with fail
      go_ret
      exact ⟨by rw [HE.out]; rfl, by exact hB.out⟩
    · skip
      obtain rfl : names = [] := List.eq_nil_of_length_eq_zero (by omega)
      cases h3 : (n != 0)
      case true =>
        have HE := Hd.mk (show ownB (J.mk kind n s ([] : List J) ([] : List ByteArray)) = false by simp_all [ownB, isNumB])
        go_wp2_with fail
        go_ret
        exact ⟨by rw [HE.out]; rfl, by exact hB.out⟩
      case false =>
        cases h4 : (s.toList == [])
        case true =>
          have HE := Hd.mk (show ownB (J.mk kind n s ([] : List J) ([] : List ByteArray)) = false by simp_all [ownB, isNumB])
          go_wp2_with fail
          go_ret
          exact ⟨by rw [HE.out]; rfl, by exact hB.out⟩
        case false =>
          have HE := Hd.mk (show ownB (J.mk kind n s ([] : List J) ([] : List ByteArray)) = false by simp_all [ownB, isNumB])
          go_wp2_with fail
          go_ret
          exact ⟨by rw [HE.out]; rfl, by exact hB.out⟩
theorem impl_ownOk {m : Nat} (x : J) (cs : List Value) (w : World) (hk : (tJ (m + 1)).K w x cs) :
    Calls Try.prog 75 #[.agg cs.toArray] w fun e w' => e = .returned (.bool (ownB x)) ∧ Below w.heap.size w w' := by
  obtain ⟨A1, c1, A2, c2, rfl, hs, ⟨hc1, hr1⟩, hc2, hr2⟩ := tJ_K.1 hk
  clear hk
  obtain ⟨kind, n, s, list, names⟩ := x
  have hm1 := hr1.1
  by_cases k0 : kind = 0
  · subst k0
    exact impl_ownOk_0 hs hm1 hr2
  by_cases k1 : kind = 1
  · subst k1
    exact impl_ownOk_1 hs hm1 hr2
  by_cases k2 : kind = 2
  · subst k2
    exact impl_ownOk_2 hs hm1 hr2
  by_cases k3 : kind = 3
  · subst k3
    exact impl_ownOk_3 hs hm1 hr2
  by_cases k4 : kind = 4
  · subst k4
    by_cases h1 : 0 < list.length
    · exact impl_ownOk_4a hs hm1 hr2 h1
    · exact impl_ownOk_4b hs hm1 hr2 h1
  by_cases k5 : kind = 5
  · subst k5
    by_cases h1 : 0 < list.length
    · exact impl_ownOk_5a hs hm1 hr2 h1
    · exact impl_ownOk_5b hs hm1 hr2 h1
  exact impl_ownOk_o hs hm1 hr2 (by simpa using k0) (by simpa using k0) (by simpa using k1) (by simpa using k1) (by simpa using k2) (by simpa using k2) (by simpa using k3) (by simpa using k3) (by simpa using k4) (by simpa using k4) (by simpa using k5) (by simpa using k5)
end Go.Proofs.Ytlkjpnlpankhpaa.X
