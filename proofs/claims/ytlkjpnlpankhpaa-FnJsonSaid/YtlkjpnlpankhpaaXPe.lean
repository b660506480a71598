/- What is proved here: plain facts on a value as a text: how it is spelt, how long that is. Conditions: none. -/
import Derived.Test.YtlkjpnlpankhpaaXGc
import Derived.Test.YtlkjpnlpankhpaaXPn
import Derived.Lib.Join
import Derived.Lib.ItoaLen
namespace Go.Proofs.Ytlkjpnlpankhpaa.X
open Go.Lib
set_option linter.unusedVariables false
set_option linter.unusedSimpArgs false

def q1 (b : UInt8) : List UInt8 := if b = 34 ∨ b = 92 then [92, b] else [b]
def quoteL (s : List UInt8) : List UInt8 := 34 :: (s.flatMap q1 ++ [34])
theorem quoteL_length (s : List UInt8) : (quoteL s).length ≤ 2 * s.length + 2 := by
  have h : (s.flatMap q1).length ≤ 2 * s.length := by
    induction s with
    | nil => simp
    | cons b l ih =>
      rw [List.flatMap_cons, List.length_append]
      have : (q1 b).length ≤ 2 := by unfold q1; split <;> simp
      simp only [List.length_cons]; omega
  unfold quoteL
  simp only [List.length_cons, List.length_append, List.length_nil]; omega
/-- A part as it is written: of an object with its name ahead. -/
def pieceE (k5 : Bool) (n : ByteArray) (t : List UInt8) : List UInt8 := if k5 then quoteL n.data.toList ++ 58 :: t else t
def piecesE (enc : J → List UInt8) (j : J) : List (List UInt8) := (List.range j.list.length).map (fun i => pieceE (j.kind == 5) (j.names.getD i ByteArray.empty) (enc (j.list.getD i J.null)))
def encJ : Nat → J → List UInt8
  | 0, _ => []
  | k + 1, j => if j.kind = 0 then [110, 117, 108, 108] else if j.kind = 1 then (if j.n = 1 then [116, 114, 117, 101] else [102, 97, 108, 115, 101]) else if j.kind = 2 then itoa j.n else if j.kind = 3 then quoteL j.s.data.toList else
    if j.kind = 4 then 91 :: (join (piecesE (encJ k) j) [44] ++ [93]) else 123 :: (join (piecesE (encJ k) j) [44] ++ [125])
theorem piecesE_length (enc : J → List UInt8) (j : J) : (piecesE enc j).length = j.list.length := by simp [piecesE]
theorem piecesE_take (enc : J → List UInt8) (j : J) (i : Nat) (hi : i < j.list.length) : (piecesE enc j).take (i + 1) = (piecesE enc j).take i ++ [pieceE (j.kind == 5) (j.names.getD i ByteArray.empty) (enc j.list[i])] := by
  have h : i < (piecesE enc j).length := by rw [piecesE_length]; exact hi
  rw [List.take_succ_eq_append_getElem h]
  congr 2
  simp [piecesE, List.getD_eq_getElem?_getD, hi]
theorem join_snoc (xs : List (List UInt8)) (y sep : List UInt8) : join (xs ++ [y]) sep = if xs = [] then y else join xs sep ++ sep ++ y := by
  cases xs with
  | nil => simp [join_one]
  | cons x r =>
    rw [if_neg (by simp), List.cons_append, join_cons, join_cons]
    simp [joinTail]
/-- All texts of a row, and what joins them. -/
def lenE (l : List (List UInt8)) : Nat := lens l + l.length
theorem join_le (l : List (List UInt8)) : (join l [44]).length ≤ lenE l := by
  cases l with
  | nil => simp [join_nil, lenE, lens]
  | cons x r =>
    rw [join_length]
    unfold lenE
    simp only [List.length_cons, List.length_nil]; omega
theorem lenE_take (l : List (List UInt8)) (i : Nat) : lenE (l.take i) ≤ lenE l := by
  unfold lenE
  have := lens_take_le l i
  have : (l.take i).length ≤ l.length := by simp; omega
  omega
theorem itoa_len (n : Int) (h : -1000000000 ≤ n ∧ n ≤ 1000000000) : (itoa n).length ≤ 21 := itoa_length_le n (by omega) (by omega)
theorem sizeN_own {k : Nat} {j : J} (h : sizeN (k + 1) j ≤ 400) : ownB j = true ∧ sizeN (k + 1) j = 1 + sumZ (sizeN k) j.list := by
  unfold sizeN at h ⊢
  split at h
  · rename_i h1; rw [if_pos h1]; exact ⟨h1.1, rfl⟩
  · omega
theorem sizeN_part {k : Nat} {j : J} (h : sizeN (k + 1) j ≤ 400) (i : Nat) (hi : i < j.list.length) : sizeN k j.list[i] ≤ 400 := by
  have h1 := (sizeN_own h).2
  have h2 := sumZ_take (sizeN k) j.list i hi
  have h3 := sumZ_le (sizeN k) (sizeN_pos k) j.list (i + 1)
  have h4 := sumZ_pos (sizeN k) (sizeN_pos k) (j.list.take i)
  omega
theorem nameStep_60 {l : List ByteArray} (h : namesB l = true) (i : Nat) (hi : i < l.length) : (l.getD i ByteArray.empty).size ≤ 60 := by
  unfold namesB at h
  rw [List.all_eq_true] at h
  have := h i (List.mem_range.2 hi)
  unfold nameStep textB at this
  simp only [Bool.and_eq_true, decide_eq_true_eq] at this
  omega
theorem own_names {j : J} (h : ownB j = true) : (∀ i, i < j.names.length → (j.names.getD i ByteArray.empty).size ≤ 60) ∧ (j.kind = 5 → j.names.length = j.list.length) ∧ (j.kind ≠ 5 → j.names.length = 0) ∧ (j.list.length ≠ 0 → j.kind = 4 ∨ j.kind = 5) ∧ 0 ≤ j.kind ∧ j.kind ≤ 5 ∧ (j.kind = 1 → 0 ≤ j.n ∧ j.n ≤ 1) ∧ (j.kind = 2 → -1000000000 ≤ j.n ∧ j.n ≤ 1000000000) ∧ (j.kind = 3 → j.s.size ≤ 60) := by
  unfold ownB at h
  split at h
  · cases h
  rename_i h1
  split at h
  · cases h
  rename_i h2
  split at h
  · cases h
  split at h
  · cases h
  simp only [Bool.and_eq_true, decide_eq_true_eq, bne_iff_ne, not_and, Classical.not_not] at h1 h2
  have hl : j.list.length ≠ 0 → j.kind = 4 ∨ j.kind = 5 := fun h3 => by
    by_cases h4 : j.kind = 4
    · exact .inl h4
    · exact .inr (h1 (by omega) h4)
  have hn : j.kind ≠ 5 → j.names.length = 0 := fun h3 => by
    rcases Nat.eq_zero_or_pos j.names.length with h4 | h4
    · exact h4
    · exact absurd (h2 h4) h3
  split at h
  · rename_i hk
    have hk1 : j.kind = 1 := by simpa using hk
    simp only [inB, Bool.and_eq_true, decide_eq_true_eq] at h
    have h0 := hn (by omega)
    exact ⟨fun i hi => by omega, fun e => by omega, hn, hl, by omega, by omega, fun _ => h, fun e => by omega, fun e => by omega⟩
  split at h
  · rename_i hk
    have hk1 : j.kind = 2 := by simpa using hk
    simp only [isNumB, inB, Bool.and_eq_true, decide_eq_true_eq] at h
    have h0 := hn (by omega)
    exact ⟨fun i hi => by omega, fun e => by omega, hn, hl, by omega, by omega, fun e => by omega, fun _ => h, fun e => by omega⟩
  split at h
  · rename_i hk
    have hk1 : j.kind = 3 := by simpa using hk
    simp only [textB, Bool.and_eq_true, decide_eq_true_eq] at h
    have h0 := hn (by omega)
    exact ⟨fun i hi => by omega, fun e => by omega, hn, hl, by omega, by omega, fun e => by omega, fun e => by omega, fun _ => by omega⟩
  split at h
  · rename_i hk
    have hk1 : j.kind = 5 := by simpa using hk
    simp only [Bool.and_eq_true, beq_iff_eq] at h
    exact ⟨fun i hi => nameStep_60 h.2 i hi, fun e => by omega, hn, hl, by omega, by omega, fun e => by omega, fun e => by omega, fun e => by omega⟩
  · simp only [Bool.or_eq_true, beq_iff_eq] at h
    have h0 := hn (by omega)
    exact ⟨fun i hi => by omega, fun e => by omega, hn, hl, by omega, by omega, fun e => by omega, fun e => by omega, fun e => by omega⟩
theorem lenE_snoc (l : List (List UInt8)) (x : List UInt8) : lenE (l ++ [x]) = lenE l + x.length + 1 := by
  simp [lenE, lens]; omega
theorem pieceE_length (b : Bool) (n : ByteArray) (t : List UInt8) (h : n.size ≤ 60) : (pieceE b n t).length ≤ t.length + 123 := by
  have := quoteL_length n.data.toList
  rw [show n.data.toList.length = n.size by simp] at this
  unfold pieceE
  split
  · simp only [List.length_append, List.length_cons]; omega
  · omega
theorem lenE_pieces {k : Nat} {j : J} (h : sizeN (k + 1) j ≤ 400) (ih : ∀ x, sizeN k x ≤ 400 → ((encJ k x).length : Int) + 124 ≤ 246 * sizeN k x) : ∀ i, i ≤ j.list.length → (lenE ((piecesE (encJ k) j).take i) : Int) ≤ 246 * sumZ (sizeN k) (j.list.take i)
  | 0, _ => by simp [lenE, lens, sumZ]
  | i + 1, hi => by
    have h1 := lenE_pieces h ih i (by omega)
    have h2 := ih j.list[i] (sizeN_part h i (by omega))
    have hn : (j.names.getD i ByteArray.empty).size ≤ 60 := by
      by_cases hl : i < j.names.length
      · exact (own_names (sizeN_own h).1).1 i hl
      · rw [List.getD_eq_getElem?_getD, List.getElem?_eq_none (by omega)]; simp
    have h3 := pieceE_length (j.kind == 5) (j.names.getD i ByteArray.empty) (encJ k j.list[i]) hn
    rw [piecesE_take _ _ i (by omega), lenE_snoc, sumZ_take _ _ i (by omega)]
    omega
theorem encJ_length : ∀ (k : Nat) (j : J), sizeN k j ≤ 400 → ((encJ k j).length : Int) + 124 ≤ 246 * sizeN k j
  | 0, j, h => by simp [sizeN] at h
  | k + 1, j, h => by
    have ho := own_names (sizeN_own h).1
    have hp := sumZ_pos (sizeN k) (sizeN_pos k) j.list
    rw [(sizeN_own h).2]
    unfold encJ
    split
    · simp; omega
    split
    · split <;> (simp; omega)
    split
    · rename_i h2
      have := itoa_len j.n (ho.2.2.2.2.2.2.2.1 h2)
      omega
    split
    · rename_i h3
      have := quoteL_length j.s.data.toList
      have h4 := ho.2.2.2.2.2.2.2.2 h3
      rw [show j.s.data.toList.length = j.s.size by simp] at this
      omega
    have h5 := lenE_pieces h (fun x hx => encJ_length k x hx) j.list.length (Nat.le_refl _)
    rw [List.take_length, show (piecesE (encJ k) j).take j.list.length = piecesE (encJ k) j from List.take_of_length_le (by rw [piecesE_length]; exact Nat.le_refl _)] at h5
    have h6 := join_le (piecesE (encJ k) j)
    split <;> (simp only [List.length_cons, List.length_append, List.length_nil]; omega)
end Go.Proofs.Ytlkjpnlpankhpaa.X
