/- What is proved here: the step of a patch that a value tells (pure). Conditions: none. -/
import Derived.Test.YtkgefjjgjjmklaaDoorXOj
import Derived.Test.YtkgefjjgjjmklaaDoorXWr
import Derived.Test.YtkgefjjgjjmklaaDoorXGt
namespace Go.Proofs.YtkgefjjgjjmklaaDoor.X
open Go.RowKit Go.Sort
set_option linter.unusedVariables false
set_option linter.unusedSimpArgs false
open Ty
theorem esc_ge : ∀ t : List UInt8, t.length ≤ (esc t).length
  | [] => Nat.zero_le _
  | b :: t => by
    rw [esc_cons]
    simp only [List.length_append, List.length_cons]
    have h1 := esc_ge t
    have h2 : 1 ≤ (esc1 b).length := by unfold esc1; split <;> (try split) <;> simp
    omega
theorem wayT_ge : ∀ w : List (List UInt8), w.length + bulkL ByteArray.size (w.map mkB) ≤ (wayT w).length
  | [] => by simp [bulkL, wayT]
  | t :: w => by
    have h1 := wayT_ge w
    have h2 := esc_ge t
    rw [wayT_cons]
    simp only [List.map_cons, bulkL, List.length_cons, List.length_append]
    have h3 : (mkB t).size = t.length := by simp [mkB]; rfl
    omega
theorem bulk_wayV (s : ByteArray) : bulkStringS (wayV s) ≤ s.size := by
  unfold wayV
  cases h : wayS s.data.toList with
  | none => exact Nat.zero_le _
  | some w =>
    have h1 := (wayS_sound h).1
    have h2 := wayT_ge w
    rw [← h1] at h2
    have h3 : s.data.toList.length = s.size := Array.length_toList
    show (w.map mkB).length + bulkL ByteArray.size (w.map mkB) ≤ _
    rw [List.length_map]
    omega
theorem bulk_null (m : Nat) (x : J) : bulkJ (m + 1) J.null ≤ bulkJ (m + 1) x := by
  show 0 + (0 + 0) + (0 + 0) ≤ _
  omega
theorem bulk_s (m : Nat) (x : J) : x.s.size ≤ bulkJ (m + 1) x := by
  show x.s.size ≤ x.s.size + _ + _
  omega
/-- The number of a kind's name among the first k. -/
def kUp (nm : J) : Nat → Int
  | 0 => 0
  | k + 1 => if (k != 0 && ((nm.kind == 3) && (nm.s.toList == (kindL0.getD k ⟨#[]⟩).toList))) = true then (k : Int) else kUp nm k
theorem kUp_le (nm : J) : ∀ k, 0 ≤ kUp nm k ∧ kUp nm k ≤ k
  | 0 => ⟨Int.le_refl _, Int.le_refl _⟩
  | k + 1 => by
    have h := kUp_le nm k
    unfold kUp
    split <;> (refine ⟨by omega, by omega⟩)
theorem kUp_no (nm : J) (h : (nm.kind == 3) = false) : ∀ k, kUp nm k = 0
  | 0 => rfl
  | k + 1 => by
    unfold kUp
    rw [h, if_neg (by simp)]
    exact kUp_no nm h k
theorem kUp_yes (nm : J) (h : (nm.kind == 3) = true) : kUp nm 5 = 1 + nameAt kindL nm.s := by
  have e1 : kindL0.getD 1 ⟨#[]⟩ = ⟨#[97, 100, 100]⟩ := rfl
  have e2 : kindL0.getD 2 ⟨#[]⟩ = ⟨#[114, 101, 109, 111, 118, 101]⟩ := rfl
  have e3 : kindL0.getD 3 ⟨#[]⟩ = ⟨#[114, 101, 112, 108, 97, 99, 101]⟩ := rfl
  have e4 : kindL0.getD 4 ⟨#[]⟩ = ⟨#[116, 101, 115, 116]⟩ := rfl
  simp only [kUp, nameAt, idxF, kindL, h, e1, e2, e3, e4, toList_mk, List.findIdx_cons, List.findIdx_nil, List.length_cons, List.length_nil]
  generalize nm.s.toList = t
  by_cases h1 : t = [97, 100, 100]
  · subst h1; decide
  by_cases h2 : t = [114, 101, 109, 111, 118, 101]
  · subst h2; decide
  by_cases h3 : t = [114, 101, 112, 108, 97, 99, 101]
  · subst h3; decide
  by_cases h4 : t = [116, 101, 115, 116]
  · subst h4; decide
  have g1 : (t == [97, 100, 100]) = false := by simpa using h1
  have g2 : (t == [114, 101, 109, 111, 118, 101]) = false := by simpa using h2
  have g3 : (t == [114, 101, 112, 108, 97, 99, 101]) = false := by simpa using h3
  have g4 : (t == [116, 101, 115, 116]) = false := by simpa using h4
  simp [g1, g2, g3, g4, h1, h2, h3, h4]
/-- The step that a value tells, as the program reads it, and as the reference does. -/
def readI (j : J) : JOp := ⟨1 + nameAt kindL (field j nmOp).s, wayV (field j nmPath).s, field j nmValue⟩
def readS (j : J) : JOp := ⟨kUp (field j nmOp) 5, wayV (field j nmPath).s, field j nmValue⟩
noncomputable def readB (j : J) : Bool := hasField j nmOp && (hasField j nmPath && (wayOk (field j nmPath).s && (opOk (readI j) && jsonSame (opJ (readI j)) j)))
noncomputable def readSB (j : J) : Bool := wayOk (field j nmPath).s && (kUp (field j nmOp) 5 != 0 && jsonSame (opJ (readS j)) j)
noncomputable def readO (j : J) : JOp := if readB j = true then readI j else ⟨0, [], J.null⟩
theorem op_at (o : JOp) : nameAt (opRaw o).names nmOp = 0 := by
  unfold opRaw opRaw0
  split <;> simp [nameAt, idxF, List.findIdx_cons]
theorem path_at (o : JOp) : nameAt (opRaw o).names nmPath = 1 := by
  have h : (nmPath.toList == nmOp.toList) = false := by unfold nmOp nmPath; rw [toList_mk, toList_mk]; decide
  unfold opRaw opRaw0
  split <;> simp [nameAt, idxF, List.findIdx_cons, h]
theorem field_op {o : JOp} (h : jsonOk (opRaw o) = true) : field (opRaw o) nmOp = txt (kindNm o.kind) ∧ hasField (opRaw o) nmOp = true ∧ hasField (opRaw o) nmPath = true := by
  unfold field hasField
  rw [h, op_at, path_at]
  refine ⟨?_, by decide, by decide⟩
  simp only [Bool.true_and]
  rw [if_pos (by decide)]
  unfold opRaw opRaw0
  split <;> rfl
theorem null_field (s : ByteArray) : hasField J.null s = false := by
  unfold hasField
  have : nameAt J.null.names s = -1 := rfl
  rw [this]; simp
theorem opJ_cases (o : JOp) : opJ o = J.null ∨ (opOk o = true ∧ jsonOk (opRaw o) = true ∧ opJ o = opRaw o) := by
  unfold opJ
  split
  · rename_i h; exact .inr ⟨h.1, h.2, rfl⟩
  · exact .inl rfl
theorem same_iff {x y : J} : jsonSame x y = true ↔ jsonOk x = true ∧ jsonOk y = true ∧ x = y := by
  unfold jsonSame
  simp only [Bool.and_eq_true, eqv_iff]
theorem read_eq (j : J) : readSB j = readB j ∧ (readB j = true → readS j = readI j) := by
  have key : ∀ o, jsonSame (opJ o) j = true → (hasField j nmOp = true ∨ (field j nmOp).kind = 3) → opOk o = true ∧ (field j nmOp).kind = 3 ∧ hasField j nmOp = true ∧ hasField j nmPath = true := by
    intro o h h2
    obtain ⟨_, h4, h5⟩ := same_iff.1 h
    rcases opJ_cases o with h6 | ⟨h6, h7, h8⟩
    · rw [h6] at h5
      subst h5
      have h9 := null_field nmOp
      rcases h2 with h2 | h2
      · rw [h9] at h2; cases h2
      · unfold field at h2
        unfold hasField at h9
        rw [h9] at h2
        exact absurd h2 (by decide)
    · rw [h8] at h5
      subst h5
      obtain ⟨f1, f2, f3⟩ := field_op h7
      exact ⟨h6, by rw [f1]; rfl, f2, f3⟩
  have heq : (field j nmOp).kind = 3 → readS j = readI j := fun h => by
    unfold readS readI
    rw [kUp_yes _ (by simp [h])]
  have hSI : readSB j = true → readB j = true := fun h => by
    unfold readSB at h
    simp only [Bool.and_eq_true] at h
    obtain ⟨h1, h2, h3⟩ := h
    have hk : (field j nmOp).kind = 3 := by
      cases hb : ((field j nmOp).kind == 3)
      · rw [kUp_no _ hb] at h2; simp at h2
      · simpa using hb
    obtain ⟨k1, k2, k3, k4⟩ := key _ h3 (.inr hk)
    rw [heq hk] at h3 k1
    unfold readB
    simp [h1, h3, k1, k3, k4]
  have hIS : readB j = true → readSB j = true ∧ readS j = readI j := fun h => by
    unfold readB at h
    simp only [Bool.and_eq_true] at h
    obtain ⟨h1, h2, h3, h4, h5⟩ := h
    obtain ⟨k1, k2, k3, k4⟩ := key _ h5 (.inl h1)
    have he := heq k2
    refine ⟨?_, he⟩
    have hk : kUp (field j nmOp) 5 ≠ 0 := by
      have : (readS j).kind ≠ 0 := by
        rw [he]
        have := h4
        unfold opOk at this
        simp only [Bool.and_eq_true] at this
        have := (inB_iff.1 this.2.1).1
        omega
      exact this
    unfold readSB
    rw [he]
    simp [h3, h5, hk]
  refine ⟨?_, fun h => (hIS h).2⟩
  cases h : readB j
  · cases h2 : readSB j
    · rfl
    · rw [hSI h2] at h; cases h
  · exact (hIS h).1
end Go.Proofs.YtkgefjjgjjmklaaDoor.X
