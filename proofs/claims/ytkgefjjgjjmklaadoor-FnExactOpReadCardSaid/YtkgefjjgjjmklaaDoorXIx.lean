/- What is proved here: contracts of the texts of numbers: the reference's digits, IndexOf. Conditions: none. -/
import Derived.Test.YtkgefjjgjjmklaaDoorXEn
import Derived.Test.YtkgefjjgjjmklaaDoorXPn
import Derived.Test.YtkgefjjgjjmklaaDoorShN
import Derived.Test.YtkgefjjgjjmklaaDoorXA
import Derived.Laws.IdiomStrings
import Derived.Lib.AtoiErrMem
import Derived.Lib.AppendIntMem
namespace Go.Proofs.YtkgefjjgjjmklaaDoor.X
open Go.RowKit Go.Sort
open Go.Lib (itoa decDigits atoiAll)
set_option linter.unusedVariables false
set_option linter.unusedSimpArgs false
open Ty
theorem itoa_zero : (⟨(itoa 0).toArray⟩ : ByteArray) = ⟨#[48]⟩ := by
  unfold itoa
  rw [if_neg (by omega), decDigits, dif_pos (by simp)]
  rfl
theorem ddig_len (u : Nat) (h : u ≤ 1000000000) : (ddig u).length ≤ 10 := by
  unfold ddig
  split
  · simp
  · exact decDigits_len u 9 (by omega)
theorem conv_one (W : World) (b : Int) (B : UInt8) (h : (B.toNat : Int) = b) : (convert 73 9 (.slice (some ⟨W.heap.size, 0, none⟩) 1 1)).run Tryd.prog (W.alloc (.cells #[.int .u8 b] 5)) = .ok (.string ⟨#[B]⟩) (W.alloc (.cells #[.int .u8 b] 5)) := by
  subst h
  refine run_convert_bytes_back (P := Tryd.prog) (W.alloc (.cells #[.int .u8 (B.toNat : Int)] 5)) 73 9 5 ⟨W.heap.size, 0, none⟩ 1 [B] (by kernel_rfl) (by kernel_rfl) (by kernel_rfl) (fun j hj => ?_)
  obtain rfl : j = 0 := by simpa using hj
  exact (Blk.new W #[.int .u8 (B.toNat : Int)] 5).cell 0 rfl
theorem dig_wrap (d : Nat) (h : d < 10) : wrap64 (48 + (d : Int)) % 256 = 48 + (d : Int) := by
  unfold wrap64; omega
theorem itoa_neg_ (n : Int) (h : n < 0) : (⟨(itoa n).toArray⟩ : ByteArray) = ⟨#[45]⟩ ++ ⟨(ddig n.natAbs).toArray⟩ := by
  unfold itoa ddig
  rw [if_pos h, if_neg (by omega)]
  apply ByteArray.ext
  simp
theorem itoa_pos_ (n : Int) (h : 0 < n) : itoa n = ddig n.natAbs := by
  unfold itoa ddig
  rw [if_neg (by omega), if_neg (by omega)]
  congr 1
  omega
theorem app_dig (u : Nat) (h : u ≠ 0) (s : ByteArray) (l : List UInt8) (hl : l = ddig u ++ s.data.toList) : l = ddig (u / 10) ++ ((⟨#[UInt8.ofNat (48 + u % 10)]⟩ : ByteArray) ++ s).data.toList := by
  rw [hl, ddig_step u h]; simp
/-- What a round takes off a number that is not above 0. -/
theorem dig_neg (m : Int) (s : ByteArray) (l : List UInt8) (hm : m ≠ 0) (h : -1000000000 ≤ m ∧ m ≤ 0 ∧ l = ddig m.natAbs ++ s.data.toList) : ∃ (q r t b : Int) (B : UInt8), m.tdiv 10 = q ∧ m.tmod 10 = r ∧ ((r < 0 → wrap64 (-r) = t) ∧ (¬ r < 0 → r = t)) ∧ wrap64 q = q ∧ wrap64 (48 + t) % 256 = b ∧ (B.toNat : Int) = b ∧
    Hd ((-1000000000 ≤ q ∧ q ≤ 0 ∧ l = ddig q.natAbs ++ ((⟨#[B]⟩ : ByteArray) ++ s).data.toList) ∧ q.natAbs < m.natAbs) := by
  obtain ⟨h0, h1, h2⟩ := h
  obtain ⟨u, rfl⟩ : ∃ u : Nat, m = -(u : Int) := ⟨m.natAbs, by omega⟩
  have hqt : (-(u : Int)).tdiv 10 = -((u / 10 : Nat) : Int) := by rw [Int.neg_tdiv, Int.tdiv_eq_ediv_of_nonneg (by omega)]; omega
  have hrt : (-(u : Int)).tmod 10 = -((u % 10 : Nat) : Int) := by rw [Int.neg_tmod, Int.tmod_eq_emod_of_nonneg (by omega)]; omega
  have hU := app_dig u (by omega) s l (by rw [h2]; simp)
  refine ⟨_, _, ((u % 10 : Nat) : Int), _, UInt8.ofNat (48 + u % 10), hqt, hrt, ⟨fun h => by unfold wrap64; omega, fun h => by omega⟩, by unfold wrap64; omega, rfl, ?_, ⟨⟨by omega, by omega, ?_⟩, by omega⟩⟩
  · rw [dig_wrap _ (by omega), ofNat_dig _ (by omega)]; omega
  · rw [hU]; congr 2; omega
/-- What a round takes off a number that is not below 0. -/
theorem dig_pos (m : Int) (s : ByteArray) (l : List UInt8) (hm : m ≠ 0) (h : 0 ≤ m ∧ m ≤ 1000000000 ∧ l = ddig m.natAbs ++ s.data.toList) : ∃ (q r b : Int) (B : UInt8), m.tdiv 10 = q ∧ m.tmod 10 = r ∧ ¬ r < 0 ∧ wrap64 q = q ∧ wrap64 (48 + r) % 256 = b ∧ (B.toNat : Int) = b ∧
    Hd ((0 ≤ q ∧ q ≤ 1000000000 ∧ l = ddig q.natAbs ++ ((⟨#[B]⟩ : ByteArray) ++ s).data.toList) ∧ q.natAbs < m.natAbs) := by
  obtain ⟨h0, h1, h2⟩ := h
  obtain ⟨u, rfl⟩ := Int.eq_ofNat_of_zero_le h0
  have hqt : (u : Int).tdiv 10 = ((u / 10 : Nat) : Int) := by rw [Int.tdiv_eq_ediv_of_nonneg (by omega)]; omega
  have hrt : (u : Int).tmod 10 = ((u % 10 : Nat) : Int) := by rw [Int.tmod_eq_emod_of_nonneg (by omega)]; omega
  have hU := app_dig u (by omega) s l (by rw [h2]; simp)
  refine ⟨_, _, _, UInt8.ofNat (48 + u % 10), hqt, hrt, by omega, by unfold wrap64; omega, rfl, ?_, ⟨⟨by omega, by omega, ?_⟩, by omega⟩⟩
  · rw [dig_wrap _ (by omega), ofNat_dig _ (by omega)]; omega
  · rw [hU]; rfl
end Go.Proofs.YtkgefjjgjjmklaaDoor.X
