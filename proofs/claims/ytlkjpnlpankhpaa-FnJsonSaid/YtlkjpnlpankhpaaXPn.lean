/- What is proved here: plain facts on numbers as texts: a number's digits read back, the number of an index; no program in them. Conditions: none. -/
import Derived.Lib.ItoaNum
import Derived.Lib.ItoaMem
import Derived.Lib.AtoiAll
import Derived.Lib.AtoiAllCases
namespace Go.Proofs.Ytlkjpnlpankhpaa.X
open Go.Lib
set_option linter.unusedVariables false
set_option linter.unusedSimpArgs false

def isDig (c : UInt8) : Bool := decide (48 ≤ c.toNat ∧ c.toNat ≤ 57)
def stepD (x : Nat) (c : UInt8) : Nat := x * 10 + (c.toNat - 48)
def valD (l : List UInt8) : Nat := l.foldl stepD 0
theorem ofNat_dig (d : Nat) (h : d < 10) : (UInt8.ofNat (48 + d)).toNat = 48 + d := by
  rw [UInt8.toNat_ofNat']; omega
theorem isDig_ofNat (d : Nat) (h : d < 10) : isDig (UInt8.ofNat (48 + d)) = true := by
  unfold isDig
  rw [ofNat_dig d h]; simp; omega
theorem decDigits_all (u : Nat) : (decDigits u).all isDig = true := by
  induction u using Nat.strongRecOn with
  | _ u ih =>
    rw [decDigits]
    split
    · rename_i h
      rw [List.all_cons, isDig_ofNat u h]; rfl
    · rename_i h
      rw [List.all_append, ih (u / 10) (by omega)]
      rw [List.all_cons, isDig_ofNat (u % 10) (by omega)]; rfl
theorem decDigits_val (u : Nat) : valD (decDigits u) = u := by
  induction u using Nat.strongRecOn with
  | _ u ih =>
    rw [decDigits]
    split
    · rename_i h
      simp only [valD, List.foldl_cons, List.foldl_nil, stepD]
      rw [ofNat_dig u h]; omega
    · rename_i h
      have := ih (u / 10) (by omega)
      unfold valD at this ⊢
      rw [List.foldl_append, this]
      simp only [List.foldl_cons, List.foldl_nil, stepD]
      rw [ofNat_dig (u % 10) (by omega)]; omega
theorem decDigits_ne (u : Nat) : decDigits u ≠ [] := by
  rw [decDigits]
  split <;> simp
theorem decDigits_len (u k : Nat) (h : u < 10 ^ (k + 1)) : (decDigits u).length ≤ k + 1 := by
  induction k generalizing u with
  | zero =>
    rw [decDigits, dif_pos (by simpa using h)]; simp
  | succ k ih =>
    rw [decDigits]
    split
    · simp
    · rw [List.length_append]
      have := ih (u / 10) (by rw [Nat.pow_succ] at h; omega)
      simp only [List.length_cons, List.length_nil]; omega
theorem parse_dig : ∀ (l : List UInt8) (acc : Nat), l.all isDig = true → (acc + 1) * 10 ^ l.length ≤ 1000000000000000000 → parseUint10 acc l = .ok (l.foldl stepD acc)
  | [], acc, _, _ => rfl
  | c :: r, acc, ha, hb => by
    rw [List.all_cons, Bool.and_eq_true] at ha
    have hc : 48 ≤ c.toNat ∧ c.toNat ≤ 57 := by simpa [isDig] using ha.1
    have h1 : 0 < 10 ^ r.length := Nat.pow_pos (by omega)
    have h2 : (acc * 10 + (c.toNat - 48) + 1) * 10 ^ r.length ≤ 1000000000000000000 := by
      have h3 : (acc * 10 + (c.toNat - 48) + 1) ≤ (acc + 1) * 10 := by omega
      have h4 := Nat.mul_le_mul_right (10 ^ r.length) h3
      rw [List.length_cons, Nat.pow_succ, Nat.mul_comm (10 ^ r.length), ← Nat.mul_assoc] at hb
      omega
    have h5 : acc * 10 + (c.toNat - 48) + 1 ≤ 1000000000000000000 := Nat.le_trans (Nat.le_mul_of_pos_right _ h1) h2
    rw [parseUint10, if_pos hc, if_neg (by omega), if_neg (by omega), parse_dig r _ ha.2 h2]
    rfl
theorem valD_lt : ∀ (l : List UInt8) (acc : Nat), l.all isDig = true → l.foldl stepD acc < (acc + 1) * 10 ^ l.length
  | [], acc, _ => by simp
  | c :: r, acc, ha => by
    rw [List.all_cons, Bool.and_eq_true] at ha
    have hc : 48 ≤ c.toNat ∧ c.toNat ≤ 57 := by simpa [isDig] using ha.1
    have := valD_lt r (stepD acc c) ha.2
    have h3 : stepD acc c + 1 ≤ (acc + 1) * 10 := by unfold stepD; omega
    have h4 := Nat.mul_le_mul_right (10 ^ r.length) h3
    rw [List.length_cons, Nat.pow_succ, Nat.mul_comm (10 ^ r.length), ← Nat.mul_assoc, List.foldl_cons]
    omega
theorem atoi_dig (l : List UInt8) (hne : l ≠ []) (ha : l.all isDig = true) (hl : l.length ≤ 17) : atoiAll l = .ok (valD l) := by
  have hb : 10 ^ l.length ≤ 10 ^ 17 := Nat.pow_le_pow_right (by omega) hl
  have hp := parse_dig l 0 ha (by omega)
  have hv := valD_lt l 0 ha
  cases l with
  | nil => exact absurd rfl hne
  | cons c r =>
    have hc : 48 ≤ c.toNat ∧ c.toNat ≤ 57 := by
      rw [List.all_cons, Bool.and_eq_true] at ha
      simpa [isDig] using ha.1
    unfold atoiAll
    simp only
    rw [if_neg (by omega), parseMag, if_neg (by simp), hp]
    have e : List.foldl stepD 0 (c :: r) = valD (c :: r) := rfl
    rw [e] at hv ⊢
    simp only
    rw [if_neg (by omega), if_neg (by omega), if_neg (by omega)]
/-- The number of an index, as the program reads it. -/
def idxI (s : List UInt8) : Int := match atoiAll s with
  | .ok n => if 0 ≤ n ∧ n ≤ 999 ∧ itoa n = s then n else -1
  | _ => -1
/-- As the reference reads it. -/
def idxS (s : List UInt8) : Int := if s = [] ∨ 3 < s.length then -1 else if s.all isDig then (if decDigits (valD s) = s then (valD s : Int) else -1) else -1
theorem idx_eq (s : List UInt8) : idxI s = idxS s := by
  unfold idxS
  split
  · rename_i h
    unfold idxI
    split
    · rename_i n hn
      split
      · rename_i h2
        obtain ⟨h0, h9, h3⟩ := h2
        obtain ⟨u, rfl⟩ := Int.eq_ofNat_of_zero_le h0
        rw [itoa_nonneg] at h3
        have := decDigits_len u 2 (by omega)
        rw [h3] at this
        rcases h with h | h
        · exact absurd (h3.trans h) (decDigits_ne u)
        · omega
      · rfl
    · rfl
  · rename_i h
    simp only [not_or] at h
    split
    · rename_i ha
      have hat := atoi_dig s h.1 ha (by omega)
      have hv := valD_lt s 0 ha
      have hp : 10 ^ s.length ≤ 10 ^ 3 := Nat.pow_le_pow_right (by omega) (by omega)
      unfold idxI
      rw [hat]
      simp only
      have e : List.foldl stepD 0 s = valD s := rfl
      rw [e] at hv
      rw [itoa_nonneg]
      by_cases h2 : decDigits (valD s) = s
      · rw [if_pos ⟨by omega, by omega, h2⟩, if_pos h2]
      · rw [if_neg (fun x => h2 x.2.2), if_neg h2]
    · rename_i ha
      unfold idxI
      split
      · rename_i n hn
        split
        · rename_i h2
          obtain ⟨h0, h9, h3⟩ := h2
          obtain ⟨u, rfl⟩ := Int.eq_ofNat_of_zero_le h0
          rw [itoa_nonneg] at h3
          rw [← h3, decDigits_all] at ha
          exact absurd rfl ha
        · rfl
      · rfl
theorem idxS_le (s : List UInt8) : -1 ≤ idxS s ∧ idxS s ≤ 999 := by
  rw [← idx_eq]
  unfold idxI
  split
  · split
    · omega
    · omega
  · omega
/-- Digits of what is not 0. -/
def ddig (u : Nat) : List UInt8 := if u = 0 then [] else decDigits u
theorem ddig_step (u : Nat) (h : u ≠ 0) : ddig u = ddig (u / 10) ++ [UInt8.ofNat (48 + u % 10)] := by
  unfold ddig
  rw [if_neg h, decDigits]
  split
  · rename_i h2
    rw [if_pos (by omega), Nat.mod_eq_of_lt h2]; rfl
  · rw [if_neg (by omega)]
end Go.Proofs.Ytlkjpnlpankhpaa.X
