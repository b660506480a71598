/- What is proved here: lemmas about the functions that the statement reaches, and what they compute (part 3). Conditions: none. -/
import Derived.Test.YtlkjpnlpankhpaaM2
import Derived.Test.YtlkjpnlpankhpaaM1
import Derived.Laws.IdiomStrings
import Derived.Lib.AtoiErrMem
import Derived.Lib.AppendIntMem
import Derived.Lib.MinMaxS
import Derived.Lib.Join
import Derived.Lib.ItoaLen
import Derived.StillTailTactics
import Derived.Deep.RegionWith
import Derived.Laws.Tables
import Derived.Deep.CutRange
import Derived.Deep.CutBlock
namespace Go.Proofs.Ytlkjpnlpankhpaa.X
open Go.RowKit Go.Sort
open Go.Lib (itoa decDigits atoiAll)
set_option linter.unusedVariables false
set_option linter.unusedSimpArgs false
open Ty
theorem itoa_zero : (⟨(itoa 0).toArray⟩ : ByteArray) = ⟨#[48]⟩ := by
 unfold itoa
 rw [if_neg (by omega), decDigits, dif_pos (by simp)]
 rfl
theorem ddig_len (u : Nat) (h : u ≤ 1000000000) : (ddig u).length ≤ 10 := by
 unfold ddig
 split
 ·simp
 ·exact decDigits_len u 9 (by omega)
theorem conv_one (W : World) (b : Int) (B : UInt8) (h : (B.toNat : Int) = b) : (convert 22 9 (.slice (some ⟨W.heap.size, 0, none⟩) 1 1)).run Try.prog (W.alloc (.cells #[.int .u8 b] 5)) = .ok (.string ⟨#[B]⟩) (W.alloc (.cells #[.int .u8 b] 5)) := by
 subst h
 refine run_convert_bytes_back (P := Try.prog) (W.alloc (.cells #[.int .u8 (B.toNat : Int)] 5)) 22 9 5 ⟨W.heap.size, 0, none⟩ 1 [B] (by kernel_rfl) (by kernel_rfl) (by kernel_rfl) (fun j hj => ?_)
 obtain rfl : j = 0 := by simpa using hj
 exact (Blk.new W #[.int .u8 (B.toNat : Int)] 5).cell 0 rfl
theorem dig_wrap (d : Nat) (h : d < 10) : wrap64 (48 + (d : Int)) % 256 = 48 + (d : Int) := by
 unfold wrap64; omega
theorem itoa_neg_ (n : Int) (h : n < 0) : (⟨(itoa n).toArray⟩ : ByteArray) = ⟨#[45]⟩ ++ ⟨(ddig n.natAbs).toArray⟩ := by
 unfold itoa ddig
 rw [if_pos h, if_neg (by omega)]
 apply ByteArray.ext
 simp
theorem itoa_pos_ (n : Int) (h : 0 < n) : itoa n = ddig n.natAbs := by
 unfold itoa ddig
 rw [if_neg (by omega), if_neg (by omega)]
 congr 1
 omega
theorem app_dig (u : Nat) (h : u ≠ 0) (s : ByteArray) (l : List UInt8) (hl : l = ddig u ++ s.data.toList) : l = ddig (u / 10) ++ ((⟨#[UInt8.ofNat (48 + u % 10)]⟩ : ByteArray) ++ s).data.toList := by
 rw [hl, ddig_step u h]; simp
theorem dig_neg (m : Int) (s : ByteArray) (l : List UInt8) (hm : m ≠ 0) (h : -1000000000 ≤ m ∧ m ≤ 0 ∧ l = ddig m.natAbs ++ s.data.toList) : ∃ (q r t b : Int) (B : UInt8), m.tdiv 10 = q ∧ m.tmod 10 = r ∧ ((r < 0 → wrap64 (-r) = t) ∧ (¬ r < 0 → r = t)) ∧ wrap64 q = q ∧ wrap64 (48 + t) % 256 = b ∧ (B.toNat : Int) = b ∧
  Hd ((-1000000000 ≤ q ∧ q ≤ 0 ∧ l = ddig q.natAbs ++ ((⟨#[B]⟩ : ByteArray) ++ s).data.toList) ∧ q.natAbs < m.natAbs) := by
 obtain ⟨h0, h1, h2⟩ := h
 obtain ⟨u, rfl⟩ : ∃ u : Nat, m = -(u : Int) := ⟨m.natAbs, by omega⟩
 have hqt : (-(u : Int)).tdiv 10 = -((u / 10 : Nat) : Int) := by rw [Int.neg_tdiv, Int.tdiv_eq_ediv_of_nonneg (by omega)]; omega
 have hrt : (-(u : Int)).tmod 10 = -((u % 10 : Nat) : Int) := by rw [Int.neg_tmod, Int.tmod_eq_emod_of_nonneg (by omega)]; omega
 have hU := app_dig u (by omega) s l (by rw [h2]; simp)
 refine ⟨_, _, ((u % 10 : Nat) : Int), _, UInt8.ofNat (48 + u % 10), hqt, hrt, ⟨fun h => by unfold wrap64; omega, fun h => by omega⟩, by unfold wrap64; omega, rfl, ?_, ⟨⟨by omega, by omega, ?_⟩, by omega⟩⟩
 ·rw [dig_wrap _ (by omega), ofNat_dig _ (by omega)]; omega
 ·rw [hU]; congr 2; omega
theorem dig_pos (m : Int) (s : ByteArray) (l : List UInt8) (hm : m ≠ 0) (h : 0 ≤ m ∧ m ≤ 1000000000 ∧ l = ddig m.natAbs ++ s.data.toList) : ∃ (q r b : Int) (B : UInt8), m.tdiv 10 = q ∧ m.tmod 10 = r ∧ ¬ r < 0 ∧ wrap64 q = q ∧ wrap64 (48 + r) % 256 = b ∧ (B.toNat : Int) = b ∧
  Hd ((0 ≤ q ∧ q ≤ 1000000000 ∧ l = ddig q.natAbs ++ ((⟨#[B]⟩ : ByteArray) ++ s).data.toList) ∧ q.natAbs < m.natAbs) := by
 obtain ⟨h0, h1, h2⟩ := h
 obtain ⟨u, rfl⟩ := Int.eq_ofNat_of_zero_le h0
 have hqt : (u : Int).tdiv 10 = ((u / 10 : Nat) : Int) := by rw [Int.tdiv_eq_ediv_of_nonneg (by omega)]; omega
 have hrt : (u : Int).tmod 10 = ((u % 10 : Nat) : Int) := by rw [Int.tmod_eq_emod_of_nonneg (by omega)]; omega
 have hU := app_dig u (by omega) s l (by rw [h2]; simp)
 refine ⟨_, _, _, UInt8.ofNat (48 + u % 10), hqt, hrt, by omega, by unfold wrap64; omega, rfl, ?_, ⟨⟨by omega, by omega, ?_⟩, by omega⟩⟩
 ·rw [dig_wrap _ (by omega), ofNat_dig _ (by omega)]; omega
 ·rw [hU]; rfl
set_option maxRecDepth 100000 in
theorem spec_l2Digits (n : Int) (w : World) (h0 : -1000000000 ≤ n) (h1 : n ≤ 1000000000) :
  Calls Try.prog 124 #[.int .i64 n] w fun e w' => e = .returned (.string ⟨(itoa n).toArray⟩) ∧ Below w.heap.size w w' := by
 go_enter Try.func124, Try.ntmps124
 by_cases hz : n = 0
 ·subst hz
  go_wp2_with fail
  go_ret
  exact ⟨by rw [itoa_zero]; rfl, Below.refl _ _⟩
 have HL := Hd.mk (ddig_len n.natAbs (by omega))
 have HI := Hd.mk (And.intro h0 h1); clear h0 h1
 by_cases hn : n < 0
 ·have HN := Hd.mk hn
  go_wp2_with fail
  go_loopw [0, 4, 5] (fun a o d wr => ∃ (m : Int) (s : ByteArray), a = .int .i64 m ∧ o = .string s ∧ Hd (-1000000000 ≤ m ∧ m ≤ 0 ∧ ddig n.natAbs = ddig m.natAbs ++ s.data.toList) ∧ Hd (Below w.heap.size w wr)) (fun a _ _ _ => (intOf a).natAbs)
  case atStart => exact ⟨n, ⟨#[]⟩, rfl, rfl, ⟨HI.out.1, by omega, by simp⟩, ⟨Below.refl _ _⟩⟩
  case round =>
   obtain ⟨m, s, rfl, rfl, HD, hB⟩ := hrel
   have hs : s.size ≤ 10 := by
    have h2 := congrArg List.length HD.out.2.2
    have h3 := HL.out
    rw [List.length_append, show s.data.toList.length = s.size by simp] at h2
    omega
   by_cases hm : m = 0
   ·subst hm
    go_wp2_with fail
    go_ret
    refine ⟨?_, hB.out⟩
    rw [itoa_neg_ n HN.out, HD.out.2.2]
    simp [ddig]
   ·obtain ⟨q, r, t, b, B, hqt, hrt, hw1, hw3, hw4, hb, HU⟩ := dig_neg m s _ hm HD.out
    have hc := conv_one wr b B hb; clear hb
    by_cases hr0 : r < 0
    ·have hw1 := hw1.1 hr0
     go_wp2_with fail
     rw [hw3]
     go_roundw
     case rel => exact ⟨q, _, rfl, rfl, ⟨HU.out.1⟩, ⟨below_alloc hB.out _⟩⟩
     case measure => simp only [intOf]; exact HU.out.2
    ·obtain rfl := hw1.2 hr0
     clear hw1
     go_wp2_with fail
     rw [hw3]
     go_roundw
     case rel => exact ⟨q, _, rfl, rfl, ⟨HU.out.1⟩, ⟨below_alloc hB.out _⟩⟩
     case measure => simp only [intOf]; exact HU.out.2
 ·have HN := Hd.mk hn
  go_wp2_with fail
  go_loopw [0, 4, 5] (fun a o d wr => ∃ (m : Int) (s : ByteArray), a = .int .i64 m ∧ o = .string s ∧ Hd (0 ≤ m ∧ m ≤ 1000000000 ∧ ddig n.natAbs = ddig m.natAbs ++ s.data.toList) ∧ Hd (Below w.heap.size w wr)) (fun a _ _ _ => (intOf a).natAbs)
  case atStart => exact ⟨n, ⟨#[]⟩, rfl, rfl, ⟨by omega, HI.out.2, by simp⟩, ⟨Below.refl _ _⟩⟩
  case round =>
   obtain ⟨m, s, rfl, rfl, HD, hB⟩ := hrel
   have hs : s.size ≤ 10 := by
    have h2 := congrArg List.length HD.out.2.2
    have h3 := HL.out
    rw [List.length_append, show s.data.toList.length = s.size by simp] at h2
    omega
   by_cases hm : m = 0
   ·subst hm
    go_wp2_with fail
    go_ret
    refine ⟨?_, hB.out⟩
    rw [itoa_pos_ n (by omega), HD.out.2.2]
    simp [ddig]
   ·obtain ⟨q, r, b, B, hqt, hrt, hr0, hw3, hw4, hb, HU⟩ := dig_pos m s _ hm HD.out
    have hc := conv_one wr b B hb; clear hb
    go_wp2_with fail
    rw [hw3]
    go_roundw
    case rel => exact ⟨q, _, rfl, rfl, ⟨HU.out.1⟩, ⟨below_alloc hB.out _⟩⟩
    case measure => simp only [intOf]; exact HU.out.2
theorem valD_take (l : List UInt8) (k : Nat) (hk : k < l.length) : valD (l.take (k + 1)) = valD (l.take k) * 10 + (l[k].toNat - 48) := by
 unfold valD
 rw [List.take_succ_eq_append_getElem hk, List.foldl_append]; rfl
theorem valD_le3 (l : List UInt8) (h : l.all isDig = true) (h3 : l.length ≤ 3) : valD l ≤ 999 := by
 have := valD_lt l 0 h
 have hp : 10 ^ l.length ≤ 10 ^ 3 := Nat.pow_le_pow_right (by omega) h3
 have e : List.foldl stepD 0 l = valD l := rfl
 omega
set_option maxRecDepth 100000 in
theorem spec_IndexOf (s : ByteArray) (w : World) (hs : s.size ≤ 9223372036854775807) :
  Calls Try.prog 127 #[.string s] w fun e w' => e = .returned (.int .i64 (idxS s.data.toList)) ∧ Below w.heap.size w w' := by
 go_enter Try.func127, Try.ntmps127
 have HE : s.toList = s.data.toList := by rw [ByteArray.toList_eq]
 cases he : (s.toList == [])
 case true =>
  have HX := Hd.mk (show idxS s.data.toList = -1 by unfold idxS; rw [if_pos (.inl (by rw [← HE]; simpa using he))])
  clear HE
  go_wp2_with fail
  go_ret
  exact ⟨by rw [HX.out]; rfl, Below.refl _ _⟩
 by_cases hl : (3 : Int) < (s.size : Int)
 ·have HX := Hd.mk (show idxS s.data.toList = -1 by unfold idxS; rw [if_pos (.inr (by rw [show s.data.toList.length = s.size by simp]; omega))])
  clear HE
  go_wp2_with fail
  go_ret
  exact ⟨by rw [HX.out]; rfl, Below.refl _ _⟩
 ·have HX := Hd.mk (show idxS s.data.toList = if s.data.toList.all isDig then (if decDigits (valD s.data.toList) = s.data.toList then (valD s.data.toList : Int) else -1) else -1 by
   unfold idxS
   rw [if_neg (fun h => ?_)]
   rcases h with h | h
   ·rw [HE, h] at he; simp at he
   ·simp at h; omega)
  clear HE
  go_wp2_with fail
  have HL := Hd.mk (show s.data.toList.length ≤ 3 by rw [show s.data.toList.length = s.size by simp]; omega)
  go_loopw [3, 4] (fun x i wr => ∃ (k : Nat) (v : Int), k ≤ s.size ∧ i = .int .i64 k ∧ x = .int .i64 v ∧ Hd ((s.data.toList.take k).all isDig = true ∧ v = valD (s.data.toList.take k)) ∧ Hd (Below w.heap.size w wr)) (fun _ i _ => s.size - (intOf i).toNat)
  case atStart => exact ⟨0, 0, Nat.zero_le _, rfl, rfl, ⟨rfl, rfl⟩, ⟨Below.refl _ _⟩⟩
  case round =>
   obtain ⟨k, v, hk, rfl, rfl, HA, hB⟩ := hrel
   have hv : 0 ≤ v ∧ v ≤ 999 := by
    have h1 := valD_le3 (s.data.toList.take k) HA.out.1 (by have := HL.out; simp; omega)
    have h2 := HA.out.2
    omega
   have hv0 := hv.1; have hv1 := hv.2; clear hv
   by_cases hlt : k < s.size
   ·have hkl : k < s.data.toList.length := by simpa using hlt
    have hT := Hd.mk (valD_take s.data.toList k hkl)
    have HA2 := Hd.mk (show (s.data.toList.take (k + 1)).all isDig = isDig s[k] from all_take isDig s.data.toList k hkl HA.out.1)
    have hno := Hd.mk (fun (h : isDig s[k] = false) => show idxS s.data.toList = -1 by rw [HX.out, all_false isDig s.data.toList (k + 1) (by rw [HA2.out, h])]; rfl)
    by_cases h1 : (s[k].toNat : Int) < 48
    ·have HN := Hd.mk (hno.out (by unfold isDig; simp; omega))
     go_wp2_with fail
     go_ret
     exact ⟨by rw [HN.out]; rfl, hB.out⟩
    by_cases h2 : 57 < (s[k].toNat : Int)
    ·have HN := Hd.mk (hno.out (by unfold isDig; simp; omega))
     go_wp2_with fail
     go_ret
     exact ⟨by rw [HN.out]; rfl, hB.out⟩
    ·have hw : wrap64 ((s[k].toNat : Nat) : Int) = s[k].toNat := by unfold wrap64; omega
     go_wp2_with fail
     go_roundw
     case rel =>
      refine ⟨k + 1, _, by omega, by go_num, rfl, ⟨?_, ?_⟩, hB⟩
      ·rw [HA2.out]; unfold isDig; simp; omega
      ·rw [hT.out, HA.out.2]
       show 10 * ((valD (s.data.toList.take k) : Nat) : Int) + (s[k].toNat : Int) - 48 = _
       have e : s.data.toList[k] = s[k] := rfl
       rw [e]; omega
     case measure => simp [intOf]; omega
   ·obtain rfl : k = s.size := by omega
    have HE2 := Hd.mk (show s.data.toList.all isDig = true ∧ v = valD s.data.toList by
     have := HA.out
     rwa [show s.size = s.data.toList.length by simp, List.take_length] at this)
    go_wp2_with fail
    refine (spec_l2Digits v wr (by omega) (by omega)).mono ?_
    rintro e w1 ⟨rfl, hX1⟩
    have hB1 := Hd.mk (below_then hB.out hX1); clear hX1
    obtain ⟨t, ht⟩ : ∃ t : ByteArray, t = ⟨(itoa v).toArray⟩ := ⟨_, rfl⟩
    rw [← ht]
    have HT := Hd.mk (show t.toList = decDigits (valD s.data.toList) by rw [ht, ByteArray.toList_eq, HE2.out.2, Go.Lib.itoa_nonneg]); clear ht
    cases hb : (t.toList == s.toList)
    ·have HN := Hd.mk (show idxS s.data.toList = -1 by
      rw [HX.out, if_pos HE2.out.1, if_neg (fun h => ?_)]
      rw [HT.out, h, ByteArray.toList_eq] at hb; simp at hb)
     go_wp2_with fail
     go_ret
     exact ⟨by rw [HN.out]; rfl, hB1.out⟩
    ·have HN := Hd.mk (show idxS s.data.toList = v by
      rw [HX.out, if_pos HE2.out.1, if_pos (by rw [HT.out, ByteArray.toList_eq] at hb; simpa using hb)]
      exact HE2.out.2.symm)
     go_wp2_with fail
     go_ret
     exact ⟨by rw [HN.out]; rfl, hB1.out⟩
end Go.Proofs.Ytlkjpnlpankhpaa.X
namespace Go.Proofs.Ytlkjpnlpankhpaa.X
open Go.RowKit Go.Sort
set_option linter.unusedVariables false
set_option linter.unusedSimpArgs false
theorem ltB_iff {a b : ByteArray} : ltB a b = true ↔ a.toList < b.toList := by
 unfold ltB
 rw [Proofs.bytesLess_eq]; simp
theorem ltB_irr (a : ByteArray) : ltB a a = false := by
 cases h : ltB a a
 ·rfl
 ·exact absurd (ltB_iff.1 h) (List.lt_irrefl _)
theorem ltB_trans {a b c : ByteArray} (h : ltB a b = true) (k : ltB b c = true) : ltB a c = true := ltB_iff.2 (List.lt_trans (ltB_iff.1 h) (ltB_iff.1 k))
theorem ltB_asym {a b : ByteArray} (h : ltB a b = true) : ltB b a = false := by
 cases k : ltB b a
 ·rfl
 ·have := ltB_trans h k
  rw [ltB_irr] at this; cases this
theorem ltB_ne {a b : ByteArray} (h : ltB a b = true) : (a.toList == b.toList) = false := by
 cases k : (a.toList == b.toList)
 ·rfl
 ·have h1 := ltB_iff.1 h
  rw [beq_iff_eq.1 k] at h1
  exact absurd h1 (List.lt_irrefl _)
theorem bytes_ext {a b : ByteArray} (h : a.toList = b.toList) : a = b := by
 rw [ByteArray.toList_eq, ByteArray.toList_eq] at h
 cases a; cases b
 simpa using Array.ext' h
def UpB (l : List ByteArray) : Prop := ∀ i j (hi : i < j) (hj : j < l.length), ltB l[i] l[j] = true
theorem namesB_up {l : List ByteArray} (h : namesB l = true) : UpB l := by
 have h1 : ∀ k (hk : k + 1 < l.length), ltB l[k] l[k + 1] = true := fun k hk => by
  unfold namesB at h
  have h2 := List.all_eq_true.1 h (k + 1) (List.mem_range.2 hk)
  rw [nameStep_at hk] at h2
  simp only [Bool.and_eq_true, Bool.or_eq_true] at h2
  rcases h2.2 with h3 | h3
  ·simp at h3
  ·rw [show l.getD (k + 1 - 1) ByteArray.empty = l[k] by simp [List.getD_eq_getElem?_getD, show k < l.length by omega]] at h3
   exact h3
 intro i j hi hj
 induction j with
 | zero => omega
 | succ j ih =>
  rcases Nat.lt_or_ge i j with h2 | h2
  ·exact ltB_trans (ih h2 (by omega)) (h1 j hj)
  ·obtain rfl : i = j := by omega
   exact h1 i hj
def posB (l : List ByteArray) (s : ByteArray) : Nat := l.findIdx (fun x => !ltB x s)
theorem posB_le (l : List ByteArray) (s : ByteArray) : posB l s ≤ l.length := List.findIdx_le_length
theorem posB_lt {l : List ByteArray} {s : ByteArray} {k : Nat} (h : k < posB l s) (hk : k < l.length) : ltB l[k] s = true := by
 have := List.not_of_lt_findIdx h
 simpa using this
theorem posB_ge {l : List ByteArray} {s : ByteArray} (hu : UpB l) {k : Nat} (h : posB l s ≤ k) (hk : k < l.length) : ltB l[k] s = false := by
 have hp : posB l s < l.length := by omega
 have h1 : ltB l[posB l s] s = false := by
  have h : (!ltB l[posB l s] s) = true := List.findIdx_getElem (xs := l) (p := fun x => !ltB x s) (w := hp)
  cases hb : ltB l[posB l s] s
  ·rfl
  ·rw [hb] at h; cases h
 rcases Nat.lt_or_ge (posB l s) k with h2 | h2
 ·cases h3 : ltB l[k] s
  ·rfl
  ·have := ltB_trans (hu _ _ h2 hk) h3
   rw [h1] at this; cases this
 ·have : k = posB l s := by omega
  subst this
  exact h1
theorem posB_of {l : List ByteArray} {s : ByteArray} {p : Nat} (h1 : ∀ k (hk : k < l.length), k < p → ltB l[k] s = true) (h2 : ∀ k (hk : k < l.length), p ≤ k → ltB l[k] s = false) (hp : p ≤ l.length) : posB l s = p := by
 unfold posB
 rcases Nat.lt_or_ge p l.length with h | h
 ·rw [List.findIdx_eq h]
  exact ⟨by rw [h2 p h (Nat.le_refl _)]; rfl, fun j hj => by rw [h1 j (by omega) hj]; rfl⟩
 ·obtain rfl : p = l.length := by omega
  rw [List.findIdx_eq_length]
  intro x hx
  obtain ⟨k, hk, rfl⟩ := List.mem_iff_getElem.1 hx
  rw [h1 k hk hk]; rfl
theorem ne_past {l : List ByteArray} {s : ByteArray} (hu : UpB l) {k : Nat} (h : posB l s < k) (hk : k < l.length) : (l[k].toList == s.toList) = false := by
 cases h3 : (l[k].toList == s.toList)
 ·rfl
 ·have h4 := hu _ _ h hk
  rw [bytes_ext (beq_iff_eq.1 h3)] at h4
  rw [posB_ge hu (Nat.le_refl _) (by omega)] at h4; cases h4
theorem take_snoc {α : Type} {l : List α} {k : Nat} (h : k < l.length) : l.take k ++ [l[k]] = l.take (k + 1) := (List.take_succ_eq_append_getElem h).symm
theorem mid_snoc {α : Type} {l : List α} {a k : Nat} (ha : a ≤ k) (h : k < l.length) : (l.drop a).take (k - a) ++ [l[k]] = (l.drop a).take (k + 1 - a) := by
 have h1 : k - a < (l.drop a).length := by simp; omega
 have h2 : (l.drop a)[k - a] = l[k] := by rw [List.getElem_drop]; congr 1; omega
 rw [← h2, take_snoc h1]
 congr 1; omega
theorem putS_lt {l : List ByteArray} {s : ByteArray} (n : Nat) : ∀ k, k ≤ posB l s → putS l s n k = (false, l.take k, List.range k)
 | 0, _ => by simp [putS]
 | k + 1, h => by
  have hk : k < l.length := by have := posB_le l s; omega
  have h1 := posB_lt (show k < posB l s by omega) hk
  rw [putS, putS_lt n k (by omega), show l.getD k ⟨#[]⟩ = l[k] by simp [List.getD_eq_getElem?_getD, hk]]
  simp only [putIn, putOn, h1, ltB_ne h1]
  simp [take_snoc hk, List.range_succ]
theorem putS_new {l : List ByteArray} {s : ByteArray} (hu : UpB l) (n : Nat) (hno : ∀ h : posB l s < l.length, (l[posB l s].toList == s.toList) = false) : ∀ k, posB l s < k → k ≤ l.length → putS l s n k = (true, l.take (posB l s) ++ s :: (l.drop (posB l s)).take (k - posB l s), List.range (posB l s) ++ n :: List.range' (posB l s) (k - posB l s))
 | 0, h, _ => by omega
 | k + 1, h, hk => by
  have hk : k < l.length := by omega
  rcases Nat.lt_or_ge (posB l s) k with h2 | h2
  ·rw [putS, putS_new hu n hno k h2 (by omega), show l.getD k ⟨#[]⟩ = l[k] by simp [List.getD_eq_getElem?_getD, hk]]
   simp only [putIn, putOn, ne_past hu h2 hk]
   have h3 : List.range' (posB l s) (k + 1 - posB l s) = List.range' (posB l s) (k - posB l s) ++ [k] := by
    rw [show k + 1 - posB l s = (k - posB l s) + 1 by omega, List.range'_concat]
    congr 2; omega
   rw [h3, ← mid_snoc (show posB l s ≤ k by omega) hk]
   simp
  ·obtain rfl : k = posB l s := by omega
   rw [putS, putS_lt n _ (Nat.le_refl _), show l.getD (posB l s) ⟨#[]⟩ = l[posB l s] by simp [List.getD_eq_getElem?_getD, hk]]
   simp only [putIn, putOn, hno hk, posB_ge hu (Nat.le_refl _) hk]
   have h3 : (l.drop (posB l s)).take 1 = [l[posB l s]] := by
    have := mid_snoc (Nat.le_refl (posB l s)) hk
    simpa using this.symm
   simp [show posB l s + 1 - posB l s = 1 by omega, h3]
theorem putS_old {l : List ByteArray} {s : ByteArray} (hu : UpB l) (n : Nat) (hp : posB l s < l.length) (hyes : (l[posB l s].toList == s.toList) = true) : ∀ k, posB l s < k → k ≤ l.length → putS l s n k = (true, l.take k, List.range (posB l s) ++ n :: List.range' (posB l s + 1) (k - (posB l s + 1)))
 | 0, h, _ => by omega
 | k + 1, h, hk => by
  have hk : k < l.length := by omega
  rcases Nat.lt_or_ge (posB l s) k with h2 | h2
  ·rw [putS, putS_old hu n hp hyes k h2 (by omega), show l.getD k ⟨#[]⟩ = l[k] by simp [List.getD_eq_getElem?_getD, hk]]
   simp only [putIn, putOn, ne_past hu h2 hk]
   have h3 : List.range' (posB l s + 1) (k + 1 - (posB l s + 1)) = List.range' (posB l s + 1) (k - (posB l s + 1)) ++ [k] := by
    rw [show k + 1 - (posB l s + 1) = (k - (posB l s + 1)) + 1 by omega, List.range'_concat]
    congr 2; omega
   rw [h3]
   simp [take_snoc hk]
  ·obtain rfl : k = posB l s := by omega
   rw [putS, putS_lt n _ (Nat.le_refl _), show l.getD (posB l s) ⟨#[]⟩ = l[posB l s] by simp [List.getD_eq_getElem?_getD, hk]]
   simp only [putIn, putOn, hyes, posB_ge hu (Nat.le_refl _) hk]
   have h4 : s = l[posB l s] := (bytes_ext (beq_iff_eq.1 hyes)).symm
   have h3 : l.take (posB l s) ++ [s] = l.take (posB l s + 1) := by
    rw [← take_snoc hk, ← h4]
   simp [h3]
theorem map_range {α β : Type} (f : Nat → β) (l : List β) (k : Nat) (hk : k ≤ l.length) (h : ∀ i (hi : i < l.length), f i = l[i]) : (List.range k).map f = l.take k := by
 apply List.ext_getElem
 ·simp; omega
 ·intro i h1 h2
  simp only [List.length_map, List.length_range] at h1
  simp [h i (by omega)]
theorem map_range' {β : Type} (f : Nat → β) (l : List β) (a k : Nat) (hk : a + k = l.length) (h : ∀ i (hi : i < l.length), f i = l[i]) : (List.range' a k).map f = l.drop a := by
 apply List.ext_getElem
 ·simp; omega
 ·intro i h1 h2
  simp only [List.length_map, List.length_range'] at h1
  simp [h (a + i) (by omega)]
theorem putSrc_at (j v : J) : ∀ i (hi : i < j.list.length), putSrc j v i = j.list[i] := fun i hi => by
 unfold putSrc
 rw [if_neg (by omega)]
 simp [List.getD_eq_getElem?_getD, hi]
theorem putSrc_n (j v : J) : putSrc j v j.list.length = v := by unfold putSrc; rw [if_pos rfl]
theorem putJ_new {j v : J} {s : ByteArray} (hu : UpB j.names) (hl : j.names.length = j.list.length) (hno : ∀ h : posB j.names s < j.names.length, (j.names[posB j.names s].toList == s.toList) = false) :
  putJ j v s = ⟨5, 0, ⟨#[]⟩, j.list.take (posB j.names s) ++ v :: j.list.drop (posB j.names s), j.names.take (posB j.names s) ++ s :: j.names.drop (posB j.names s)⟩ := by
 have hp := posB_le j.names s
 have hE : putE j.names s j.list.length = (j.names.take (posB j.names s) ++ s :: j.names.drop (posB j.names s), List.range (posB j.names s) ++ j.list.length :: List.range' (posB j.names s) (j.list.length - posB j.names s)) := by
  unfold putE
  rcases Nat.lt_or_ge (posB j.names s) j.names.length with h | h
  ·rw [putS_new hu _ hno _ h (Nat.le_refl _)]
   simp [hl]
   rw [List.take_of_length_le (by simp; omega)]
  ·have h2 : posB j.names s = j.names.length := by omega
   rw [putS_lt _ _ (by omega), h2, hl]
   simp [← hl]
 unfold putJ
 rw [hE]
 simp only [List.map_append, List.map_cons, putSrc_n]
 rw [map_range (α := J) (putSrc j v) j.list _ (by omega) (putSrc_at j v), map_range' (putSrc j v) j.list _ _ (by omega) (putSrc_at j v)]
theorem putJ_old {j v : J} {s : ByteArray} (hu : UpB j.names) (hl : j.names.length = j.list.length) (hp : posB j.names s < j.names.length) (hyes : (j.names[posB j.names s].toList == s.toList) = true) :
  putJ j v s = ⟨5, 0, ⟨#[]⟩, j.list.set (posB j.names s) v, j.names⟩ := by
 have hE : putE j.names s j.list.length = (j.names, List.range (posB j.names s) ++ j.list.length :: List.range' (posB j.names s + 1) (j.list.length - (posB j.names s + 1))) := by
  unfold putE
  rw [putS_old hu _ hp hyes _ hp (Nat.le_refl _)]
  simp [hl]
  rw [← hl]
  simp
 unfold putJ
 rw [hE]
 simp only [List.map_append, List.map_cons, putSrc_n]
 rw [map_range (α := J) (putSrc j v) j.list _ (by omega) (putSrc_at j v), map_range' (putSrc j v) j.list _ _ (by omega) (putSrc_at j v), List.set_eq_take_append_cons_drop, if_pos (by omega)]
end Go.Proofs.Ytlkjpnlpankhpaa.X

namespace Go.Proofs.Ytlkjpnlpankhpaa.X
open Go.RowKit Go.Sort
set_option linter.unusedVariables false
set_option linter.unusedSimpArgs false
open Ty
def hasB (l : List ByteArray) (s : ByteArray) : Bool := decide (posB l s < l.length) && ((l.getD (posB l s) ⟨#[]⟩).toList == s.toList)
end Go.Proofs.Ytlkjpnlpankhpaa.X
namespace Go.Proofs.Ytlkjpnlpankhpaa.X
open Go.Lib
set_option linter.unusedVariables false
set_option linter.unusedSimpArgs false

def q1 (b : UInt8) : List UInt8 := if b = 34 ∨ b = 92 then [92, b] else [b]
def quoteL (s : List UInt8) : List UInt8 := 34 :: (s.flatMap q1 ++ [34])
theorem quoteL_length (s : List UInt8) : (quoteL s).length ≤ 2 * s.length + 2 := by
 have h : (s.flatMap q1).length ≤ 2 * s.length := by
  induction s with
  | nil => simp
  | cons b l ih =>
   rw [List.flatMap_cons, List.length_append]
   have : (q1 b).length ≤ 2 := by unfold q1; split <;> simp
   simp only [List.length_cons]; omega
 unfold quoteL
 simp only [List.length_cons, List.length_append, List.length_nil]; omega
def pieceE (k5 : Bool) (n : ByteArray) (t : List UInt8) : List UInt8 := if k5 then quoteL n.data.toList ++ 58 :: t else t
def piecesE (enc : J → List UInt8) (j : J) : List (List UInt8) := (List.range j.list.length).map (fun i => pieceE (j.kind == 5) (j.names.getD i ByteArray.empty) (enc (j.list.getD i J.null)))
def encJ : Nat → J → List UInt8
 | 0, _ => []
 | k + 1, j => if j.kind = 0 then [110, 117, 108, 108] else if j.kind = 1 then (if j.n = 1 then [116, 114, 117, 101] else [102, 97, 108, 115, 101]) else if j.kind = 2 then itoa j.n else if j.kind = 3 then quoteL j.s.data.toList else
  if j.kind = 4 then 91 :: (join (piecesE (encJ k) j) [44] ++ [93]) else 123 :: (join (piecesE (encJ k) j) [44] ++ [125])
theorem piecesE_length (enc : J → List UInt8) (j : J) : (piecesE enc j).length = j.list.length := by simp [piecesE]
theorem piecesE_take (enc : J → List UInt8) (j : J) (i : Nat) (hi : i < j.list.length) : (piecesE enc j).take (i + 1) = (piecesE enc j).take i ++ [pieceE (j.kind == 5) (j.names.getD i ByteArray.empty) (enc j.list[i])] := by
 have h : i < (piecesE enc j).length := by rw [piecesE_length]; exact hi
 rw [List.take_succ_eq_append_getElem h]
 congr 2
 simp [piecesE, List.getD_eq_getElem?_getD, hi]
theorem join_snoc (xs : List (List UInt8)) (y sep : List UInt8) : join (xs ++ [y]) sep = if xs = [] then y else join xs sep ++ sep ++ y := by
 cases xs with
 | nil => simp [join_one]
 | cons x r =>
  rw [if_neg (by simp), List.cons_append, join_cons, join_cons]
  simp [joinTail]
def lenE (l : List (List UInt8)) : Nat := lens l + l.length
theorem join_le (l : List (List UInt8)) : (join l [44]).length ≤ lenE l := by
 cases l with
 | nil => simp [join_nil, lenE, lens]
 | cons x r =>
  rw [join_length]
  unfold lenE
  simp only [List.length_cons, List.length_nil]; omega
theorem lenE_take (l : List (List UInt8)) (i : Nat) : lenE (l.take i) ≤ lenE l := by
 unfold lenE
 have := lens_take_le l i
 have : (l.take i).length ≤ l.length := by simp; omega
 omega
theorem itoa_len (n : Int) (h : -1000000000 ≤ n ∧ n ≤ 1000000000) : (itoa n).length ≤ 21 := itoa_length_le n (by omega) (by omega)
theorem sizeN_own {k : Nat} {j : J} (h : sizeN (k + 1) j ≤ 400) : ownB j = true ∧ sizeN (k + 1) j = 1 + sumZ (sizeN k) j.list := by
 unfold sizeN at h ⊢
 split at h
 ·rename_i h1; rw [if_pos h1]; exact ⟨h1.1, rfl⟩
 ·omega
theorem sizeN_part {k : Nat} {j : J} (h : sizeN (k + 1) j ≤ 400) (i : Nat) (hi : i < j.list.length) : sizeN k j.list[i] ≤ 400 := by
 have h1 := (sizeN_own h).2
 have h2 := sumZ_take (sizeN k) j.list i hi
 have h3 := sumZ_le (sizeN k) (sizeN_pos k) j.list (i + 1)
 have h4 := sumZ_pos (sizeN k) (sizeN_pos k) (j.list.take i)
 omega
theorem nameStep_60 {l : List ByteArray} (h : namesB l = true) (i : Nat) (hi : i < l.length) : (l.getD i ByteArray.empty).size ≤ 60 := by
 unfold namesB at h
 rw [List.all_eq_true] at h
 have := h i (List.mem_range.2 hi)
 unfold nameStep textB at this
 simp only [Bool.and_eq_true, decide_eq_true_eq] at this
 omega
theorem own_names {j : J} (h : ownB j = true) : (∀ i, i < j.names.length → (j.names.getD i ByteArray.empty).size ≤ 60) ∧ (j.kind = 5 → j.names.length = j.list.length) ∧ (j.kind ≠ 5 → j.names.length = 0) ∧ (j.list.length ≠ 0 → j.kind = 4 ∨ j.kind = 5) ∧ 0 ≤ j.kind ∧ j.kind ≤ 5 ∧ (j.kind = 1 → 0 ≤ j.n ∧ j.n ≤ 1) ∧ (j.kind = 2 → -1000000000 ≤ j.n ∧ j.n ≤ 1000000000) ∧ (j.kind = 3 → j.s.size ≤ 60) := by
 unfold ownB at h
 split at h
 ·cases h
 rename_i h1
 split at h
 ·cases h
 rename_i h2
 split at h
 ·cases h
 split at h
 ·cases h
 simp only [Bool.and_eq_true, decide_eq_true_eq, bne_iff_ne, not_and, Classical.not_not] at h1 h2
 have hl : j.list.length ≠ 0 → j.kind = 4 ∨ j.kind = 5 := fun h3 => by
  by_cases h4 : j.kind = 4
  ·exact .inl h4
  ·exact .inr (h1 (by omega) h4)
 have hn : j.kind ≠ 5 → j.names.length = 0 := fun h3 => by
  rcases Nat.eq_zero_or_pos j.names.length with h4 | h4
  ·exact h4
  ·exact absurd (h2 h4) h3
 split at h
 ·rename_i hk
  have hk1 : j.kind = 1 := by simpa using hk
  simp only [inB, Bool.and_eq_true, decide_eq_true_eq] at h
  have h0 := hn (by omega)
  exact ⟨fun i hi => by omega, fun e => by omega, hn, hl, by omega, by omega, fun _ => h, fun e => by omega, fun e => by omega⟩
 split at h
 ·rename_i hk
  have hk1 : j.kind = 2 := by simpa using hk
  simp only [isNumB, inB, Bool.and_eq_true, decide_eq_true_eq] at h
  have h0 := hn (by omega)
  exact ⟨fun i hi => by omega, fun e => by omega, hn, hl, by omega, by omega, fun e => by omega, fun _ => h, fun e => by omega⟩
 split at h
 ·rename_i hk
  have hk1 : j.kind = 3 := by simpa using hk
  simp only [textB, Bool.and_eq_true, decide_eq_true_eq] at h
  have h0 := hn (by omega)
  exact ⟨fun i hi => by omega, fun e => by omega, hn, hl, by omega, by omega, fun e => by omega, fun e => by omega, fun _ => by omega⟩
 split at h
 ·rename_i hk
  have hk1 : j.kind = 5 := by simpa using hk
  simp only [Bool.and_eq_true, beq_iff_eq] at h
  exact ⟨fun i hi => nameStep_60 h.2 i hi, fun e => by omega, hn, hl, by omega, by omega, fun e => by omega, fun e => by omega, fun e => by omega⟩
 ·simp only [Bool.or_eq_true, beq_iff_eq] at h
  have h0 := hn (by omega)
  exact ⟨fun i hi => by omega, fun e => by omega, hn, hl, by omega, by omega, fun e => by omega, fun e => by omega, fun e => by omega⟩
theorem lenE_snoc (l : List (List UInt8)) (x : List UInt8) : lenE (l ++ [x]) = lenE l + x.length + 1 := by
 simp [lenE, lens]; omega
theorem pieceE_length (b : Bool) (n : ByteArray) (t : List UInt8) (h : n.size ≤ 60) : (pieceE b n t).length ≤ t.length + 123 := by
 have := quoteL_length n.data.toList
 rw [show n.data.toList.length = n.size by simp] at this
 unfold pieceE
 split
 ·simp only [List.length_append, List.length_cons]; omega
 ·omega
theorem lenE_pieces {k : Nat} {j : J} (h : sizeN (k + 1) j ≤ 400) (ih : ∀ x, sizeN k x ≤ 400 → ((encJ k x).length : Int) + 124 ≤ 246 * sizeN k x) : ∀ i, i ≤ j.list.length → (lenE ((piecesE (encJ k) j).take i) : Int) ≤ 246 * sumZ (sizeN k) (j.list.take i)
 | 0, _ => by simp [lenE, lens, sumZ]
 | i + 1, hi => by
  have h1 := lenE_pieces h ih i (by omega)
  have h2 := ih j.list[i] (sizeN_part h i (by omega))
  have hn : (j.names.getD i ByteArray.empty).size ≤ 60 := by
   by_cases hl : i < j.names.length
   ·exact (own_names (sizeN_own h).1).1 i hl
   ·rw [List.getD_eq_getElem?_getD, List.getElem?_eq_none (by omega)]; simp
  have h3 := pieceE_length (j.kind == 5) (j.names.getD i ByteArray.empty) (encJ k j.list[i]) hn
  rw [piecesE_take _ _ i (by omega), lenE_snoc, sumZ_take _ _ i (by omega)]
  omega
theorem encJ_length : ∀ (k : Nat) (j : J), sizeN k j ≤ 400 → ((encJ k j).length : Int) + 124 ≤ 246 * sizeN k j
 | 0, j, h => by simp [sizeN] at h
 | k + 1, j, h => by
  have ho := own_names (sizeN_own h).1
  have hp := sumZ_pos (sizeN k) (sizeN_pos k) j.list
  rw [(sizeN_own h).2]
  unfold encJ
  split
  ·simp; omega
  split
  ·split <;> (simp; omega)
  split
  ·rename_i h2
   have := itoa_len j.n (ho.2.2.2.2.2.2.2.1 h2)
   omega
  split
  ·rename_i h3
   have := quoteL_length j.s.data.toList
   have h4 := ho.2.2.2.2.2.2.2.2 h3
   rw [show j.s.data.toList.length = j.s.size by simp] at this
   omega
  have h5 := lenE_pieces h (fun x hx => encJ_length k x hx) j.list.length (Nat.le_refl _)
  rw [List.take_length, show (piecesE (encJ k) j).take j.list.length = piecesE (encJ k) j from List.take_of_length_le (by rw [piecesE_length]; exact Nat.le_refl _)] at h5
  have h6 := join_le (piecesE (encJ k) j)
  split <;> (simp only [List.length_cons, List.length_append, List.length_nil]; omega)
end Go.Proofs.Ytlkjpnlpankhpaa.X
namespace Go.Proofs.Ytlkjpnlpankhpaa.X
open Go.RowKit Go.Sort
set_option linter.unusedVariables false
set_option linter.unusedSimpArgs false
open Ty
def placeS (j : J) (s : ByteArray) : Int :=
 if (j.kind == 5) = true then nameAt j.names s
 else if (j.kind == 4) = true then (if idxS s.data.toList < (j.list.length : Int) then idxS s.data.toList else -1) else -1
def place0 (j : J) (s : ByteArray) : Int :=
 if (j.kind == 5) = true then nameAt j.names s else if (j.kind == 4) = true then idxI s.data.toList else -1
def placeI (j : J) (s : ByteArray) : Int := if (j.list.length : Int) ≤ place0 j s then -1 else place0 j s
theorem nameAt_le (l : List ByteArray) (s : ByteArray) : nameAt l s < l.length ∧ -1 ≤ nameAt l s ∧ (nameAt l s < 0 → nameAt l s = -1) := by
 rcases idxF_cases2 (fun x : ByteArray => s.toList == x.toList) l with h1 | ⟨h1, h2⟩
 ·unfold nameAt; omega
 ·unfold nameAt; omega
theorem nameAt_own {j : J} (h : ownB j = true) (s : ByteArray) : nameAt j.names s < j.list.length := by
 have h1 := nameAt_le j.names s
 rcases ownB_names j h with ⟨_, h2⟩ | h2 <;> omega
theorem place_eq {j : J} (h : ownB j = true) (s : ByteArray) : placeI j s = placeS j s := by
 unfold placeI place0 placeS
 have h1 := nameAt_own h s
 split
 ·rw [if_neg (by omega)]
 ·split
  ·rw [idx_eq]
   split <;> split <;> omega
  ·rw [if_neg (by omega)]
theorem place_lt {j : J} (h : ownB j = true) (s : ByteArray) {q : Nat} (hq : placeS j s = (q : Int)) : q < j.list.length := by
 have h1 := nameAt_own h s
 unfold placeS at hq
 split at hq
 ·omega
 ·split at hq
  ·split at hq <;> omega
  ·omega
def getV : J → List ByteArray → Option J
 | j, [] => some j
 | j, s :: l => if placeS j s < 0 then none else match j.list[(placeS j s).toNat]? with
  | some y => getV y l
  | none => none
def getJ (x : J) (way : List ByteArray) : J := if jsonOk x = true then (getV x way).getD J.null else J.null
def getB (x : J) (way : List ByteArray) : Bool := jsonOk x && (getV x way).isSome
theorem getV_no {y : J} {way : List ByteArray} {k : Nat} (hk : k < way.length) (h : placeS y way[k] < 0) : getV y (way.drop k) = none := by
 rw [List.drop_eq_getElem_cons hk, getV, if_pos h]
theorem getV_yes {y : J} {way : List ByteArray} {k : Nat} (hk : k < way.length) {q : Nat} (h : placeS y way[k] = (q : Int)) (hq : q < y.list.length) : getV y (way.drop k) = getV y.list[q] (way.drop (k + 1)) := by
 rw [List.drop_eq_getElem_cons hk, getV, if_neg (by omega), h]
 simp [List.getElem?_eq_getElem hq]
theorem sizeN_at {d : Nat} {y : J} (h : sizeN (d + 1) y ≤ 400) (q : Nat) (hq : q < y.list.length) : ∃ d', d = d' + 1 ∧ sizeN (d' + 1) y.list[q] ≤ 400 := by
 have h1 := sizeN_part h q hq
 cases d with
 | zero => simp [sizeN] at h1
 | succ d => exact ⟨d, rfl, h1⟩
theorem bulk_at {m : Nat} {w : World} {y : J} {cs : List Value} (hk : (tJ (m + 1)).K w y cs) (q : Nat) (hq : q < y.list.length) : bulkJ (m + 1) y.list[q] ≤ bulkJ (m + 1) y := by
 obtain ⟨A1, c1, A2, c2, rfl, _, ⟨_, hC⟩, _⟩ := tJ_K.1 hk
 have hx := List.getElem_mem hq
 obtain ⟨cs', hk'⟩ := C_all hC hx
 rw [bulkJ_fuel m w _ cs' hk']
 have := bulkL_mem (bulkJ m) hx
 show _ ≤ y.s.size + (y.list.length + bulkL (bulkJ m) y.list) + _
 omega
theorem K_at {m : Nat} {w : World} {y : J} {cs : List Value} (hk : (tJ (m + 1)).K w y cs) (q : Nat) (hq : q < y.list.length) : ∃ cs', (tJ (m + 1)).K w y.list[q] cs' := by
 obtain ⟨A1, c1, A2, c2, rfl, _, ⟨_, hC⟩, _⟩ := tJ_K.1 hk
 obtain ⟨cs', hk'⟩ := C_all hC (List.getElem_mem hq)
 exact ⟨cs', (tJ_le1 m).K _ _ _ hk'⟩
theorem bulk_getV {m : Nat} {w : World} : ∀ (way : List ByteArray) (y : J) (cs : List Value), (tJ (m + 1)).K w y cs → bulkJ (m + 1) ((getV y way).getD J.null) ≤ bulkJ (m + 1) y
 | [], y, cs, _ => Nat.le_refl _
 | s :: l, y, cs, hk => by
  have h0 : bulkJ (m + 1) J.null ≤ bulkJ (m + 1) y := by
   show 0 + (0 + 0) + (0 + 0) ≤ _
   omega
  unfold getV
  split
  ·exact h0
  ·rcases Nat.lt_or_ge (placeS y s).toNat y.list.length with h | h
   ·rw [List.getElem?_eq_getElem h]
    obtain ⟨cs', hk'⟩ := K_at hk _ h
    exact Nat.le_trans (bulk_getV l _ cs' hk') (bulk_at hk _ h)
   ·rw [List.getElem?_eq_none h]; exact h0
theorem bulk_getJ {m : Nat} {w : World} {x : J} {cs : List Value} (hk : (tJ (m + 1)).K w x cs) (way : List ByteArray) : bulkJ (m + 1) (getJ x way) ≤ bulkJ (m + 1) x := by
 unfold getJ
 split
 ·exact bulk_getV way x cs hk
 ·show 0 + (0 + 0) + (0 + 0) ≤ _
  omega
theorem idxS_bd (l : List UInt8) : -1 ≤ idxS l ∧ idxS l ≤ 999 := by
 exact idxS_le l
theorem own_size {d : Nat} {x : J} (h : sizeN (d + 1) x ≤ 400) : ownB x = true := by
 cases hb : ownB x
 ·rw [sizeN_bad hb] at h; omega
 ·rfl
set_option maxRecDepth 100000 in
theorem spec_l3At {m : Nat} (x : J) (cs : List Value) (s : ByteArray) (w : World) (hk : (tJ (m + 1)).K w x cs) (hs : s.size ≤ 281474976710656) :
  Calls Try.prog 123 #[.agg cs.toArray, .string s] w fun e w' => e = .returned (.int .i64 (placeS x s)) ∧ Below w.heap.size w w' := by
 have HK := Hd.mk hk
 obtain ⟨A1, c1, A2, c2, rfl, hs0, ⟨hc1, hr1⟩, hc2, hr2⟩ := tJ_K.1 hk
 have hm := hr1.1
 have HR2 := Hd.mk hr2; clear hr1 hr2 hk
 have hB := Hd.mk (Below.refl w.heap.size w)
 have hI := idxS_bd s.data.toList
 have hI0 := hI.1
 have hI1 := hI.2
 clear hI
 have HN := nameAt_le x.names s
 have hN0 := HN.1
 have hN1 := HN.2.1
 clear HN
 go_enter Try.func123, Try.ntmps123
 cases hk5 : (x.kind == 5)
 case true =>
  have HP := Hd.mk (show placeS x s = nameAt x.names s by unfold placeS; rw [if_pos hk5])
  go_wp2_with fail
  apply calls_gen; intro W1 hW
  have hz_ : w.heap.size + 1 ≤ W1.heap.size := by rw [hW]; simp
  have hE : Below w.heap.size w W1 := by rw [hW]; (repeat (first | with_reducible refine below_alloc ?_ _ | with_reducible refine below_drew ?_)); exact Below.refl _ _
  have hB := hB.th hE
  have b0 := Hd.mk (show Blk W1 (w.heap.size) #[.int .i64 x.kind, .int .i64 x.n, .string x.s, .slice A1 x.list.length c1, .slice A2 x.names.length c2] 27 by rw [hW]; first | exact (Blk.new _ _ _) | (simpa using (Blk.new _ _ _)))
  clear hW hE
  have z1 := Hd.mk hz_; clear hz_
  refine (spec_l1At x _ s _ (Ty.K_below _ hB.out HK.out)).mono ?_
  rintro e w2 ⟨rfl, hX⟩
  have b0 := b0.dn hX
  have hB := hB.th hX
  have hz_ := hX.size
  clear hX
  have z2 := Hd.mk hz_; clear hz_
  obtain ⟨v00, v01, v02, v03, v04, v0z⟩ := blk5 b0.out
  go_wp2_with fail
  clear v00 v01 v02 v03 v04 v0z
  go_ret
  exact ⟨by rw [HP.out]; rfl, hB.out⟩
 case false =>
  cases hk4 : (x.kind == 4)
  ·have HP := Hd.mk (show placeS x s = -1 by unfold placeS; simp [hk5, hk4])
   go_wp2_with fail
   go_ret
   exact ⟨by rw [HP.out]; rfl, by exact below_alloc (Below.refl _ _) _⟩
  ·have hP0 := Hd.mk (show placeS x s = if idxS s.data.toList < (x.list.length : Int) then idxS s.data.toList else -1 by unfold placeS; simp only [hk5, hk4]; simp)
   go_wp2_with fail
   apply calls_gen; intro W1 hW
   have hz_ : w.heap.size + 1 ≤ W1.heap.size := by rw [hW]; simp
   have hE : Below w.heap.size w W1 := by rw [hW]; (repeat (first | with_reducible refine below_alloc ?_ _ | with_reducible refine below_drew ?_)); exact Below.refl _ _
   have hB := hB.th hE
   have b0 := Hd.mk (show Blk W1 (w.heap.size) #[.int .i64 x.kind, .int .i64 x.n, .string x.s, .slice A1 x.list.length c1, .slice A2 x.names.length c2] 27 by rw [hW]; first | exact (Blk.new _ _ _) | (simpa using (Blk.new _ _ _)))
   clear hW hE
   have z1 := Hd.mk hz_; clear hz_
   refine (spec_IndexOf s _ (by omega)).mono ?_
   rintro e w2 ⟨rfl, hX⟩
   have b0 := b0.dn hX
   have hB := hB.th hX
   have hz_ := hX.size
   clear hX
   have z2 := Hd.mk hz_; clear hz_
   obtain ⟨at_, hat⟩ : ∃ z, z = idxS s.data.toList := ⟨_, rfl⟩
   replace hP0 := hP0.out
   rw [← hat] at hI0 hI1 hP0 ⊢
   have hP1 := Hd.mk hP0; clear hat hP0
   by_cases hge : at_ < (x.list.length : Int)
   ·have HP := Hd.mk (show placeS x s = at_ by rw [hP1.out, if_pos hge])
    obtain ⟨v00, v01, v02, v03, v04, v0z⟩ := blk5 b0.out
    go_wp2_with fail
    clear v00 v01 v02 v03 v04 v0z
    go_ret
    exact ⟨by rw [HP.out]; rfl, hB.out⟩
   ·have HP := Hd.mk (show placeS x s = -1 by rw [hP1.out, if_neg hge])
    obtain ⟨v00, v01, v02, v03, v04, v0z⟩ := blk5 b0.out
    go_wp2_with fail
    clear v00 v01 v02 v03 v04 v0z
    go_ret
    exact ⟨by rw [HP.out]; rfl, hB.out⟩
set_option maxHeartbeats 4000000 in
set_option maxRecDepth 100000 in
theorem spec_Get {m : Nat} (x : J) (cs : List Value) (A : Option Addr) (c : Nat) (way : List ByteArray) (w : World) (hk : (tJ (m + 1)).K w x cs) (hr : str.C w A way) (hl : bulkJ (m + 1) x ≤ 4194304) (hw : bulkStringS way ≤ 4194304) :
  Calls Try.prog 112 #[.agg cs.toArray, .slice A way.length c] w fun e w' => ∃ cs, e = .returned (.tuple #[.agg cs.toArray, .bool (getB x way)]) ∧ (tJ (m + 1)).O w' (fun k => w.heap.size ≤ k) (getJ x way) cs ∧ Below w.heap.size w w' := by
 have HK := Hd.mk hk
 have HRW := Hd.mk hr
 have hmw := hr.1
 obtain ⟨A1, c1, A2, c2, rfl, hs, ⟨hc1, hr1⟩, hc2, hr2⟩ := tJ_K.1 hk
 have hm := hr1.1
 clear hr1 hr2 hk hr
 have HW := Hd.mk (show ∀ s ∈ way, s.size ≤ 4194304 from fun s h => by
  have h1 := bulkL_mem ByteArray.size h
  unfold bulkStringS at hw; omega); clear hw
 have HL := Hd.mk hl; clear hl
 have hB := Hd.mk (Below.refl w.heap.size w)
 go_enter Try.func112, Try.ntmps112
 go_wp2_with fail
 apply calls_gen; intro W1 hW
 have hz_ : w.heap.size + 2 ≤ W1.heap.size := by rw [hW]; simp
 have hE : Below w.heap.size w W1 := by rw [hW]; (repeat (first | with_reducible refine below_alloc ?_ _ | with_reducible refine below_drew ?_)); exact Below.refl _ _
 have hB := hB.th hE
 have b0 := Hd.mk (show Blk W1 (w.heap.size) #[.int .i64 x.kind, .int .i64 x.n, .string x.s, .slice A1 x.list.length c1, .slice A2 x.names.length c2] 27 by rw [hW]; first | exact ((Blk.new _ _ _).alloc _) | (simpa using ((Blk.new _ _ _).alloc _)))
 have b1 := Hd.mk (show Blk W1 (w.heap.size + 1) #[.int .i64 0, .int .i64 0, .string ⟨#[]⟩, .slice none 0 0, .slice none 0 0] 27 by rw [hW]; first | exact (Blk.new1 _ _ _ _) | (simpa using (Blk.new1 _ _ _ _)))
 clear hW hE
 have z1 := Hd.mk hz_; clear hz_
 refine (spec_JsonOk x _ _ (Ty.K_below _ hB.out HK.out)).mono ?_
 rintro e w2 ⟨rfl, hX⟩
 have b0 := b0.dn hX
 have b1 := b1.dn hX
 have hB := hB.th hX
 have hz_ := hX.size
 clear hX
 have z2 := Hd.mk hz_; clear hz_
 cases hb : jsonOk x
 ·have HN := Hd.mk (show getB x way = false by unfold getB; rw [hb]; rfl)
  have HF := Hd.mk (show getJ x way = J.null by unfold getJ; rw [hb]; rfl)
  obtain ⟨v00, v01, v02, v03, v04, v0z⟩ := blk5 b0.out
  obtain ⟨v10, v11, v12, v13, v14, v1z⟩ := blk5 b1.out
  go_wp2_with fail
  refine bodyPost_retW (v := .tuple #[.agg #[.int .i64 0, .int .i64 0, .string ⟨#[]⟩, .slice none 0 0, .slice none 0 0], .bool false]) (by simp [results, Try.results112, go_sem, v00, v01, v02, v03, v04, v0z, v10, v11, v12, v13, v14, v1z]) rfl ?_
  intro W hW
  clear v00 v01 v02 v03 v04 v0z v10 v11 v12 v13 v14 v1z
  have hz_ : w2.heap.size ≤ W.heap.size := by rw [hW]; simp
  have eF : Fr w2 W (fun k => k = w.heap.size + 1 ∨ w2.heap.size ≤ k) := by rw [hW]; (repeat (first | with_reducible refine Fr.setCell ?_ _ (fun _ => by simp <;> omega) _ | with_reducible refine Fr.alloc ?_ _ | with_reducible refine Fr.drew ?_)); exact Fr.refl _ _
  have z1_ := z1.out; have z2_ := z2.out
  have hB := Hd.mk (((Fr.of_below hB.out (fun k => k = w.heap.size + 1 ∨ w2.heap.size ≤ k)).then_ eF (fun k hk _ => hk)).below (fun k hk => by have := hB.out.size; omega))
  have b0 := Hd.mk (b0.out.fr eF (fun h => by have hlt_ := b0.out.lt; (try simp only at h); omega))
  have b1 := Hd.mk (show Blk W (w.heap.size + 1) #[.int .i64 0, .int .i64 0, .string ⟨#[]⟩, .slice none 0 0, .slice none 0 0] 27 by rw [hW]; exact (Blk.all b1.out [Value.int IntKind.i64 0, .int .i64 0, .string ⟨#[]⟩, .slice none 0 0, .slice none 0 0] rfl))
  clear hW eF
  have z3 := Hd.mk hz_; clear hz_
  exact ⟨_, by rw [HN.out], by rw [HF.out]; exact ZJ m _ _, hB.out⟩
 ·have HOK := Hd.mk hb; clear hb
  obtain ⟨v00, v01, v02, v03, v04, v0z⟩ := blk5 b0.out
  obtain ⟨v10, v11, v12, v13, v14, v1z⟩ := blk5 b1.out
  go_wp2_with fail
  clear v00 v01 v02 v03 v04 v0z v10 v11 v12 v13 v14 v1z
  go_loopw [6] (fun i wr => ∃ (k : Nat) (M d : Nat) (y : J) (cs : List Value), k ≤ way.length ∧ i = .int .i64 k ∧ Hd ((tJ (M + 1)).K w y cs) ∧ Hd (M ≤ m ∧ sizeN (d + 1) y ≤ 400 ∧ bulkJ (M + 1) y ≤ 4194304 ∧ getV x way = getV y (way.drop k)) ∧ Hd (Blk wr w.heap.size cs.toArray 27) ∧ Hd (Blk wr (w.heap.size + 1) #[.int .i64 0, .int .i64 0, .string ⟨#[]⟩, .slice none 0 0, .slice none 0 0] 27) ∧ Hd (Below w.heap.size w wr)) (fun i _ => way.length - (intOf i).toNat)
  case atStart => exact ⟨0, m, 5, x, _, Nat.zero_le _, rfl, HK, ⟨Nat.le_refl _, of_decide_eq_true HOK.out, HL.out, rfl⟩, b0, b1, hB⟩
  case round =>
   clear hB b0 b1 z1 z2
   obtain ⟨k, M, d, y, cs, hk, rfl, HKY, HY, b0, b1, hB⟩ := hrel
   obtain ⟨A3, c3, A4, c4, rfl, hs3, ⟨hc3, hr3⟩, hc4, hr4⟩ := tJ_K.1 HKY.out
   have hm3 := hr3.1
   have HR3 := Hd.mk hr3; clear hr3 hr4
   have zq := Hd.mk hB.out.size
   have zb := Hd.mk b1.out.lt
   by_cases hlt : k < way.length
   ·obtain ⟨ad, rfl, x0, hsz⟩ := C_str_at HRW.out hB.out k hlt
    have hw4 := Hd.mk (HW.out _ (List.getElem_mem hlt))
    obtain ⟨v00, v01, v02, v03, v04, v0z⟩ := blk5 b0.out
    obtain ⟨v10, v11, v12, v13, v14, v1z⟩ := blk5 b1.out
    obtain ⟨rv00, rv01, rv02, rv03, rv04, rv10, rv11⟩ := reg7 v00 v01 v02 v03 v04 v10 v11
    have rv12 := cell_regrown v12
    have rv13 := cell_regrown v13
    have rv14 := cell_regrown v14
    have rx0 := cell_regrown x0
    go_wp2_with fail
    refine region_mix [(true, 0), (true, 1), (true, 2), (true, 3), (true, 4), (false, 5), (true, 6)] (by kernel_rfl) (by kernel_rfl) (fun _ _ _ _ _ h => h) ?_
    (repeat (first | (refine mix_z rfl (by rfl) ?_; go_big_quiet_skip; refine wpQuiet_nil ?_) | (refine mix_q rfl ?_; first | (go_big_quiet_skip; refine wpQuiet_nil ?_) | (go_big_quiet_want; go_big_quiet_op; go_big_quiet_on; refine wpQuiet_nil ?_))))
    refine mix_b rfl ?_ (by rfl)
    go_wp2_with fail
    clear rv00 rv01 rv02 rv03 rv04 rv10 rv11 rv12 rv13 rv14 rx0
    clear v00 v01 v02 v03 v04 v0z v10 v11 v12 v13 v14 v1z
    clear x0
    have hS := Hd.mk (Below.refl wr.heap.size wr)
    apply calls_gen; intro W3 hW
    have hz_ : wr.heap.size ≤ W3.heap.size := by rw [hW]; simp
    have hE : Below wr.heap.size wr W3 := by rw [hW]; (repeat (first | with_reducible refine below_alloc ?_ _ | with_reducible refine below_drew ?_)); exact Below.refl _ _
    have hB := hB.th hE
    replace hS := Hd.mk (below_then hS.out hE)
    have b0 := b0.dn hE
    have b1 := b1.dn hE
    clear hW hE
    have z3 := Hd.mk hz_; clear hz_
    refine (spec_l3At y _ way[k] _ (Ty.K_below _ hB.out HKY.out) (by have := hw4.out; omega)).mono ?_
    rintro e w4 ⟨rfl, hX⟩
    have b0 := b0.dn hX
    have b1 := b1.dn hX
    have hB := hB.th hX
    replace hS := Hd.mk (below_then hS.out hX)
    have hz_ := hX.size
    clear hX
    have z4 := Hd.mk hz_; clear hz_
    obtain ⟨at_, hat⟩ : ∃ z, z = placeS y way[k] := ⟨_, rfl⟩
    rw [← hat]
    have HAT := Hd.mk hat; clear hat
    by_cases h0 : at_ < 0
    ·have HV := Hd.mk (show getV x way = none by rw [HY.out.2.2.2]; exact getV_no hlt (by rw [← HAT.out]; exact h0))
     have HN := Hd.mk (show getB x way = false by unfold getB; rw [HV.out]; simp)
     have HF := Hd.mk (show getJ x way = J.null by unfold getJ; rw [HV.out]; simp)
     obtain ⟨v00, v01, v02, v03, v04, v0z⟩ := blk5 b0.out
     obtain ⟨v10, v11, v12, v13, v14, v1z⟩ := blk5 b1.out
     go_wp2_with fail
     refine ⟨cls_below hS.out, ?_⟩
     (repeat (first | (refine mix_z rfl (by rfl) ?_; go_big_quiet_skip; refine wpQuiet_nil ?_) | (refine mix_q rfl ?_; first | (go_big_quiet_skip; refine wpQuiet_nil ?_) | (go_big_quiet_want; go_big_quiet_op; go_big_quiet_on; refine wpQuiet_nil ?_))))
     refine mix_nil ?_
     go_wp2_with fail
     refine bodyPost_retW (v := .tuple #[.agg #[.int .i64 0, .int .i64 0, .string ⟨#[]⟩, .slice none 0 0, .slice none 0 0], .bool false]) (by simp [results, Try.results112, go_sem, v00, v01, v02, v03, v04, v0z, v10, v11, v12, v13, v14, v1z]) rfl ?_
     intro W hW
     clear v00 v01 v02 v03 v04 v0z v10 v11 v12 v13 v14 v1z
     have hz_ : w4.heap.size ≤ W.heap.size := by rw [hW]; simp
     have eF : Fr w4 W (fun k => k = (w.heap.size + 1) ∨ w4.heap.size ≤ k) := by rw [hW]; (repeat (first | with_reducible refine Fr.setCell ?_ _ (fun _ => by simp <;> omega) _ | with_reducible refine Fr.alloc ?_ _ | with_reducible refine Fr.drew ?_)); exact Fr.refl _ _
     have zb_ := zb.out; have zq_ := zq.out; have z3_ := z3.out; have z4_ := z4.out
     have hB := Hd.mk (((Fr.of_below hB.out (fun k => k = (w.heap.size + 1) ∨ w4.heap.size ≤ k)).then_ eF (fun k hk _ => hk)).below (fun k hk => by have := hB.out.size; omega))
     have b0 := Hd.mk (b0.out.fr eF (fun h => by have hlt_ := b0.out.lt; (try simp only at h); omega))
     have b1 := Hd.mk (show Blk W ((w.heap.size + 1)) #[.int .i64 0, .int .i64 0, .string ⟨#[]⟩, .slice none 0 0, .slice none 0 0] 27 by rw [hW]; exact (Blk.all b1.out [Value.int IntKind.i64 0, .int .i64 0, .string ⟨#[]⟩, .slice none 0 0, .slice none 0 0] rfl))
     clear hW eF
     have z5 := Hd.mk hz_; clear hz_
     exact ⟨_, by rw [HN.out], by rw [HF.out]; exact ZJ m _ _, hB.out⟩
    ·obtain ⟨q, rfl⟩ := Int.eq_ofNat_of_zero_le (Int.not_lt.1 h0)
     clear h0
     have h0 : (0 : Int) ≤ (q : Int) := by omega
     have hq := place_lt (own_size HY.out.2.1) _ HAT.out.symm
     have HG := Hd.mk (getV_yes hlt HAT.out.symm hq)
     obtain ⟨aq, cs0, rfl, hK0, e0, e1⟩ := C_at HR3.out (Below.refl _ _) q hq
     obtain ⟨M, rfl⟩ : ∃ m1 : Nat, M = m1 + 1 := by cases M with | zero => exact hK0.elim | succ M => exact ⟨M, rfl⟩
     obtain ⟨d, rfl, hsd⟩ := sizeN_at HY.out.2.1 q hq
     have HSD := Hd.mk hsd; clear hsd
     have HBK := Hd.mk (show bulkJ (M + 1) y.list[q] ≤ 4194304 by
      have h1 := bulkL_mem (bulkJ (M + 1)) (List.getElem_mem hq)
      have h2 := HY.out.2.2.1
      simp only [bulkJ] at h1 h2 ⊢
      omega)
     have HKe := Hd.mk hK0
     obtain ⟨A5, c5, A6, c6, rfl, hs5, ⟨hc5, hr5⟩, hc6, hr6⟩ := tJ_K.1 hK0
     have hm5 := hr5.1
     clear hK0 hr5 hr6
     have x0 : w4.cell? (aq.add (q * 5)) = some (.int .i64 y.list[q].kind) := cell_below hB.out (e0 _ rfl)
     have x1 : w4.cell? ⟨(aq.add (q * 5)).block, (aq.add (q * 5)).off + 1, none⟩ = some (.int .i64 y.list[q].n) := cell_below hB.out (e1 0 _ rfl)
     have x2 : w4.cell? ⟨(aq.add (q * 5)).block, (aq.add (q * 5)).off + 2, none⟩ = some (.string y.list[q].s) := cell_below hB.out (e1 1 _ rfl)
     have x3 : w4.cell? ⟨(aq.add (q * 5)).block, (aq.add (q * 5)).off + 3, none⟩ = some (.slice A5 y.list[q].list.length c5) := cell_below hB.out (e1 2 _ rfl)
     have x4 : w4.cell? ⟨(aq.add (q * 5)).block, (aq.add (q * 5)).off + 4, none⟩ = some (.slice A6 y.list[q].names.length c6) := cell_below hB.out (e1 3 _ rfl)
     clear e0 e1
     obtain ⟨v00, v01, v02, v03, v04, v0z⟩ := blk5 b0.out
     obtain ⟨v10, v11, v12, v13, v14, v1z⟩ := blk5 b1.out
     go_wp2_with fail
     refine ⟨cls_below hS.out, ?_⟩
     (repeat (first | (refine mix_z rfl (by rfl) ?_; go_big_quiet_skip; refine wpQuiet_nil ?_) | (refine mix_q rfl ?_; first | (go_big_quiet_skip; refine wpQuiet_nil ?_) | (go_big_quiet_want; go_big_quiet_op; go_big_quiet_on; refine wpQuiet_nil ?_))))
     refine mix_nil ?_
     go_wp2_with fail
     obtain ⟨W, hW⟩ : ∃ W, W = (((((w4.setCell ⟨w.heap.size, 0, none⟩ (Value.int IntKind.i64 y.list[q].kind)).setCell ⟨w.heap.size, 1, none⟩ (Value.int IntKind.i64 y.list[q].n)).setCell ⟨w.heap.size, 2, none⟩ (Value.string y.list[q].s)).setCell ⟨w.heap.size, 3, none⟩ (Value.slice A5 y.list[q].list.length c5)).setCell ⟨w.heap.size, 4, none⟩ (Value.slice A6 y.list[q].names.length c6)) := ⟨_, rfl⟩
     rw [← hW]
     clear v00 v01 v02 v03 v04 v0z v10 v11 v12 v13 v14 v1z
     clear x0 x1 x2 x3 x4
     have hz_ : w4.heap.size ≤ W.heap.size := by rw [hW]; simp
     have eF : Fr w4 W (fun k => k = w.heap.size ∨ w4.heap.size ≤ k) := by rw [hW]; (repeat (first | with_reducible refine Fr.setCell ?_ _ (fun _ => by simp <;> omega) _ | with_reducible refine Fr.alloc ?_ _ | with_reducible refine Fr.drew ?_)); exact Fr.refl _ _
     have zb_ := zb.out; have zq_ := zq.out; have z3_ := z3.out; have z4_ := z4.out
     have hB := Hd.mk (((Fr.of_below hB.out (fun k => k = w.heap.size ∨ w4.heap.size ≤ k)).then_ eF (fun k hk _ => hk)).below (fun k hk => by have := hB.out.size; omega))
     have b0 := Hd.mk (show Blk W (w.heap.size) #[.int .i64 y.list[q].kind, .int .i64 y.list[q].n, .string y.list[q].s, .slice A5 y.list[q].list.length c5, .slice A6 y.list[q].names.length c6] 27 by rw [hW]; exact (Blk.all b0.out [Value.int IntKind.i64 y.list[q].kind, .int .i64 y.list[q].n, .string y.list[q].s, .slice A5 y.list[q].list.length c5, .slice A6 y.list[q].names.length c6] rfl))
     have b1 := Hd.mk (b1.out.fr eF (fun h => by have hlt_ := b1.out.lt; (try simp only at h); omega))
     clear hW eF
     have z5 := Hd.mk hz_; clear hz_
     go_roundw
     case rel => exact ⟨k + 1, M, d, y.list[q], _, by omega, by go_num, HKe, ⟨by have := HY.out.1; omega, HSD.out, HBK.out, by rw [HY.out.2.2.2, HG.out]⟩, b0, b1, hB⟩
     case measure => simp [intOf]; omega
   ·obtain rfl : k = way.length := by omega
    have HV := Hd.mk (show getV x way = some y by rw [HY.out.2.2.2, List.drop_length]; rfl)
    have HN := Hd.mk (show getB x way = true by unfold getB; rw [HOK.out, HV.out]; rfl)
    have HF := Hd.mk (show getJ x way = y by unfold getJ; rw [if_pos HOK.out, HV.out]; rfl)
    obtain ⟨v00, v01, v02, v03, v04, v0z⟩ := blk5 b0.out
    obtain ⟨v10, v11, v12, v13, v14, v1z⟩ := blk5 b1.out
    go_wp2_with fail
    clear v00 v01 v02 v03 v04 v0z v10 v11 v12 v13 v14 v1z
    have hBq := Hd.mk (Below.refl wr.heap.size wr)
    apply calls_gen; intro W3 hW
    have hz_ : wr.heap.size ≤ W3.heap.size := by rw [hW]; simp
    have hE : Below wr.heap.size wr W3 := by rw [hW]; (repeat (first | with_reducible refine below_alloc ?_ _ | with_reducible refine below_drew ?_)); exact Below.refl _ _
    have hB := hB.th hE
    have hBq := Hd.mk (below_then hBq.out hE)
    have b0 := b0.dn hE
    have b1 := b1.dn hE
    clear hW hE
    have z3 := Hd.mk hz_; clear hz_
    refine (spec_l1Copy y _ _ (Ty.K_below _ hB.out HKY.out) HY.out.2.2.1).mono ?_
    rintro e w4 ⟨cs', rfl, hO, hX⟩
    have b0 := b0.dn hX
    have b1 := b1.dn hX
    have hB := hB.th hX
    have hz_ := hX.size
    have hBq := Hd.mk (below_then hBq.out hX)
    clear hX
    have z4 := Hd.mk hz_; clear hz_
    obtain ⟨v3, v4, _, _, rfl, hsz3, hr3, hr4, _⟩ := tJ_O.1 hO
    obtain ⟨D3, d3, rfl, _, _⟩ := R_C hr3
    obtain ⟨D4, d4, rfl, _, _⟩ := R_C hr4
    clear hr3 hr4
    replace hO := Hd.mk (show (tJ (M + 1)).O w4 (rng W3.heap.size w4.heap.size) y _ from Ty.O_bound _ hO)
    obtain ⟨v00, v01, v02, v03, v04, v0z⟩ := blk5 b0.out
    obtain ⟨v10, v11, v12, v13, v14, v1z⟩ := blk5 b1.out
    go_wp2_with fail
    refine bodyPost_retW (v := .tuple #[.agg #[.int .i64 y.kind, .int .i64 y.n, .string y.s, .slice D3 y.list.length d3, .slice D4 y.names.length d4], .bool true]) (by simp [results, Try.results112, go_sem, v00, v01, v02, v03, v04, v0z, v10, v11, v12, v13, v14, v1z]) rfl ?_
    intro W hW
    clear v00 v01 v02 v03 v04 v0z v10 v11 v12 v13 v14 v1z
    have hz_ : w4.heap.size ≤ W.heap.size := by rw [hW]; simp
    have eF : Fr w4 W (fun k => k = (w.heap.size + 1) ∨ w4.heap.size ≤ k) := by rw [hW]; (repeat (first | with_reducible refine Fr.setCell ?_ _ (fun _ => by simp <;> omega) _ | with_reducible refine Fr.alloc ?_ _ | with_reducible refine Fr.drew ?_)); exact Fr.refl _ _
    have zb_ := zb.out; have zq_ := zq.out; have z3_ := z3.out; have z4_ := z4.out
    have hB := Hd.mk (((Fr.of_below hB.out (fun k => k = (w.heap.size + 1) ∨ w4.heap.size ≤ k)).then_ eF (fun k hk _ => hk)).below (fun k hk => by have := hB.out.size; omega))
    have b0 := Hd.mk (b0.out.fr eF (fun h => by have hlt_ := b0.out.lt; (try simp only at h); omega))
    have b1 := Hd.mk (show Blk W ((w.heap.size + 1)) #[.int .i64 y.kind, .int .i64 y.n, .string y.s, .slice D3 y.list.length d3, .slice D4 y.names.length d4] 27 by rw [hW]; exact (Blk.all b1.out [Value.int IntKind.i64 y.kind, .int .i64 y.n, .string y.s, .slice D3 y.list.length d3, .slice D4 y.names.length d4] rfl))
    have hO := Hd.mk (Ty.O_fr hO.out eF (fun k hk hl h => by skip; (try simp only [rng] at hk); (try simp only at hk); (try simp only at h); omega))
    clear hW eF
    have z5 := Hd.mk hz_; clear hz_
    exact ⟨[Value.int IntKind.i64 y.kind, .int .i64 y.n, .string y.s, .slice D3 y.list.length d3, .slice D4 y.names.length d4], by rw [HN.out], by rw [HF.out]; exact (tJ_le (by have := HY.out.1; omega : M + 1 ≤ m + 1)).O _ _ _ _ (Ty.O_mono _ (fun k hk => by have := hk.1; have := hB.out.size; have := zq.out; have zb_ := zb.out; have zq_ := zq.out; have z3_ := z3.out; have z4_ := z4.out; omega) hO.out), hB.out⟩
def maxN {α : Type} (f : α → Nat) : List α → Nat
 | [] => 0
 | x :: l => max (f x) (maxN f l)
theorem maxN_append {α : Type} (f : α → Nat) (l m : List α) : maxN f (l ++ m) = max (maxN f l) (maxN f m) := by
 induction l with
 | nil => simp [maxN]
 | cons x l ih => simp only [List.cons_append, maxN, ih]; omega
theorem maxN_take {α : Type} (f : α → Nat) (l : List α) (k : Nat) (hk : k < l.length) : maxN f (l.take (k + 1)) = max (maxN f (l.take k)) (f l[k]) := by
 rw [List.take_succ_eq_append_getElem hk, maxN_append]; simp [maxN]
theorem maxN_le {α : Type} (f : α → Nat) (b : Nat) (h : ∀ x, f x ≤ b) : ∀ l : List α, maxN f l ≤ b
 | [] => Nat.zero_le _
 | x :: l => by have := h x; have := maxN_le f b h l; simp only [maxN]; omega
def depthD : Nat → J → Nat
 | 0, _ => 0
 | d + 1, j => maxN (depthD d) j.list + 1
theorem depthD_le : ∀ (d : Nat) (j : J), depthD d j ≤ d
 | 0, _ => Nat.le_refl _
 | d + 1, j => by have := maxN_le (depthD d) d (depthD_le d) j.list; simp only [depthD]; omega
theorem sumZ_mem {α : Type} (f : α → Int) (h : ∀ x, 0 ≤ f x) {l : List α} {x : α} (hx : x ∈ l) : f x ≤ sumZ f l := by
 induction l with
 | nil => cases hx
 | cons y l ih =>
  simp only [sumZ]
  have h1 := h y
  have h2 := sumZ_pos f h l
  rcases List.mem_cons.1 hx with rfl | hx
  ·omega
  ·have := ih hx; omega
theorem size_part {d : Nat} {x y : J} (h : sizeN (d + 1) x ≤ 400) (hy : y ∈ x.list) : sizeN d y ≤ 400 := by
 have := sumZ_mem (sizeN d) (sizeN_pos d) hy
 unfold sizeN at h
 split at h <;> omega
def jsonDepth (x : J) : Int := if sizeN 6 x ≤ 400 then depthD 6 x else 0
theorem J_ext {x y : J} (h0 : x.kind = y.kind) (h1 : x.n = y.n) (h2 : x.s = y.s) (h3 : x.list = y.list) (h4 : x.names = y.names) : x = y := by
 cases x; cases y
 exact J.mk.injEq .. ▸ ⟨h0, h1, h2, h3, h4⟩
def SameC (m : Nat) : Prop := ∀ (x y : J) (cs cs2 : List Value) (w : World), (tJ m).K w x cs → (tJ m).K w y cs2 →
 Calls Try.prog 37 #[.agg cs.toArray, .agg cs2.toArray] w fun e w' => e = .returned (.bool (eqv x y)) ∧ Below w.heap.size w w'
set_option maxRecDepth 100000 in
theorem spec_l1Same_of {m : Nat} (ih : SameC m) : SameC (m + 1) := by
 intro x y cs cs2 w hk hk2
 have HK := Hd.mk hk
 have HKb := Hd.mk hk2
 obtain ⟨A1, c1, A2, c2, rfl, hs, ⟨hc1, hr1⟩, hc2, hr2⟩ := tJ_K.1 hk
 obtain ⟨Ab1, cb1, Ab2, cb2, rfl, hsb, ⟨hcb1, hrb1⟩, hcb2, hrb2⟩ := tJ_K.1 hk2
 clear hk hk2
 have hm1 := hr1.1
 have hm2 := hr2.1
 have hmb1 := hrb1.1
 have hmb2 := hrb2.1
 have HR1 := Hd.mk hr1; clear hr1
 have HR2 := Hd.mk hr2; clear hr2
 have HRb1 := Hd.mk hrb1; clear hrb1
 have HRb2 := Hd.mk hrb2; clear hrb2
 have hB := Hd.mk (show Below w.heap.size w ((w.alloc (Obj.cells #[.int .i64 x.kind, .int .i64 x.n, .string x.s, .slice A1 x.list.length c1, .slice A2 x.names.length c2] 27)).alloc (Obj.cells #[.int .i64 y.kind, .int .i64 y.n, .string y.s, .slice Ab1 y.list.length cb1, .slice Ab2 y.names.length cb2] 27)) from below_alloc (below_alloc (Below.refl _ _) _) _)
 have b0 : Blk ((w.alloc (Obj.cells #[.int .i64 x.kind, .int .i64 x.n, .string x.s, .slice A1 x.list.length c1, .slice A2 x.names.length c2] 27)).alloc (Obj.cells #[.int .i64 y.kind, .int .i64 y.n, .string y.s, .slice Ab1 y.list.length cb1, .slice Ab2 y.names.length cb2] 27)) w.heap.size #[.int .i64 x.kind, .int .i64 x.n, .string x.s, .slice A1 x.list.length c1, .slice A2 x.names.length c2] 27 := (Blk.new w _ _).alloc _
 have b1 : Blk ((w.alloc (Obj.cells #[.int .i64 x.kind, .int .i64 x.n, .string x.s, .slice A1 x.list.length c1, .slice A2 x.names.length c2] 27)).alloc (Obj.cells #[.int .i64 y.kind, .int .i64 y.n, .string y.s, .slice Ab1 y.list.length cb1, .slice Ab2 y.names.length cb2] 27)) (w.heap.size + 1) #[.int .i64 y.kind, .int .i64 y.n, .string y.s, .slice Ab1 y.list.length cb1, .slice Ab2 y.names.length cb2] 27 := Blk.new1 w _ _ _
 go_enter Try.func37, Try.ntmps37
 cases h0 : (x.kind != y.kind)
 case true =>
  have HN := Hd.mk (eqv_no (a := x) (b := y) (fun h => by rw [h] at h0; simp at h0))
  go_wp2_with fail
  go_ret
  exact ⟨by rw [HN.out]; rfl, by exact hB.out⟩
 cases h1 : (x.n != y.n)
 case true =>
  have HN := Hd.mk (eqv_no (a := x) (b := y) (fun h => by rw [h] at h1; simp at h1))
  go_wp2_with fail
  go_ret
  exact ⟨by rw [HN.out]; rfl, by exact hB.out⟩
 cases h2 : (x.s.toList == y.s.toList)
 ·have HN := Hd.mk (eqv_no (a := x) (b := y) (fun h => by rw [h] at h2; simp at h2))
  go_wp2_with fail
  go_ret
  exact ⟨by rw [HN.out]; rfl, by exact hB.out⟩
 by_cases hl : x.list.length = y.list.length
 rotate_left
 ·have hd : ((x.list.length : Int) != y.list.length) = true := by simp; omega
  have HN := Hd.mk (eqv_no (a := x) (b := y) (fun h => by rw [h] at hl; exact hl rfl))
  go_wp2_with fail
  go_ret
  exact ⟨by rw [HN.out]; rfl, by exact hB.out⟩
 have hd : ((x.list.length : Int) != y.list.length) = false := by simp [hl]
 have HL := Hd.mk hl; clear hl
 by_cases hn : x.names.length = y.names.length
 rotate_left
 ·have hd2 : ((x.names.length : Int) != y.names.length) = true := by simp; omega
  have HN := Hd.mk (eqv_no (a := x) (b := y) (fun h => by rw [h] at hn; exact hn rfl))
  go_wp2_with fail
  go_ret
  exact ⟨by rw [HN.out]; rfl, by exact hB.out⟩
 have hd2 : ((x.names.length : Int) != y.names.length) = false := by simp [hn]
 have HM := Hd.mk hn; clear hn
 have HE := Hd.mk (show x.list = y.list → x.names = y.names → eqv x y = true from fun e3 e4 => eqv_iff.2 (J_ext (by simpa using h0) (by simpa using h1) (bytes_eq.1 h2) e3 e4))
 go_wp2_with fail
 clear h0 h1 h2 hd hd2
 go_loopw [5] (fun i wr => ∃ k : Nat, k ≤ x.list.length ∧ i = .int .i64 k ∧ Hd (x.list.take k = y.list.take k) ∧ Hd (Below w.heap.size w wr) ∧ Blk wr w.heap.size #[.int .i64 x.kind, .int .i64 x.n, .string x.s, .slice A1 x.list.length c1, .slice A2 x.names.length c2] 27 ∧ Blk wr (w.heap.size + 1) #[.int .i64 y.kind, .int .i64 y.n, .string y.s, .slice Ab1 y.list.length cb1, .slice Ab2 y.names.length cb2] 27) (fun i _ => x.list.length - (intOf i).toNat)
 case atStart => exact ⟨0, Nat.zero_le _, rfl, ⟨rfl⟩, hB, b0, b1⟩
 case round =>
  clear hB b0 b1
  obtain ⟨k, hk, rfl, HK1, hB, b0, b1⟩ := hrel
  have p3 : wr.cell? ⟨w.heap.size, 3, none⟩ = some (.slice A1 x.list.length c1) := b0.cell 3 rfl
  have q3 : wr.cell? ⟨w.heap.size + 1, 3, none⟩ = some (.slice Ab1 y.list.length cb1) := b1.cell 3 rfl
  have p4 : wr.cell? ⟨w.heap.size, 4, none⟩ = some (.slice A2 x.names.length c2) := b0.cell 4 rfl
  have q4 : wr.cell? ⟨w.heap.size + 1, 4, none⟩ = some (.slice Ab2 y.names.length cb2) := b1.cell 4 rfl
  by_cases hlt : k < x.list.length
  ·have hlt2 : k < y.list.length := by have := HL.out; omega
   obtain ⟨m, rfl⟩ : ∃ m1 : Nat, m = m1 + 1 := by
    cases m with
    | zero => obtain ⟨_, _, _, h, _⟩ := C_at HR1.out (Below.refl _ _) k hlt; exact h.elim
    | succ m => exact ⟨m, rfl⟩
   obtain ⟨ad, A3, c3, A4, c4, rfl, x0, x1, x2, x3, x4, hs4, hr3, hr4⟩ := C_J_at HR1.out hB.out k hlt
   have HK4 := Hd.mk (tJ_K.2 ⟨A3, c3, A4, c4, rfl, hs4, hr3, hr4⟩ : (tJ (m + 1)).K wr x.list[k] _)
   obtain ⟨ad2, A5, c5, A6, c6, rfl, y0, y1, y2, y3, y4, hs5, hr5, hr6⟩ := C_J_at HRb1.out hB.out k hlt2
   have HK5 := Hd.mk (tJ_K.2 ⟨A5, c5, A6, c6, rfl, hs5, hr5, hr6⟩ : (tJ (m + 1)).K wr y.list[k] _)
   clear hr3 hr4 hr5 hr6
   have ux0 := cell_regrown x0
   have ux1 := cell_regrown x1
   have ux2 := cell_regrown x2
   have ux3 := cell_regrown x3
   have ux4 := cell_regrown x4
   have uy0 := cell_regrown y0
   have uy1 := cell_regrown y1
   have uy2 := cell_regrown y2
   have uy3 := cell_regrown y3
   have uy4 := cell_regrown y4
   have up3 := cell_regrown p3
   have uq3 := cell_regrown q3
   go_wp2_with fail
   refine region_mix [(true, 0), (true, 1), (true, 2), (true, 3), (true, 4), (true, 5), (true, 6), (true, 7), (true, 8), (true, 9), (false, 10), (true, 11)] (by kernel_rfl) (by kernel_rfl) (fun _ _ _ _ _ h => h) ?_
   (repeat (first | (refine mix_z rfl (by rfl) ?_; go_big_quiet_skip; refine wpQuiet_nil ?_) | (refine mix_q rfl ?_; first | (go_big_quiet_skip; refine wpQuiet_nil ?_) | (go_big_quiet_want; go_big_quiet_op; go_big_quiet_on; refine wpQuiet_nil ?_))))
   refine mix_b rfl ?_ (by rfl)
   go_wp2_with fail
   apply calls_gen; intro W hW
   have hX : Below wr.heap.size wr W := by rw [hW]; exact below_drew (Below.refl _ _)
   clear hW
   refine (ih x.list[k] y.list[k] _ _ W ((tJ (m + 1)).K_below hX HK4.out) ((tJ (m + 1)).K_below hX HK5.out)).mono ?_
   rintro e w1 ⟨rfl, hB1⟩
   have hS := Hd.mk (below_then hX hB1)
   have hB2 := Hd.mk (below_then hB.out hS.out)
   have b02 := b0.below hS.out
   have b12 := b1.below hS.out
   clear hX hB1
   cases hb : eqv x.list[k] y.list[k]
   ·have HN := Hd.mk (eqv_no (a := x) (b := y) (fun h => by have := eqv_at k hlt hlt2 (fun h => by rw [h, eqv_self] at hb; cases hb); rw [h, eqv_self] at this; cases this))
    go_wp2_with fail
    refine ⟨cls_below hS.out, ?_⟩
    (repeat (first | (refine mix_z rfl (by rfl) ?_; go_big_quiet_skip; refine wpQuiet_nil ?_) | (refine mix_q rfl ?_; first | (go_big_quiet_skip; refine wpQuiet_nil ?_) | (go_big_quiet_want; go_big_quiet_op; go_big_quiet_on; refine wpQuiet_nil ?_))))
    refine mix_nil ?_
    go_wp2_with fail
    go_ret
    exact ⟨by rw [HN.out]; rfl, hB2.out⟩
   ·have HE2 := Hd.mk (eqv_iff.1 hb)
    go_wp2_with fail
    refine ⟨cls_below hS.out, ?_⟩
    (repeat (first | (refine mix_z rfl (by rfl) ?_; go_big_quiet_skip; refine wpQuiet_nil ?_) | (refine mix_q rfl ?_; first | (go_big_quiet_skip; refine wpQuiet_nil ?_) | (go_big_quiet_want; go_big_quiet_op; go_big_quiet_on; refine wpQuiet_nil ?_))))
    refine mix_nil ?_
    clear ux0 ux1 ux2 ux3 ux4 uy0 uy1 uy2 uy3 uy4 up3 uq3
    go_wp2_with fail
    go_roundw
    case rel =>
     refine ⟨k + 1, by omega, by go_num, ⟨?_⟩, hB2, b02, b12⟩
     rw [List.take_succ_eq_append_getElem hlt, List.take_succ_eq_append_getElem hlt2, HK1.out, HE2.out]
    case measure => simp [intOf]; omega
  ·obtain rfl : k = x.list.length := by omega
   have HE3 := Hd.mk (show x.names = y.names → eqv x y = true from by
    have h1 := HK1.out
    rw [List.take_length, HL.out, List.take_length] at h1
    exact HE.out h1)
   go_wp2_with fail
   clear p3 p4 q3 q4
   go_loopw [6] (fun i w9 => ∃ k : Nat, k ≤ x.names.length ∧ i = .int .i64 k ∧ Hd (x.names.take k = y.names.take k) ∧ Hd (Below w.heap.size w w9) ∧ Blk w9 w.heap.size #[.int .i64 x.kind, .int .i64 x.n, .string x.s, .slice A1 x.list.length c1, .slice A2 x.names.length c2] 27 ∧ Blk w9 (w.heap.size + 1) #[.int .i64 y.kind, .int .i64 y.n, .string y.s, .slice Ab1 y.list.length cb1, .slice Ab2 y.names.length cb2] 27) (fun i _ => x.names.length - (intOf i).toNat)
   case atStart => exact ⟨0, Nat.zero_le _, rfl, ⟨rfl⟩, hB, b0, b1⟩
   case round =>
    clear hB b0 b1 HK1
    obtain ⟨k, hk, rfl, HK1, hB, b0, b1⟩ := hrel
    have p4 : wr.cell? ⟨w.heap.size, 4, none⟩ = some (.slice A2 x.names.length c2) := b0.cell 4 rfl
    have q4 : wr.cell? ⟨w.heap.size + 1, 4, none⟩ = some (.slice Ab2 y.names.length cb2) := b1.cell 4 rfl
    by_cases hlt : k < x.names.length
    ·have hlt2 : k < y.names.length := by have := HM.out; omega
     obtain ⟨ad, rfl, hx, hsz⟩ := C_str_at HR2.out hB.out k hlt
     obtain ⟨ad2, rfl, hx2, hsz2⟩ := C_str_at HRb2.out hB.out k hlt2
     cases hb : (x.names[k].toList == y.names[k].toList)
     ·have HN := Hd.mk (eqv_no (a := x) (b := y) (fun h => by have := eqv_at k hlt hlt2 (fun h9 => by rw [h9] at hb; simp at hb); rw [h, eqv_self] at this; cases this))
      go_wp2_with fail
      go_quiet (fail)
      go_wp2_with fail
      go_ret
      exact ⟨by rw [HN.out]; rfl, below_drewN hB.out _⟩
     ·have HE2 := Hd.mk (bytes_eq.1 hb)
      go_wp2_with fail
      go_quiet (fail)
      go_wp2_with fail
      go_roundw
      case rel =>
       refine ⟨k + 1, by omega, by go_num, ⟨?_⟩, ⟨below_drewN hB.out _⟩, b0.drewN _, b1.drewN _⟩
       rw [List.take_succ_eq_append_getElem hlt, List.take_succ_eq_append_getElem hlt2, HK1.out, HE2.out]
      case measure => simp [intOf]; omega
    ·obtain rfl : k = x.names.length := by omega
     have HN := Hd.mk (HE3.out (by
      have h1 := HK1.out
      rw [List.take_length, HM.out, List.take_length] at h1
      exact h1))
     go_wp2_with fail
     go_ret
     exact ⟨by rw [HN.out]; rfl, hB.out⟩
theorem same_all : ∀ m, SameC m
 | 0 => fun _ _ _ _ _ hk => hk.elim
 | m + 1 => spec_l1Same_of (same_all m)
noncomputable def jsonSame (x y : J) : Bool := jsonOk x && (jsonOk y && eqv x y)
theorem sumZ_congr {α : Type} (f g : α → Int) : ∀ l : List α, (∀ x ∈ l, f x = g x) → sumZ f l = sumZ g l
 | [], _ => rfl
 | x :: l, h => by simp only [sumZ]; rw [h x (by simp), sumZ_congr f g l (fun y hy => h y (by simp [hy]))]
theorem sizeN_up : ∀ (d : Nat) (x : J), sizeN d x ≤ 400 → sizeN (d + 1) x = sizeN d x
 | 0, x, h => by simp [sizeN] at h
 | d + 1, x, h => by
  have h1 : sumZ (sizeN (d + 1)) x.list = sumZ (sizeN d) x.list := sumZ_congr _ _ _ (fun y hy => sizeN_up d y (size_part h hy))
  show (if ownB x = true ∧ 1 + sumZ (sizeN (d + 1)) x.list ≤ 400 then 1 + sumZ (sizeN (d + 1)) x.list else 401) = _
  rw [h1]; rfl
theorem sizeN_to {d e : Nat} (h : d ≤ e) {x : J} (hx : sizeN d x ≤ 400) : sizeN e x ≤ 400 := by
 obtain ⟨i, rfl⟩ : ∃ i, e = d + i := ⟨e - d, by omega⟩
 clear h
 induction i with
 | zero => exact hx
 | succ i ih => rw [← Nat.add_assoc, sizeN_up _ _ ih]; exact ih
theorem size_own {d : Nat} {x : J} (h : sizeN (d + 1) x ≤ 400) : ownB x = true ∧ sizeN (d + 1) x = 1 + sumZ (sizeN d) x.list := by
 unfold sizeN at h ⊢
 split at h
 ·rename_i h1
  exact ⟨h1.1, by rw [if_pos h1]⟩
 ·omega
theorem textB_size {s : ByteArray} (h : textB s = true) : s.size ≤ 60 := by
 unfold textB at h
 simp only [Bool.and_eq_true, decide_eq_true_eq] at h
 omega
theorem namesB_size {l : List ByteArray} (h : namesB l = true) : ∀ s ∈ l, s.size ≤ 60 := by
 intro s hs
 obtain ⟨k, hk, rfl⟩ := List.mem_iff_getElem.1 hs
 have h1 := List.all_eq_true.1 h k (List.mem_range.2 hk)
 rw [nameStep_at hk, Bool.and_eq_true] at h1
 exact textB_size h1.1
theorem bytes_nil' {s : ByteArray} : (s.toList == []) = true ↔ s = ByteArray.empty := by
 have : (s.toList == ByteArray.empty.toList) = true ↔ s = ByteArray.empty := bytes_eq
 simpa using this
theorem own_facts {x : J} (h : ownB x = true) : x.s.size ≤ 60 ∧ x.names.length ≤ x.list.length ∧ ∀ s ∈ x.names, s.size ≤ 60 := by
 unfold ownB at h
 split at h
 ·cases h
 split at h
 ·cases h
 rename_i h2
 split at h
 ·cases h
 split at h
 ·cases h
 rename_i h4
 have hs : x.kind ≠ 3 → x.s.size = 0 := by
  intro hk
  have : x.s.toList == [] := by
   cases hb : (x.s.toList == [])
   ·simp [hb, hk] at h4
   ·rfl
  rw [bytes_nil'.1 this]; rfl
 have hn : x.kind ≠ 5 → x.names = [] := by
  intro hk
  cases hb : x.names with
  | nil => rfl
  | cons a l => simp [hb, hk] at h2
 by_cases h5 : x.kind = 5
 ·have h6 : (((x.names.length : Int) == x.list.length) && namesB x.names) = true := by
   rw [h5] at h; exact h
  rw [Bool.and_eq_true] at h6
  refine ⟨by have := hs (by omega); omega, by have := h6.1; simp at this; omega, namesB_size h6.2⟩
 ·rw [hn h5]
  refine ⟨?_, by simp, by simp⟩
  by_cases h3 : x.kind = 3
  ·rw [h3] at h
   exact textB_size h
  ·have := hs h3; omega
theorem bulk_names {l : List ByteArray} (h : ∀ s ∈ l, s.size ≤ 60) : bulkStringS l ≤ 61 * l.length := by
 unfold bulkStringS
 induction l with
 | nil => simp [bulkL]
 | cons a l ih =>
  have h1 := h a (by simp)
  have h2 := ih (fun s hs => h s (by simp [hs]))
  simp only [bulkL, List.length_cons] at h2 ⊢
  omega
theorem bulkL_sum {α : Type} (f : α → Nat) (g : α → Int) (c e : Nat) : ∀ l : List α, (∀ x ∈ l, (f x : Int) + e ≤ c * g x) → (bulkL f l : Int) + e * l.length ≤ c * sumZ g l
 | [], _ => by simp [bulkL, sumZ]
 | x :: l, h => by
  have h1 := h x (by simp)
  have h2 := bulkL_sum f g c e l (fun y hy => h y (by simp [hy]))
  simp only [bulkL, sumZ, List.length_cons]
  have h3 : (c : Int) * (g x + sumZ g l) = c * g x + c * sumZ g l := by rw [Int.mul_add]
  have h4 : (e : Int) * ((l.length + 1 : Nat) : Int) = e * l.length + e := by push_cast; rw [Int.mul_add, Int.mul_one]
  rw [h3, h4]
  push_cast
  omega
theorem bulk_size : ∀ (m d : Nat) (x : J), sizeN d x ≤ 400 → (bulkJ m x : Int) + (62 : Nat) ≤ (122 : Nat) * sizeN d x
 | 0, d, x, h => by have := (sizeN_bound d x).1; simp only [bulkJ]; omega
 | m + 1, 0, x, h => by simp [sizeN] at h
 | m + 1, d + 1, x, h => by
  obtain ⟨ho, he⟩ := size_own h
  obtain ⟨h1, h2, h3⟩ := own_facts ho
  have h4 := bulk_names h3
  have h5 := bulkL_sum (bulkJ m) (sizeN d) 122 62 x.list (fun y hy => bulk_size m d y (size_part h hy))
  rw [he]
  simp only [bulkJ]
  push_cast at h5 ⊢
  omega
theorem cn_size : ∀ (m d : Nat) (x : J), sizeN d x ≤ 400 → (cnJ m x : Int) + (1 : Nat) ≤ (4 : Nat) * sizeN d x
 | 0, d, x, h => by have := (sizeN_bound d x).1; simp only [cnJ]; omega
 | m + 1, 0, x, h => by simp [sizeN] at h
 | m + 1, d + 1, x, h => by
  obtain ⟨ho, he⟩ := size_own h
  obtain ⟨h1, h2, h3⟩ := own_facts ho
  have h5 := bulkL_sum (cnJ m) (sizeN d) 4 1 x.list (fun y hy => cn_size m d y (size_part h hy))
  rw [he]
  simp only [cnJ]
  push_cast at h5 ⊢
  omega
theorem sum_len (d : Nat) : ∀ l : List J, (l.length : Int) ≤ sumZ (sizeN d) l
 | [] => by simp [sumZ]
 | x :: l => by have := sum_len d l; have := (sizeN_bound d x).1; simp only [sumZ, List.length_cons]; push_cast; omega
theorem list_len {d : Nat} {x : J} (h : sizeN (d + 1) x ≤ 400) : x.list.length ≤ 399 := by
 obtain ⟨_, he⟩ := size_own h
 have := sum_len d x.list
 omega
theorem own5 {j : J} (h : ownB j = true) (hk : (j.kind == 5) = true) : j.n = 0 ∧ j.s = ⟨#[]⟩ ∧ UpB j.names ∧ j.names.length = j.list.length := by
  have hk5 : j.kind = 5 := by simpa using hk
  unfold ownB at h
  simp only [hk5] at h
  split at h
  · cases h
  split at h
  · cases h
  split at h
  · cases h
  rename_i h3
  split at h
  · cases h
  rename_i h4
  split at h
  · rename_i h5; exact absurd h5 (by decide)
  split at h
  · rename_i h5; exact absurd h5 (by decide)
  split at h
  · rename_i h5; exact absurd h5 (by decide)
  split at h
  · simp only [Bool.and_eq_true] at h
    refine ⟨?_, ?_, namesB_up h.2, by have := h.1; simp at this; omega⟩
    · simpa using h3
    · refine bytes_ext ?_
      rw [show (⟨#[]⟩ : ByteArray).toList = [] from by rw [ByteArray.toList_eq]]
      simpa using h4
  · rename_i h5; exact absurd rfl h5
def endSg : ByteArray := ⟨#[45]⟩
def addAt (j : J) (s : ByteArray) : Int := if (s.toList == endSg.toList) = true then (j.list.length : Int) else idxS s.data.toList
def insJ (j : J) (q : Nat) (v : J) : J := ⟨j.kind, j.n, j.s, j.list.take q ++ v :: j.list.drop q, j.names⟩
def addV (j : J) (s : ByteArray) (v : J) : Option J :=
  if (j.kind == 5) = true then some (putJ j v s)
  else if ((j.kind == 4) && inB (addAt j s) 0 j.list.length) = true then some (insJ j (addAt j s).toNat v)
  else none
def dropV (j : J) (q : Nat) : J := ⟨j.kind, j.n, j.s, j.list.eraseIdx q, if (j.kind == 5) = true then j.names.eraseIdx q else j.names⟩
def setV (j : J) (q : Nat) (z : J) : J := ⟨j.kind, j.n, j.s, j.list.set q z, j.names⟩
noncomputable def wholeV (o : JOp) (j : J) : Option J := if (o.kind == 2) = true then none else if (o.kind == 4) = true then (if eqv j o.value = true then some j else none) else some o.value
noncomputable def patV (o : JOp) : List ByteArray → J → Option J
  | [], j => wholeV o j
  | s :: r, j =>
    if ((o.kind == 1) && r.isEmpty) = true then addV j s o.value
    else if placeS j s < 0 then none
    else if ((o.kind == 2) && r.isEmpty) = true then some (dropV j (placeS j s).toNat)
    else match j.list[(placeS j s).toNat]? with
      | some y => (patV o r y).map (setV j (placeS j s).toNat)
      | none => none
theorem pat_add {o : JOp} {s : ByteArray} {j : J} (h : (o.kind == 1) = true) : patV o [s] j = addV j s o.value := by
  unfold patV; rw [if_pos (by rw [h]; rfl)]
theorem pat_no {o : JOp} {s : ByteArray} {r : List ByteArray} {j : J} (h : ((o.kind == 1) && r.isEmpty) = false) (hp : placeS j s < 0) : patV o (s :: r) j = none := by
  unfold patV; rw [if_neg (by rw [h]; decide), if_pos hp]
theorem pat_drop {o : JOp} {s : ByteArray} {j : J} {q : Nat} (h : (o.kind == 2) = true) (hp : placeS j s = (q : Int)) : patV o [s] j = some (dropV j q) := by
  have h1 : (o.kind == 1) = false := by have : o.kind = 2 := by simpa using h
                                        rw [this]; decide
  unfold patV; rw [if_neg (by rw [h1]; decide), hp, if_neg (by omega), if_pos (by rw [h]; rfl)]; rfl
theorem pat_in {o : JOp} {s : ByteArray} {r : List ByteArray} {j : J} {q : Nat} (h : ((o.kind == 1) && r.isEmpty) = false) (h2 : ((o.kind == 2) && r.isEmpty) = false) (hp : placeS j s = (q : Int)) (hq : q < j.list.length) :
    patV o (s :: r) j = (patV o r j.list[q]).map (setV j q) := by
  rw [patV, if_neg (by rw [h]; decide), hp, if_neg (by omega), if_neg (by rw [h2]; decide)]
  simp only [Int.toNat_natCast, List.getElem?_eq_getElem hq]
theorem setV_self (j : J) (q : Nat) (hq : q < j.list.length) : setV j q j.list[q] = j := by
  unfold setV
  rw [List.set_getElem_self]
  cases j; rfl
theorem add_old {j v : J} {s : ByteArray} (ho : ownB j = true) (hk : (j.kind == 5) = true) (h : hasB j.names s = true) : posB j.names s < j.list.length ∧ addV j s v = some (setV j (posB j.names s) v) := by
  obtain ⟨h1, h2, h3, h4⟩ := own5 ho hk
  unfold hasB at h
  simp only [Bool.and_eq_true, decide_eq_true_eq] at h
  refine ⟨by omega, ?_⟩
  have hk5 : j.kind = 5 := by simpa using hk
  unfold addV
  rw [if_pos hk, putJ_old h3 h4 h.1 (by have := h.2; rw [List.getD_eq_getElem?_getD, List.getElem?_eq_getElem h.1] at this; exact this)]
  unfold setV
  rw [hk5, h1, h2]
theorem add_new {j v : J} {s : ByteArray} (ho : ownB j = true) (hk : (j.kind == 5) = true) (h : hasB j.names s = false) : posB j.names s ≤ j.list.length ∧ addV j s v = some ⟨j.kind, j.n, j.s, j.list.take (posB j.names s) ++ v :: j.list.drop (posB j.names s), j.names.take (posB j.names s) ++ s :: j.names.drop (posB j.names s)⟩ := by
  obtain ⟨h1, h2, h3, h4⟩ := own5 ho hk
  have hp := posB_le j.names s
  refine ⟨by omega, ?_⟩
  have hk5 : j.kind = 5 := by simpa using hk
  unfold addV
  rw [if_pos hk, putJ_new h3 h4 (fun hlt => by
    unfold hasB at h
    rw [List.getD_eq_getElem?_getD, List.getElem?_eq_getElem hlt] at h
    simpa [hlt] using h), hk5, h1, h2]
theorem R_elem5 {m : Nat} {w : World} {S : Nat → Prop} {g c q : Nat} {l : List J} (hR : (tJ (m + 1)).R 27 w S (.slice (some ⟨g, 0, none⟩) l.length c) l) (hq : q < l.length) :
  ∃ (Si : Nat → Prop) (A B : Option Addr) (a b : Nat), (tJ (m + 1)).H 27 w S (.slice (some ⟨g, 0, none⟩) l.length c) l q Si [.int .i64 l[q].kind, .int .i64 l[q].n, .string l[q].s, .slice A l[q].list.length a, .slice B l[q].names.length b] ∧
   (tJ (m + 1)).O w Si l[q] [.int .i64 l[q].kind, .int .i64 l[q].n, .string l[q].s, .slice A l[q].list.length a, .slice B l[q].names.length b] ∧ S g ∧ g < w.heap.size ∧
   (w.cell? ⟨g, q * 5, none⟩ = some (.int .i64 l[q].kind) ∧ w.cell? ⟨g, q * 5 + 1, none⟩ = some (.int .i64 l[q].n) ∧ w.cell? ⟨g, q * 5 + 2, none⟩ = some (.string l[q].s) ∧ w.cell? ⟨g, q * 5 + 3, none⟩ = some (.slice A l[q].list.length a) ∧ w.cell? ⟨g, q * 5 + 4, none⟩ = some (.slice B l[q].names.length b)) ∧
   (∀ j, w.frozen? ⟨g, j, none⟩ = false) ∧ l.length ≤ c ∧ c ≤ 9223372036854775807 := by
 obtain ⟨Si, cs, hH, hO⟩ := R_H hR (List.getElem?_eq_getElem hq)
 obtain ⟨v3, v4, _, _, rfl, _, h3, h4, _⟩ := tJ_O.1 hO
 obtain ⟨A, a, rfl, _, _⟩ := R_C h3
 obtain ⟨B, b, rfl, _, _⟩ := R_C h4
 obtain ⟨g2, cap, hv, hl, hc, hS, hg, _, hcell, hfz⟩ := H_cells hH (show 0 < 5 by decide)
 injection hv with e1 _ e3
 injection e1 with e1
 injection e1 with e1 _ _
 subst e1; subst e3
 exact ⟨Si, A, B, a, b, hH, hO, hS, hg, ⟨hcell 0 _ rfl, hcell 1 _ rfl, hcell 2 _ rfl, hcell 3 _ rfl, hcell 4 _ rfl⟩, hfz, hl, hc⟩
theorem one_cell {u : Value} (h : u.oneCell' = true) : u.cells = #[u] := by
 cases u <;> first | rfl | (exact absurd h (by simp [Value.oneCell']))
theorem H_set5 {m : Nat} {w : World} {S S' Si T : Nat → Prop} {g c q : Nat} {l : List J} {cs : List Value} {z : J} {d0 d1 d2 d3 d4 : Value} (hH : (tJ (m + 1)).H 27 w S (.slice (some ⟨g, 0, none⟩) l.length c) l q Si cs) (hcs : cs.length = 5)
  (hO : (tJ (m + 1)).O w T z [d0, d1, d2, d3, d4]) (hTg : ¬ T g) (hT : ∀ k, T k → Si k ∨ ¬ S k) (hS : ∀ k, S k → S' k) (hT' : ∀ k, T k → S' k) :
  (tJ (m + 1)).R 27 (((((w.setCell ⟨g, q * 5, none⟩ d0).setCell ⟨g, q * 5 + 1, none⟩ d1).setCell ⟨g, q * 5 + 2, none⟩ d2).setCell ⟨g, q * 5 + 3, none⟩ d3).setCell ⟨g, q * 5 + 4, none⟩ d4) S' (.slice (some ⟨g, 0, none⟩) l.length c) (l.set q z) := by
 have h1 := Ty.K_one _ (Ty.O_K _ hO)
 have k0 := one_cell (h1 d0 (by simp)); have k1 := one_cell (h1 d1 (by simp)); have k2 := one_cell (h1 d2 (by simp)); have k3 := one_cell (h1 d3 (by simp)); have k4 := one_cell (h1 d4 (by simp))
 have e := H_store (H_store (H_store (H_store (H_store hH 0 (show 0 < 5 by decide) d0 k0) 1 (show 1 < 5 by decide) d1 k1) 2 (show 2 < 5 by decide) d2 k2) 3 (show 3 < 5 by decide) d3 k3) 4 (show 4 < 5 by decide) d4 k4
 have hc : ((((cs.set 0 d0).set 1 d1).set 2 d2).set 3 d3).set 4 d4 = [d0, d1, d2, d3, d4] := by
  match cs, hcs with
  | [a, b, c, d, e], _ => rfl
 rw [hc] at e
 refine H_back (x' := z) (T := T) e ?_ hT hS hT'
 exact Ty.O_setCell (Ty.O_setCell (Ty.O_setCell (Ty.O_setCell (Ty.O_setCell hO hTg _) hTg _) hTg _) hTg _) hTg _
theorem Fr.set5 (w : World) (g a0 a1 a2 a3 a4 : Nat) (d0 d1 d2 d3 d4 : Value) : Fr w (((((w.setCell ⟨g, a0, none⟩ d0).setCell ⟨g, a1, none⟩ d1).setCell ⟨g, a2, none⟩ d2).setCell ⟨g, a3, none⟩ d3).setCell ⟨g, a4, none⟩ d4) (fun k => k = g) :=
 (((((Fr.refl w (fun k => k = g)).setCell _ (fun _ => rfl) d0).setCell _ (fun _ => rfl) d1).setCell _ (fun _ => rfl) d2).setCell _ (fun _ => rfl) d3).setCell _ (fun _ => rfl) d4
def PatPost (m : Nat) (w : World) (S : Nat → Prop) (r : Option J) (e : Ending) (w' : World) : Prop :=
 (∃ z cs', r = some z ∧ e = .returned (.tuple #[.agg cs'.toArray, .bool true]) ∧ (tJ m).O w' (fun k => w.heap.size ≤ k ∨ S k) z cs' ∧ Fr w w' S) ∨
 (∃ (a b : Int) (s : ByteArray) (A B : Option Addr) (n c n2 d : Nat), r = none ∧ e = .returned (.tuple #[.agg #[.int .i64 a, .int .i64 b, .string s, .slice A n c, .slice B n2 d], .bool false]) ∧ Fr w w' S)
theorem pat_some {m : Nat} {w w' : World} {S : Nat → Prop} {r : Option J} {e : Ending} {z : J} {cs : List Value} (h1 : r = some z) (h2 : e = .returned (.tuple #[.agg cs.toArray, .bool true])) (h3 : (tJ m).O w' (fun k => w.heap.size ≤ k ∨ S k) z cs) (h4 : Fr w w' S) : PatPost m w S r e w' := .inl ⟨z, cs, h1, h2, h3, h4⟩
theorem pat_none {m : Nat} {w w' : World} {S : Nat → Prop} {r : Option J} {e : Ending} {a b : Int} {s : ByteArray} {A B : Option Addr} {n c n2 d : Nat} (h1 : r = none) (h2 : e = .returned (.tuple #[.agg #[.int .i64 a, .int .i64 b, .string s, .slice A n c, .slice B n2 d], .bool false])) (h4 : Fr w w' S) : PatPost m w S r e w' := .inr ⟨a, b, s, A, B, n, c, n2, d, h1, h2, h4⟩
def Bnd (B : Nat) (j : J) : Prop := ∀ m, bulkJ m j ≤ B
theorem Bnd.list {B : Nat} {j : J} (h : Bnd B j) : j.list.length ≤ B := by
 have h1 := h 1
 simp only [bulkJ] at h1
 omega
theorem Bnd.names {B : Nat} {j : J} (h : Bnd B j) : j.names.length ≤ B ∧ ∀ s ∈ j.names, s.size ≤ B := by
 have h1 := h 1
 simp only [bulkJ, bulkStringS] at h1
 exact ⟨by omega, fun s hs => by have := bulkL_mem ByteArray.size hs; omega⟩
theorem Bnd.elem {B : Nat} {j : J} (h : Bnd B j) {x : J} (hx : x ∈ j.list) : Bnd B x := by
 intro m
 have h1 := h (m + 1)
 have h2 := bulkL_mem (bulkJ m) hx
 simp only [bulkJ] at h1
 omega
def drawWays : List ByteArray := [⟨#[97]⟩, ⟨#[48]⟩, ⟨#[49]⟩, ⟨#[45]⟩, ⟨#[114, 111, 119, 115]⟩, ⟨#[48, 48]⟩, ⟨#[122, 122]⟩]
theorem R_none {w : World} {S : Nat → Prop} {v : Value} {l : List J} {p : Nat} (h : (tJ 0).R 27 w S v l) (hp : p < l.length) : False := by
 obtain ⟨inner, f, _, _, hx⟩ := h
 exact hx p l[p] (by simp [hp])
theorem R_emptyS {W : World} {n : Nat} (hn : W.heap.size = n) : str.R 9 (W.alloc (.cells #[] 9)) (fun k => n ≤ k) (.slice (some ⟨n, 0, none⟩) 0 0) [] := by
 subst hn
 exact R_empty str 9 W
theorem R_str1 {W0 : World} (s : ByteArray) (hs : s.size ≤ 9223372036854775807) : str.R 9 (W0.alloc (.cells #[.string s] 9)) (fun k => k = W0.heap.size) (.slice (some ⟨W0.heap.size, 0, none⟩) 1 1) [s] := by
 refine R_block (xs := [s]) (cap := 1) (heap_alloc_new W0 _) rfl (Nat.le_refl _) (by omega) (by simp [show str.sz = 1 from rfl]) (fun _ => 0) (fun i x h => ?_)
 rcases i with _ | i
 ·simp at h
  subst h
  exact ⟨rfl, hs⟩
 ·simp at h
set_option maxHeartbeats 8000000 in
set_option maxRecDepth 100000 in
theorem spec_l3DrawWay {m B : Nat} {S : Nat → Prop} (j : J) (cs : List Value) (W0 w : World) (g : Nat) (hB : B ≤ 1000000) (hO : (tJ (m + 1)).O w S j cs) (hSg : ¬ S g) (hbj : Bnd B j) (hc : Cur W0 w g) :
  Calls Try.prog 111 #[.pointer (some ⟨g, 0, none⟩), .agg cs.toArray] w fun e w' => ∃ (v : Value) (way : List ByteArray), e = .returned v ∧ str.R 9 w' (fun k => w.heap.size ≤ k) v way ∧ way.length ≤ 6 ∧ (∀ s ∈ way, s.size ≤ B + 60) ∧ Cur W0 w' g ∧ Fr w w' (fun k => k = g) := by
 have HBB := Hd.mk hB; clear hB
 have hO := Hd.mk (Ty.O_bound _ hO)
 have hSg := Hd.mk hSg
 obtain ⟨v3, v4, _, _, rfl, _, hr3, hr4, _⟩ := tJ_O.1 hO.out
 obtain ⟨A3, c3, rfl, _, _⟩ := R_C hr3
 obtain ⟨A4, c4, rfl, _, _⟩ := R_C hr4
 clear hr3 hr4
 have HBN := Hd.mk hbj; clear hbj
 have hg := Hd.mk hc.lt
 have hC := Hd.mk hc; clear hc
 have hB := Hd.mk (Fr.refl w (fun k => k = g))
 go_enter Try.func111, Try.ntmps111
 go_wp2_with fail
 go_loopw [5, 6, 7, 8] (fun o i at_ s_ wr => ∃ (k m : Nat) (j : J) (A3 A4 : Option Addr) (c3 c4 : Nat) (vv : Value) (way : List ByteArray), k ≤ 5 ∧ i = .int .i64 k ∧ vv = o ∧ Hd (way.length = k) ∧ Hd (∀ s ∈ way, s.size ≤ B + 60) ∧ Hd (Bnd B j) ∧ Hd (Blk wr w.heap.size #[.int .i64 j.kind, .int .i64 j.n, .string j.s, .slice A3 j.list.length c3, .slice A4 j.names.length c4] 27) ∧ Hd ((tJ (m + 1)).O wr (fun q => S q ∧ q < w.heap.size) j [Value.int IntKind.i64 j.kind, .int .i64 j.n, .string j.s, .slice A3 j.list.length c3, .slice A4 j.names.length c4]) ∧ Hd (str.R 9 wr (fun q => w.heap.size < q) vv way) ∧ Hd (Cur W0 wr g) ∧ Hd (Fr w wr (fun k => k = g)) ∧ Hd (w.heap.size + 2 ≤ wr.heap.size)) (fun _ i _ _ _ => 5 - (intOf i).toNat)
 case atStart =>
  refine ⟨0, m, j, A3, A4, c3, c4, _, [], Nat.zero_le _, rfl, rfl, ⟨rfl⟩, ⟨by simp⟩, HBN, ⟨Blk.alloc (Blk.new _ _ _) _⟩, ⟨Ty.O_below hO.out (below_alloc (below_alloc (Below.refl _ _) _) _)⟩, ⟨R_mono (fun q h => by have h : w.heap.size + 1 ≤ q := h; omega) (R_emptyS (by simp))⟩, ⟨hC.out.below (below_alloc (below_alloc (Below.refl _ _) _) _)⟩, ⟨(hB.out.alloc _).alloc _⟩, ⟨by simp⟩⟩
 case round =>
  clear hO HBN hC hB
  obtain ⟨k, m, j, A3, A4, c3, c4, vv, way, hk5, rfl, rfl, HLW, HWS, HBN, b0, hO, hWy, hC, hB, hzw⟩ := hrel
  have hk0 : (0 : Int) ≤ (k : Int) := by omega
  obtain ⟨AW, cW, hvW, hcW, _⟩ := R_C hWy.out
  subst hvW
  obtain ⟨n, hn⟩ : ∃ z, z = way.length := ⟨_, rfl⟩
  have hWy0 := hWy.out
  rw [← hn] at hWy0 hcW ⊢
  replace hWy := Hd.mk hWy0; clear hWy0
  have hn5 : n ≤ 5 := by have := HLW.out; omega
  have HLWK := Hd.mk HLW.out
  replace HLW := Hd.mk hn.symm
  have HNK := Hd.mk (show n = k by rw [hn]; exact HLWK.out); clear hn
  have hlb := HBN.out.list
  have hBB_ := HBB.out
  have hl9 : j.list.length ≤ 1000000 := by omega
  have hn9 : j.names.length ≤ 1000000 := by have := HBN.out.names.1; omega
  clear hlb hBB_
  by_cases hk5l : (k : Int) < 5
  ·by_cases hl0 : (0 : Int) < (j.list.length : Int)
   ·have v00 : wr.cell? ⟨w.heap.size, 0, none⟩ = some (.int .i64 j.kind) := b0.out.cell 0 rfl
    have v01 : wr.cell? ⟨w.heap.size, 1, none⟩ = some (.int .i64 j.n) := b0.out.cell 1 rfl
    have v02 : wr.cell? ⟨w.heap.size, 2, none⟩ = some (.string j.s) := b0.out.cell 2 rfl
    have v03 : wr.cell? ⟨w.heap.size, 3, none⟩ = some (.slice A3 j.list.length c3) := b0.out.cell 3 rfl
    have v04 : wr.cell? ⟨w.heap.size, 4, none⟩ = some (.slice A4 j.names.length c4) := b0.out.cell 4 rfl
    have v0z := b0.out.frozen
    go_wp2_with fail
    clear v00 v01 v02 v03 v04 v0z
    refine (spec_l1Once 4 W0 _ g hC.out).mono ?_
    rintro e w1 ⟨bo, rfl, hC1, hX⟩
    have hC := Hd.mk hC1; clear hC1
    have hSz0 := hB.out.size
    have hg_ := hg.out
    have hzw_ := hzw.out
    have b0 := Hd.mk (b0.out.fr hX (fun h => by skip; (try simp only at h); omega))
    have hO := Hd.mk (Ty.O_fr hO.out hX (fun k hk hl h => by have q_ := hk; have h_ : k = g := h; have hn_ : (1 : Int) = 2 := (hSg.out (h_ ▸ q_.1)).elim; (try simp only [rng] at hk); (try simp only at hk); (try simp only at h); omega))
    have hWy := Hd.mk (R_fr hWy.out hX (fun k hk hl h => by have q_ := hk; have hg_ := hg.out; have h_ : k = g := h; (try simp only [rng] at hk); (try simp only at hk); (try simp only at h); omega))
    have hB := Hd.mk (hB.out.trans hX)
    have hz_ := hX.size
    clear hSz0 hg_ hX
    have z1 := Hd.mk hz_; clear hz_
    cases bo
    ·have v00 : w1.cell? ⟨w.heap.size, 0, none⟩ = some (.int .i64 j.kind) := b0.out.cell 0 rfl
     have v01 : w1.cell? ⟨w.heap.size, 1, none⟩ = some (.int .i64 j.n) := b0.out.cell 1 rfl
     have v02 : w1.cell? ⟨w.heap.size, 2, none⟩ = some (.string j.s) := b0.out.cell 2 rfl
     have v03 : w1.cell? ⟨w.heap.size, 3, none⟩ = some (.slice A3 j.list.length c3) := b0.out.cell 3 rfl
     have v04 : w1.cell? ⟨w.heap.size, 4, none⟩ = some (.slice A4 j.names.length c4) := b0.out.cell 4 rfl
     have v0z := b0.out.frozen
     go_wp2_with fail
     clear v00 v01 v02 v03 v04 v0z
     refine (spec_l1Below j.list.length W0 _ g hC.out).mono ?_
     rintro e w2 ⟨x, rfl, x0, x1, _, hC1, hX⟩
     have hC := Hd.mk hC1; clear hC1
     have hSz0 := hB.out.size
     have hg_ := hg.out
     have hzw_ := hzw.out; have z1_ := z1.out
     have b0 := Hd.mk (b0.out.fr hX (fun h => by skip; (try simp only at h); omega))
     have hO := Hd.mk (Ty.O_fr hO.out hX (fun k hk hl h => by have q_ := hk; have h_ : k = g := h; have hn_ : (1 : Int) = 2 := (hSg.out (h_ ▸ q_.1)).elim; (try simp only [rng] at hk); (try simp only at hk); (try simp only at h); omega))
     have hWy := Hd.mk (R_fr hWy.out hX (fun k hk hl h => by have q_ := hk; have hg_ := hg.out; have h_ : k = g := h; (try simp only [rng] at hk); (try simp only at hk); (try simp only at h); omega))
     have hB := Hd.mk (hB.out.trans hX)
     have hz_ := hX.size
     clear hSz0 hg_ hX
     have z2 := Hd.mk hz_; clear hz_
     replace x1 := x1 hl0
     obtain ⟨p, rfl⟩ := Int.eq_ofNat_of_zero_le x0
     have hp : p < j.list.length := by omega
     obtain ⟨v00, v01, v02, v03, v04, v0z⟩ := blk5 b0.out
     go_wp2_with fail
     clear v00 v01 v02 v03 v04 v0z
     refine (spec_l2Digits (p : Int) _ (by omega) (by omega)).mono ?_
     rintro e w3 ⟨rfl, hX⟩
     have b0 := b0.dn hX
     have hO := hO.ob hX
     have hWy := Hd.mk (R_below hWy.out hX)
     have hB := Hd.mk (hB.out.trans (Fr.of_below hX _))
     have hC := Hd.mk (hC.out.below hX)
     have hz_ := hX.size
     clear hX
     have z3 := Hd.mk hz_; clear hz_
     obtain ⟨s, hs⟩ : ∃ z : ByteArray, z = ⟨(Lib.itoa (p : Int)).toArray⟩ := ⟨_, rfl⟩
     rw [← hs]
     have hs6 : s.size ≤ 60 := by rw [hs]; have h1 := itoa_len (p : Int) (by omega); show (Lib.itoa (p : Int)).toArray.size ≤ 60; simp; omega
     have HSB := Hd.mk (show s.size ≤ B + 60 by omega)
     have hs99 : s.size ≤ 1000 := by omega
     clear hs hs6
     by_cases hk5 : j.kind = 5
     ·by_cases hpn : (p : Int) < (j.names.length : Int)
      ·obtain ⟨v3, v4, T3, T4, e_, _, _, hr4, _⟩ := tJ_O.1 hO.out
       simp only [List.cons.injEq, and_true, true_and] at e_
       obtain ⟨rfl, rfl⟩ := e_
       have hpN : p < j.names.length := by omega
       obtain ⟨ad4, had4, x4, _⟩ := C_str_at (R_Cv hr4) (Below.refl _ _) p hpN
       subst had4
       have HSB2 := Hd.mk (show j.names[p].size ≤ B + 60 by have := HBN.out.names.2 _ (List.getElem_mem hpN); omega)
       clear hr4
       have hk5d : decide (j.kind = 5) = true := decide_eq_true hk5
       have hk5b : (j.kind == 5) = true := by simpa using hk5
       clear hk5
       obtain ⟨sn, hsn⟩ : ∃ z, z = j.names[p] := ⟨_, rfl⟩
       rw [← hsn] at x4 HSB2
       clear hsn
       have hsz_ := HSB2.out
       have hBB_ := HBB.out
       obtain ⟨v00, v01, v02, v03, v04, v0z⟩ := blk5 b0.out
       have hE0 := Hd.mk (show str.R 9 (w3.alloc (.cells #[.string sn] 9)) (fun k => k = w3.heap.size) (.slice (some ⟨w3.heap.size, 0, none⟩) 1 1) [sn] from R_str1 sn (by omega))
       have hzw_ := hzw.out; have z1_ := z1.out; have z2_ := z2.out; have z3_ := z3.out
       go_wp2_with (at_builtin; refine append_str rfl _ _ 25 9 (.string ByteArray.empty) 16 rfl Try.underlying25 info_str rfl (by decide) (S := fun q => (fun q => w.heap.size < q) q ∧ q < w3.heap.size) (S' := (fun q => w.heap.size < q)) (v := .slice AW n cW) (xs := way) (ys := [sn]) (A := some ⟨w3.heap.size, 0, none⟩) (c := 1) rfl rfl (R_below (R_bound hWy.out) (below_alloc (Below.refl _ _) _)) (R_Cv hE0.out) (fun q h => h.1) (fun q h => by (try simp at h); omega) (by have := HLW.out; simp; omega) (fun v2 w4 hv2 hX0 => ?_); obtain ⟨way2, hl2⟩ : ∃ z, z = way ++ [sn] := ⟨_, rfl⟩; rw [← hl2] at hv2; have HL2 := Hd.mk hl2; clear hl2; obtain ⟨A5, c5, hv2e, hc5, _⟩ := R_C hv2; subst hv2e; have hX := (Fr.of_below (below_alloc (Below.refl w3.heap.size w3) _) _).trans hX0; have hO7 := Ty.O_fr hO.out hX (fun q hq hl h => by have q_ := h.1; have q2_ := hq.2; (try simp only at q_); omega); obtain ⟨v3, v4, T3, T4, e_, _, hr3, _, t3, _⟩ := tJ_O.1 hO7; simp only [List.cons.injEq, and_true, true_and] at e_; obtain ⟨rfl, rfl⟩ := e_; obtain ⟨m, rfl⟩ : ∃ m1 : Nat, m = m1 + 1 := by { cases m with | zero => exact (R_none hr3 hp).elim | succ m => exact ⟨m, rfl⟩ }; obtain ⟨gL, capL, hgL, _, _⟩ := R_form hr3 (by omega); injection hgL with hgL _ hcL; subst hgL; subst hcL; obtain ⟨Si, A6, B6, a6, b6, hH6, hO6, _, _, ⟨y0, y1, y2, y3, y4⟩, _, _, _⟩ := R_elem5 hr3 hp; have hsub := H_sub hH6; have Yb0 := b0.out.fr hX (fun h => by have q_ := h.1; (try simp only at q_); omega); have yb0_0 := Yb0.cell 0 rfl; have yb0_1 := Yb0.cell 1 rfl; have yb0_2 := Yb0.cell 2 rfl; have yb0_3 : w4.cell? ⟨w.heap.size, 3, none⟩ = some (.slice (some ⟨gL, 0, none⟩) j.list.length c3) := Yb0.cell 3 rfl; have yb0_4 := Yb0.cell 4 rfl; have yb0_z := Yb0.frozen)
       clear v00 v01 v02 v03 v04 v0z
       go_roundw
       case rel =>
        clear Yb0 yb0_0 yb0_1 yb0_2 yb0_3 yb0_4 yb0_z y0 y1 y2 y3 y4 hX0 hE0
        have key : ∀ W, W = (((((w4.setCell ⟨w.heap.size, 0, none⟩ (Value.int IntKind.i64 j.list[p].kind)).setCell ⟨w.heap.size, 1, none⟩ (Value.int IntKind.i64 j.list[p].n)).setCell ⟨w.heap.size, 2, none⟩ (Value.string j.list[p].s)).setCell ⟨w.heap.size, 3, none⟩ (Value.slice A6 j.list[p].list.length a6)).setCell ⟨w.heap.size, 4, none⟩ (Value.slice B6 j.list[p].names.length b6)) → ∃ (k1 m : Nat) (j : J) (A3 A4 : Option Addr) (c3 c4 : Nat) (vv : Value) (way : List ByteArray), k1 ≤ 5 ∧ (Value.int IntKind.i64 ((k : Int) + 1) : Value) = .int .i64 k1 ∧ vv = .slice A5 way2.length c5 ∧ Hd (way.length = k1) ∧ Hd (∀ s ∈ way, s.size ≤ B + 60) ∧ Hd (Bnd B j) ∧ Hd (Blk W w.heap.size #[.int .i64 j.kind, .int .i64 j.n, .string j.s, .slice A3 j.list.length c3, .slice A4 j.names.length c4] 27) ∧ Hd ((tJ (m + 1)).O W (fun q => S q ∧ q < w.heap.size) j [Value.int IntKind.i64 j.kind, .int .i64 j.n, .string j.s, .slice A3 j.list.length c3, .slice A4 j.names.length c4]) ∧ Hd (str.R 9 W (fun q => w.heap.size < q) vv way) ∧ Hd (Cur W0 W g) ∧ Hd (Fr w W (fun k => k = g)) ∧ Hd (w.heap.size + 2 ≤ W.heap.size) := by
         intro W hW
         have hO := Hd.mk (show (tJ (m + 1)).O w4 (fun q => S q ∧ q < w.heap.size) j.list[p] _ from Ty.O_mono _ (fun q h => (t3 q (hsub q h))) hO6)
         have hWy := Hd.mk (R_bound hv2)
         clear hv2 hO7 hr3 hH6 hO6
         have hzw_ := hzw.out; have z1_ := z1.out; have z2_ := z2.out; have z3_ := z3.out
         have hSz := hB.out.size
         have b0 := Hd.mk (b0.out.fr hX (fun h => by have hlt_ := b0.out.lt; have hh_ := h.1; (try simp only [rng] at h); (try simp only at h); omega))
         have hC := Hd.mk (hC.out.fr hX (fun h => by have hg_ := hg.out; have hlt_ := hC.out.lt; have hh_ := h.1; (try simp only [rng] at h); (try simp only at h); omega) (fun k h => by have hg_ := hg.out; have hge_ := hC.out.ge; have hh_ := h.1; (try simp only [rng] at h); (try simp only at h); omega))
         have hB := Hd.mk (hB.out.then_ hX (fun k h hl => by have hh_ := h.1; (try simp only [rng] at h); (try simp only at h); omega))
         have hz_ := hX.size
         clear hX
         have z4 := Hd.mk hz_; clear hz_
         have hz_ : w4.heap.size ≤ W.heap.size := by rw [hW]; simp
         have eF : Fr w4 W (fun k => k = w.heap.size ∨ w4.heap.size ≤ k) := by rw [hW]; (repeat (first | with_reducible refine Fr.setCell ?_ _ (fun _ => by simp <;> omega) _ | with_reducible refine Fr.alloc ?_ _ | with_reducible refine Fr.drew ?_)); exact Fr.refl _ _
         have hzw_ := hzw.out; have z1_ := z1.out; have z2_ := z2.out; have z3_ := z3.out; have z4_ := z4.out
         have hC := Hd.mk (hC.out.fr eF (fun h => by have hg_ := hg.out; have hlt_ := hC.out.lt; (try simp only [rng] at h); (try simp only at h); omega) (fun k h => by have hg_ := hg.out; have hge_ := hC.out.ge; (try simp only [rng] at h); (try simp only at h); omega))
         have hB := Hd.mk (hB.out.then_ eF (fun k h hl => by (try simp only [rng] at h); (try simp only at h); omega))
         have b0 := Hd.mk (show Blk W (w.heap.size) #[.int .i64 j.list[p].kind, .int .i64 j.list[p].n, .string j.list[p].s, .slice A6 j.list[p].list.length a6, .slice B6 j.list[p].names.length b6] 27 by rw [hW]; exact (Blk.all b0.out [Value.int IntKind.i64 j.list[p].kind, .int .i64 j.list[p].n, .string j.list[p].s, .slice A6 j.list[p].list.length a6, .slice B6 j.list[p].names.length b6] rfl))
         have hO := Hd.mk (Ty.O_fr hO.out eF (fun k hk hl h => by have q_ := hk.2; (try simp only [rng] at hk); (try simp only at hk); (try simp only at h); omega))
         have hWy := Hd.mk (R_fr hWy.out eF (fun k hk hl h => by have q_ := hk.1; (try simp only [rng] at hk); (try simp only at hk); (try simp only at h); omega))
         clear hW eF
         have z5 := Hd.mk hz_; clear hz_
         exact ⟨k + 1, m, j.list[p], _, _, _, _, _, way2, by omega, by go_num, rfl, ⟨by rw [HL2.out, List.length_append, HLW.out, HNK.out]; rfl⟩, ⟨fun s hs => by rw [HL2.out] at hs; rcases List.mem_append.1 hs with hs | hs; exact HWS.out s hs; rw [List.mem_singleton.1 hs]; exact hsz_⟩, ⟨HBN.out.elem (List.getElem_mem hp)⟩, b0, hO, ⟨R_mono (fun q h => h.1) hWy.out⟩, hC, hB, ⟨by have hzw_ := hzw.out; have z1_ := z1.out; have z2_ := z2.out; have z3_ := z3.out; have z4_ := z4.out; have z5_ := z5.out; omega⟩⟩
        exact key _ rfl
       case measure => simp [intOf]; omega
      ·have hpd : decide ((p : Int) < (j.names.length : Int)) = false := decide_eq_false hpn
       have hk5d : decide (j.kind = 5) = true := decide_eq_true hk5
       have hk5b : (j.kind == 5) = true := by simpa using hk5
       clear hk5
       have hsz_ := HSB.out
       have hBB_ := HBB.out
       obtain ⟨v00, v01, v02, v03, v04, v0z⟩ := blk5 b0.out
       have hE0 := Hd.mk (show str.R 9 (w3.alloc (.cells #[.string s] 9)) (fun k => k = w3.heap.size) (.slice (some ⟨w3.heap.size, 0, none⟩) 1 1) [s] from R_str1 s (by omega))
       have hzw_ := hzw.out; have z1_ := z1.out; have z2_ := z2.out; have z3_ := z3.out
       go_wp2_with (at_builtin; refine append_str rfl _ _ 25 9 (.string ByteArray.empty) 16 rfl Try.underlying25 info_str rfl (by decide) (S := fun q => (fun q => w.heap.size < q) q ∧ q < w3.heap.size) (S' := (fun q => w.heap.size < q)) (v := .slice AW n cW) (xs := way) (ys := [s]) (A := some ⟨w3.heap.size, 0, none⟩) (c := 1) rfl rfl (R_below (R_bound hWy.out) (below_alloc (Below.refl _ _) _)) (R_Cv hE0.out) (fun q h => h.1) (fun q h => by (try simp at h); omega) (by have := HLW.out; simp; omega) (fun v2 w4 hv2 hX0 => ?_); obtain ⟨way2, hl2⟩ : ∃ z, z = way ++ [s] := ⟨_, rfl⟩; rw [← hl2] at hv2; have HL2 := Hd.mk hl2; clear hl2; obtain ⟨A5, c5, hv2e, hc5, _⟩ := R_C hv2; subst hv2e; have hX := (Fr.of_below (below_alloc (Below.refl w3.heap.size w3) _) _).trans hX0; have hO7 := Ty.O_fr hO.out hX (fun q hq hl h => by have q_ := h.1; have q2_ := hq.2; (try simp only at q_); omega); obtain ⟨v3, v4, T3, T4, e_, _, hr3, _, t3, _⟩ := tJ_O.1 hO7; simp only [List.cons.injEq, and_true, true_and] at e_; obtain ⟨rfl, rfl⟩ := e_; obtain ⟨m, rfl⟩ : ∃ m1 : Nat, m = m1 + 1 := by { cases m with | zero => exact (R_none hr3 hp).elim | succ m => exact ⟨m, rfl⟩ }; obtain ⟨gL, capL, hgL, _, _⟩ := R_form hr3 (by omega); injection hgL with hgL _ hcL; subst hgL; subst hcL; obtain ⟨Si, A6, B6, a6, b6, hH6, hO6, _, _, ⟨y0, y1, y2, y3, y4⟩, _, _, _⟩ := R_elem5 hr3 hp; have hsub := H_sub hH6; have Yb0 := b0.out.fr hX (fun h => by have q_ := h.1; (try simp only at q_); omega); have yb0_0 := Yb0.cell 0 rfl; have yb0_1 := Yb0.cell 1 rfl; have yb0_2 := Yb0.cell 2 rfl; have yb0_3 : w4.cell? ⟨w.heap.size, 3, none⟩ = some (.slice (some ⟨gL, 0, none⟩) j.list.length c3) := Yb0.cell 3 rfl; have yb0_4 := Yb0.cell 4 rfl; have yb0_z := Yb0.frozen)
       clear v00 v01 v02 v03 v04 v0z
       go_roundw
       case rel =>
        clear Yb0 yb0_0 yb0_1 yb0_2 yb0_3 yb0_4 yb0_z y0 y1 y2 y3 y4 hX0 hE0
        have key : ∀ W, W = (((((w4.setCell ⟨w.heap.size, 0, none⟩ (Value.int IntKind.i64 j.list[p].kind)).setCell ⟨w.heap.size, 1, none⟩ (Value.int IntKind.i64 j.list[p].n)).setCell ⟨w.heap.size, 2, none⟩ (Value.string j.list[p].s)).setCell ⟨w.heap.size, 3, none⟩ (Value.slice A6 j.list[p].list.length a6)).setCell ⟨w.heap.size, 4, none⟩ (Value.slice B6 j.list[p].names.length b6)) → ∃ (k1 m : Nat) (j : J) (A3 A4 : Option Addr) (c3 c4 : Nat) (vv : Value) (way : List ByteArray), k1 ≤ 5 ∧ (Value.int IntKind.i64 ((k : Int) + 1) : Value) = .int .i64 k1 ∧ vv = .slice A5 way2.length c5 ∧ Hd (way.length = k1) ∧ Hd (∀ s ∈ way, s.size ≤ B + 60) ∧ Hd (Bnd B j) ∧ Hd (Blk W w.heap.size #[.int .i64 j.kind, .int .i64 j.n, .string j.s, .slice A3 j.list.length c3, .slice A4 j.names.length c4] 27) ∧ Hd ((tJ (m + 1)).O W (fun q => S q ∧ q < w.heap.size) j [Value.int IntKind.i64 j.kind, .int .i64 j.n, .string j.s, .slice A3 j.list.length c3, .slice A4 j.names.length c4]) ∧ Hd (str.R 9 W (fun q => w.heap.size < q) vv way) ∧ Hd (Cur W0 W g) ∧ Hd (Fr w W (fun k => k = g)) ∧ Hd (w.heap.size + 2 ≤ W.heap.size) := by
         intro W hW
         have hO := Hd.mk (show (tJ (m + 1)).O w4 (fun q => S q ∧ q < w.heap.size) j.list[p] _ from Ty.O_mono _ (fun q h => (t3 q (hsub q h))) hO6)
         have hWy := Hd.mk (R_bound hv2)
         clear hv2 hO7 hr3 hH6 hO6
         have hzw_ := hzw.out; have z1_ := z1.out; have z2_ := z2.out; have z3_ := z3.out
         have hSz := hB.out.size
         have b0 := Hd.mk (b0.out.fr hX (fun h => by have hlt_ := b0.out.lt; have hh_ := h.1; (try simp only [rng] at h); (try simp only at h); omega))
         have hC := Hd.mk (hC.out.fr hX (fun h => by have hg_ := hg.out; have hlt_ := hC.out.lt; have hh_ := h.1; (try simp only [rng] at h); (try simp only at h); omega) (fun k h => by have hg_ := hg.out; have hge_ := hC.out.ge; have hh_ := h.1; (try simp only [rng] at h); (try simp only at h); omega))
         have hB := Hd.mk (hB.out.then_ hX (fun k h hl => by have hh_ := h.1; (try simp only [rng] at h); (try simp only at h); omega))
         have hz_ := hX.size
         clear hX
         have z4 := Hd.mk hz_; clear hz_
         have hz_ : w4.heap.size ≤ W.heap.size := by rw [hW]; simp
         have eF : Fr w4 W (fun k => k = w.heap.size ∨ w4.heap.size ≤ k) := by rw [hW]; (repeat (first | with_reducible refine Fr.setCell ?_ _ (fun _ => by simp <;> omega) _ | with_reducible refine Fr.alloc ?_ _ | with_reducible refine Fr.drew ?_)); exact Fr.refl _ _
         have hzw_ := hzw.out; have z1_ := z1.out; have z2_ := z2.out; have z3_ := z3.out; have z4_ := z4.out
         have hC := Hd.mk (hC.out.fr eF (fun h => by have hg_ := hg.out; have hlt_ := hC.out.lt; (try simp only [rng] at h); (try simp only at h); omega) (fun k h => by have hg_ := hg.out; have hge_ := hC.out.ge; (try simp only [rng] at h); (try simp only at h); omega))
         have hB := Hd.mk (hB.out.then_ eF (fun k h hl => by (try simp only [rng] at h); (try simp only at h); omega))
         have b0 := Hd.mk (show Blk W (w.heap.size) #[.int .i64 j.list[p].kind, .int .i64 j.list[p].n, .string j.list[p].s, .slice A6 j.list[p].list.length a6, .slice B6 j.list[p].names.length b6] 27 by rw [hW]; exact (Blk.all b0.out [Value.int IntKind.i64 j.list[p].kind, .int .i64 j.list[p].n, .string j.list[p].s, .slice A6 j.list[p].list.length a6, .slice B6 j.list[p].names.length b6] rfl))
         have hO := Hd.mk (Ty.O_fr hO.out eF (fun k hk hl h => by have q_ := hk.2; (try simp only [rng] at hk); (try simp only at hk); (try simp only at h); omega))
         have hWy := Hd.mk (R_fr hWy.out eF (fun k hk hl h => by have q_ := hk.1; (try simp only [rng] at hk); (try simp only at hk); (try simp only at h); omega))
         clear hW eF
         have z5 := Hd.mk hz_; clear hz_
         exact ⟨k + 1, m, j.list[p], _, _, _, _, _, way2, by omega, by go_num, rfl, ⟨by rw [HL2.out, List.length_append, HLW.out, HNK.out]; rfl⟩, ⟨fun s hs => by rw [HL2.out] at hs; rcases List.mem_append.1 hs with hs | hs; exact HWS.out s hs; rw [List.mem_singleton.1 hs]; exact hsz_⟩, ⟨HBN.out.elem (List.getElem_mem hp)⟩, b0, hO, ⟨R_mono (fun q h => h.1) hWy.out⟩, hC, hB, ⟨by have hzw_ := hzw.out; have z1_ := z1.out; have z2_ := z2.out; have z3_ := z3.out; have z4_ := z4.out; have z5_ := z5.out; omega⟩⟩
        exact key _ rfl
       case measure => simp [intOf]; omega
     ·have hk5d : decide (j.kind = 5) = false := decide_eq_false hk5
      have hk5b : (j.kind == 5) = false := by simpa using hk5
      clear hk5
      have hsz_ := HSB.out
      have hBB_ := HBB.out
      obtain ⟨v00, v01, v02, v03, v04, v0z⟩ := blk5 b0.out
      have hE0 := Hd.mk (show str.R 9 (w3.alloc (.cells #[.string s] 9)) (fun k => k = w3.heap.size) (.slice (some ⟨w3.heap.size, 0, none⟩) 1 1) [s] from R_str1 s (by omega))
      have hzw_ := hzw.out; have z1_ := z1.out; have z2_ := z2.out; have z3_ := z3.out
      go_wp2_with (at_builtin; refine append_str rfl _ _ 25 9 (.string ByteArray.empty) 16 rfl Try.underlying25 info_str rfl (by decide) (S := fun q => (fun q => w.heap.size < q) q ∧ q < w3.heap.size) (S' := (fun q => w.heap.size < q)) (v := .slice AW n cW) (xs := way) (ys := [s]) (A := some ⟨w3.heap.size, 0, none⟩) (c := 1) rfl rfl (R_below (R_bound hWy.out) (below_alloc (Below.refl _ _) _)) (R_Cv hE0.out) (fun q h => h.1) (fun q h => by (try simp at h); omega) (by have := HLW.out; simp; omega) (fun v2 w4 hv2 hX0 => ?_); obtain ⟨way2, hl2⟩ : ∃ z, z = way ++ [s] := ⟨_, rfl⟩; rw [← hl2] at hv2; have HL2 := Hd.mk hl2; clear hl2; obtain ⟨A5, c5, hv2e, hc5, _⟩ := R_C hv2; subst hv2e; have hX := (Fr.of_below (below_alloc (Below.refl w3.heap.size w3) _) _).trans hX0; have hO7 := Ty.O_fr hO.out hX (fun q hq hl h => by have q_ := h.1; have q2_ := hq.2; (try simp only at q_); omega); obtain ⟨v3, v4, T3, T4, e_, _, hr3, _, t3, _⟩ := tJ_O.1 hO7; simp only [List.cons.injEq, and_true, true_and] at e_; obtain ⟨rfl, rfl⟩ := e_; obtain ⟨m, rfl⟩ : ∃ m1 : Nat, m = m1 + 1 := by { cases m with | zero => exact (R_none hr3 hp).elim | succ m => exact ⟨m, rfl⟩ }; obtain ⟨gL, capL, hgL, _, _⟩ := R_form hr3 (by omega); injection hgL with hgL _ hcL; subst hgL; subst hcL; obtain ⟨Si, A6, B6, a6, b6, hH6, hO6, _, _, ⟨y0, y1, y2, y3, y4⟩, _, _, _⟩ := R_elem5 hr3 hp; have hsub := H_sub hH6; have Yb0 := b0.out.fr hX (fun h => by have q_ := h.1; (try simp only at q_); omega); have yb0_0 := Yb0.cell 0 rfl; have yb0_1 := Yb0.cell 1 rfl; have yb0_2 := Yb0.cell 2 rfl; have yb0_3 : w4.cell? ⟨w.heap.size, 3, none⟩ = some (.slice (some ⟨gL, 0, none⟩) j.list.length c3) := Yb0.cell 3 rfl; have yb0_4 := Yb0.cell 4 rfl; have yb0_z := Yb0.frozen)
      clear v00 v01 v02 v03 v04 v0z
      go_roundw
      case rel =>
       clear Yb0 yb0_0 yb0_1 yb0_2 yb0_3 yb0_4 yb0_z y0 y1 y2 y3 y4 hX0 hE0
       have key : ∀ W, W = (((((w4.setCell ⟨w.heap.size, 0, none⟩ (Value.int IntKind.i64 j.list[p].kind)).setCell ⟨w.heap.size, 1, none⟩ (Value.int IntKind.i64 j.list[p].n)).setCell ⟨w.heap.size, 2, none⟩ (Value.string j.list[p].s)).setCell ⟨w.heap.size, 3, none⟩ (Value.slice A6 j.list[p].list.length a6)).setCell ⟨w.heap.size, 4, none⟩ (Value.slice B6 j.list[p].names.length b6)) → ∃ (k1 m : Nat) (j : J) (A3 A4 : Option Addr) (c3 c4 : Nat) (vv : Value) (way : List ByteArray), k1 ≤ 5 ∧ (Value.int IntKind.i64 ((k : Int) + 1) : Value) = .int .i64 k1 ∧ vv = .slice A5 way2.length c5 ∧ Hd (way.length = k1) ∧ Hd (∀ s ∈ way, s.size ≤ B + 60) ∧ Hd (Bnd B j) ∧ Hd (Blk W w.heap.size #[.int .i64 j.kind, .int .i64 j.n, .string j.s, .slice A3 j.list.length c3, .slice A4 j.names.length c4] 27) ∧ Hd ((tJ (m + 1)).O W (fun q => S q ∧ q < w.heap.size) j [Value.int IntKind.i64 j.kind, .int .i64 j.n, .string j.s, .slice A3 j.list.length c3, .slice A4 j.names.length c4]) ∧ Hd (str.R 9 W (fun q => w.heap.size < q) vv way) ∧ Hd (Cur W0 W g) ∧ Hd (Fr w W (fun k => k = g)) ∧ Hd (w.heap.size + 2 ≤ W.heap.size) := by
        intro W hW
        have hO := Hd.mk (show (tJ (m + 1)).O w4 (fun q => S q ∧ q < w.heap.size) j.list[p] _ from Ty.O_mono _ (fun q h => (t3 q (hsub q h))) hO6)
        have hWy := Hd.mk (R_bound hv2)
        clear hv2 hO7 hr3 hH6 hO6
        have hzw_ := hzw.out; have z1_ := z1.out; have z2_ := z2.out; have z3_ := z3.out
        have hSz := hB.out.size
        have b0 := Hd.mk (b0.out.fr hX (fun h => by have hlt_ := b0.out.lt; have hh_ := h.1; (try simp only [rng] at h); (try simp only at h); omega))
        have hC := Hd.mk (hC.out.fr hX (fun h => by have hg_ := hg.out; have hlt_ := hC.out.lt; have hh_ := h.1; (try simp only [rng] at h); (try simp only at h); omega) (fun k h => by have hg_ := hg.out; have hge_ := hC.out.ge; have hh_ := h.1; (try simp only [rng] at h); (try simp only at h); omega))
        have hB := Hd.mk (hB.out.then_ hX (fun k h hl => by have hh_ := h.1; (try simp only [rng] at h); (try simp only at h); omega))
        have hz_ := hX.size
        clear hX
        have z4 := Hd.mk hz_; clear hz_
        have hz_ : w4.heap.size ≤ W.heap.size := by rw [hW]; simp
        have eF : Fr w4 W (fun k => k = w.heap.size ∨ w4.heap.size ≤ k) := by rw [hW]; (repeat (first | with_reducible refine Fr.setCell ?_ _ (fun _ => by simp <;> omega) _ | with_reducible refine Fr.alloc ?_ _ | with_reducible refine Fr.drew ?_)); exact Fr.refl _ _
        have hzw_ := hzw.out; have z1_ := z1.out; have z2_ := z2.out; have z3_ := z3.out; have z4_ := z4.out
        have hC := Hd.mk (hC.out.fr eF (fun h => by have hg_ := hg.out; have hlt_ := hC.out.lt; (try simp only [rng] at h); (try simp only at h); omega) (fun k h => by have hg_ := hg.out; have hge_ := hC.out.ge; (try simp only [rng] at h); (try simp only at h); omega))
        have hB := Hd.mk (hB.out.then_ eF (fun k h hl => by (try simp only [rng] at h); (try simp only at h); omega))
        have b0 := Hd.mk (show Blk W (w.heap.size) #[.int .i64 j.list[p].kind, .int .i64 j.list[p].n, .string j.list[p].s, .slice A6 j.list[p].list.length a6, .slice B6 j.list[p].names.length b6] 27 by rw [hW]; exact (Blk.all b0.out [Value.int IntKind.i64 j.list[p].kind, .int .i64 j.list[p].n, .string j.list[p].s, .slice A6 j.list[p].list.length a6, .slice B6 j.list[p].names.length b6] rfl))
        have hO := Hd.mk (Ty.O_fr hO.out eF (fun k hk hl h => by have q_ := hk.2; (try simp only [rng] at hk); (try simp only at hk); (try simp only at h); omega))
        have hWy := Hd.mk (R_fr hWy.out eF (fun k hk hl h => by have q_ := hk.1; (try simp only [rng] at hk); (try simp only at hk); (try simp only at h); omega))
        clear hW eF
        have z5 := Hd.mk hz_; clear hz_
        exact ⟨k + 1, m, j.list[p], _, _, _, _, _, way2, by omega, by go_num, rfl, ⟨by rw [HL2.out, List.length_append, HLW.out, HNK.out]; rfl⟩, ⟨fun s hs => by rw [HL2.out] at hs; rcases List.mem_append.1 hs with hs | hs; exact HWS.out s hs; rw [List.mem_singleton.1 hs]; exact hsz_⟩, ⟨HBN.out.elem (List.getElem_mem hp)⟩, b0, hO, ⟨R_mono (fun q h => h.1) hWy.out⟩, hC, hB, ⟨by have hzw_ := hzw.out; have z1_ := z1.out; have z2_ := z2.out; have z3_ := z3.out; have z4_ := z4.out; have z5_ := z5.out; omega⟩⟩
       exact key _ rfl
      case measure => simp [intOf]; omega
    ·go_wp2_with fail
     refine (spec_l1Once 5 W0 _ g hC.out).mono ?_
     rintro e w2 ⟨bo, rfl, hC1, hX⟩
     have hC := Hd.mk hC1; clear hC1
     have hSz0 := hB.out.size
     have hg_ := hg.out
     have hzw_ := hzw.out; have z1_ := z1.out
     have b0 := Hd.mk (b0.out.fr hX (fun h => by skip; (try simp only at h); omega))
     have hO := Hd.mk (Ty.O_fr hO.out hX (fun k hk hl h => by have q_ := hk; have h_ : k = g := h; have hn_ : (1 : Int) = 2 := (hSg.out (h_ ▸ q_.1)).elim; (try simp only [rng] at hk); (try simp only at hk); (try simp only at h); omega))
     have hWy := Hd.mk (R_fr hWy.out hX (fun k hk hl h => by have q_ := hk; have hg_ := hg.out; have h_ : k = g := h; (try simp only [rng] at hk); (try simp only at hk); (try simp only at h); omega))
     have hB := Hd.mk (hB.out.trans hX)
     have hz_ := hX.size
     clear hSz0 hg_ hX
     have z2 := Hd.mk hz_; clear hz_
     cases bo
     ·have v00 : w2.cell? ⟨w.heap.size, 0, none⟩ = some (.int .i64 j.kind) := b0.out.cell 0 rfl
      have v01 : w2.cell? ⟨w.heap.size, 1, none⟩ = some (.int .i64 j.n) := b0.out.cell 1 rfl
      have v02 : w2.cell? ⟨w.heap.size, 2, none⟩ = some (.string j.s) := b0.out.cell 2 rfl
      have v03 : w2.cell? ⟨w.heap.size, 3, none⟩ = some (.slice A3 j.list.length c3) := b0.out.cell 3 rfl
      have v04 : w2.cell? ⟨w.heap.size, 4, none⟩ = some (.slice A4 j.names.length c4) := b0.out.cell 4 rfl
      have v0z := b0.out.frozen
      go_wp2_with fail
      clear v00 v01 v02 v03 v04 v0z
      go_ret
      exact ⟨_, way, rfl, R_mono (fun q h => Nat.le_of_lt h) hWy.out, by have := HLW.out; omega, HWS.out, hC.out, hB.out⟩
     ·have v00 : w2.cell? ⟨w.heap.size, 0, none⟩ = some (.int .i64 j.kind) := b0.out.cell 0 rfl
      have v01 : w2.cell? ⟨w.heap.size, 1, none⟩ = some (.int .i64 j.n) := b0.out.cell 1 rfl
      have v02 : w2.cell? ⟨w.heap.size, 2, none⟩ = some (.string j.s) := b0.out.cell 2 rfl
      have v03 : w2.cell? ⟨w.heap.size, 3, none⟩ = some (.slice A3 j.list.length c3) := b0.out.cell 3 rfl
      have v04 : w2.cell? ⟨w.heap.size, 4, none⟩ = some (.slice A4 j.names.length c4) := b0.out.cell 4 rfl
      have v0z := b0.out.frozen
      go_wp2_with fail
      clear v00 v01 v02 v03 v04 v0z
      apply calls_gen; intro W3 hW
      have hE0 := Hd.mk (show str.R 9 W3 (fun k => k = w2.heap.size) (.slice (some ⟨w2.heap.size, 0, none⟩) 7 7) drawWays by rw [hW]; exact R_strs (W0 := w2) drawWays (by decide) (by decide))
      have hz_ : w2.heap.size + 1 ≤ W3.heap.size := by rw [hW]; simp
      have hE : Below w2.heap.size w2 W3 := by rw [hW]; (repeat (first | with_reducible refine below_alloc ?_ _ | with_reducible refine below_drew ?_)); exact Below.refl _ _
      have hB := Hd.mk (hB.out.trans (Fr.of_below hE _))
      have hC := Hd.mk (hC.out.below hE)
      have b0 := b0.dn hE
      have hO := hO.ob hE
      have hWy := Hd.mk (R_below hWy.out hE)
      clear hW hE
      have z3 := Hd.mk hz_; clear hz_
      have hEg := Hd.mk (show ¬ (fun k => k = w2.heap.size) g by have hg_ := hg.out; have hSz_ := hB.out.size; have hzw_ := hzw.out; have z1_ := z1.out; have z2_ := z2.out; have z3_ := z3.out; (try simp only); omega)
      refine (spec_l1Pick _ _ _ drawWays W0 _ g hE0.out hEg.out rfl (by decide) (by decide) hC.out).mono ?_
      rintro e w4 ⟨u, rfl, hu, hC1, hX⟩
      have hC := Hd.mk hC1; clear hC1
      have hSz0 := hB.out.size
      have hg_ := hg.out
      have hzw_ := hzw.out; have z1_ := z1.out; have z2_ := z2.out; have z3_ := z3.out
      have b0 := Hd.mk (b0.out.fr hX (fun h => by skip; (try simp only at h); omega))
      have hO := Hd.mk (Ty.O_fr hO.out hX (fun k hk hl h => by have q_ := hk; have h_ : k = g := h; have hn_ : (1 : Int) = 2 := (hSg.out (h_ ▸ q_.1)).elim; (try simp only [rng] at hk); (try simp only at hk); (try simp only at h); omega))
      have hWy := Hd.mk (R_fr hWy.out hX (fun k hk hl h => by have q_ := hk; have hg_ := hg.out; have h_ : k = g := h; (try simp only [rng] at hk); (try simp only at hk); (try simp only at h); omega))
      have hB := Hd.mk (hB.out.trans hX)
      have hz_ := hX.size
      clear hSz0 hg_ hX
      have z4 := Hd.mk hz_; clear hz_
      clear hE0 hEg
      have hu6 : u.size ≤ 60 := (show ∀ s ∈ drawWays, s.size ≤ 60 by decide) u hu
      clear hu
      have hE0 := Hd.mk (R_strs (W0 := w4) [u] (by simp) (fun s_ h_ => by rw [List.mem_singleton.1 h_]; omega))
      simp only [List.map_cons, List.map_nil, List.length_cons, List.length_nil] at hE0
      have hzw_ := hzw.out; have z1_ := z1.out; have z2_ := z2.out; have z3_ := z3.out; have z4_ := z4.out
      go_wp2_with (at_builtin; refine append_str rfl _ _ 25 9 (.string ByteArray.empty) 16 rfl Try.underlying25 info_str rfl (by decide) (S := fun q => (fun q => w.heap.size < q) q ∧ q < w4.heap.size) (S' := (fun q => w.heap.size < q)) (v := .slice AW n cW) (xs := way) (ys := [u]) (A := some ⟨w4.heap.size, 0, none⟩) (c := 1) rfl rfl (R_below (R_bound hWy.out) (below_alloc (Below.refl _ _) _)) (R_Cv hE0.out) (fun q h => h.1) (fun q h => by (try simp at h); omega) (by have := HLW.out; simp; omega) (fun v2 w5 hv2 hX0 => ?_); obtain ⟨way2, hl2⟩ : ∃ z, z = way ++ [u] := ⟨_, rfl⟩; rw [← hl2] at hv2; have HL2 := Hd.mk hl2; clear hl2; obtain ⟨A5, c5, hv2e, hc5, _⟩ := R_C hv2; subst hv2e; have hX := (Fr.of_below (below_alloc (Below.refl w4.heap.size w4) _) _).trans hX0)
      go_ret
      have key : str.R 9 w5 (fun k => w.heap.size ≤ k) (.slice A5 way2.length c5) way2 ∧ way2.length ≤ 6 ∧ (∀ s ∈ way2, s.size ≤ B + 60) ∧ Cur W0 w5 g ∧ Fr w w5 (fun k => k = g) := by
       refine ⟨R_mono (fun q h => Nat.le_of_lt h) hv2, ?_, ?_, hC.out.fr hX (fun h => by have h1 := h.1; have hg_ := hg.out; (try simp only at h1); omega) (fun k h => by have h1 := h.1; have hge_ := hC.out.ge; have hg_ := hg.out; (try simp only at h1); omega), hB.out.then_ hX (fun k h hl => by have h1 := h.1; (try simp only at h1); omega)⟩
       ·rw [HL2.out, List.length_append]; have := HLW.out; simp; omega
       ·intro s hs; rw [HL2.out] at hs; rcases List.mem_append.1 hs with hs | hs; exact HWS.out s hs; rw [List.mem_singleton.1 hs]; omega
      first | exact ⟨_, way2, rfl, key⟩ | exact ⟨_, rfl, way2, key⟩
   ·have hl00 : j.list.length = 0 := by omega
    have hd0 : decide ((0 : Int) < (j.list.length : Int)) = false := decide_eq_false hl0
    obtain ⟨v00, v01, v02, v03, v04, v0z⟩ := blk5 b0.out
    go_wp2_with fail
    refine (spec_l1Once 5 W0 _ g hC.out).mono ?_
    rintro e w1 ⟨bo, rfl, hC1, hX⟩
    have hC := Hd.mk hC1; clear hC1
    have hSz0 := hB.out.size
    have hg_ := hg.out
    have hzw_ := hzw.out
    have b0 := Hd.mk (b0.out.fr hX (fun h => by skip; (try simp only at h); omega))
    have hO := Hd.mk (Ty.O_fr hO.out hX (fun k hk hl h => by have q_ := hk; have h_ : k = g := h; have hn_ : (1 : Int) = 2 := (hSg.out (h_ ▸ q_.1)).elim; (try simp only [rng] at hk); (try simp only at hk); (try simp only at h); omega))
    have hWy := Hd.mk (R_fr hWy.out hX (fun k hk hl h => by have q_ := hk; have hg_ := hg.out; have h_ : k = g := h; (try simp only [rng] at hk); (try simp only at hk); (try simp only at h); omega))
    have hB := Hd.mk (hB.out.trans hX)
    have hz_ := hX.size
    clear hSz0 hg_ hX
    have z1 := Hd.mk hz_; clear hz_
    cases bo
    ·have v00 : w1.cell? ⟨w.heap.size, 0, none⟩ = some (.int .i64 j.kind) := b0.out.cell 0 rfl
     have v01 : w1.cell? ⟨w.heap.size, 1, none⟩ = some (.int .i64 j.n) := b0.out.cell 1 rfl
     have v02 : w1.cell? ⟨w.heap.size, 2, none⟩ = some (.string j.s) := b0.out.cell 2 rfl
     have v03 : w1.cell? ⟨w.heap.size, 3, none⟩ = some (.slice A3 j.list.length c3) := b0.out.cell 3 rfl
     have v04 : w1.cell? ⟨w.heap.size, 4, none⟩ = some (.slice A4 j.names.length c4) := b0.out.cell 4 rfl
     have v0z := b0.out.frozen
     go_wp2_with fail
     clear v00 v01 v02 v03 v04 v0z
     go_ret
     exact ⟨_, way, rfl, R_mono (fun q h => Nat.le_of_lt h) hWy.out, by have := HLW.out; omega, HWS.out, hC.out, hB.out⟩
    ·have v00 : w1.cell? ⟨w.heap.size, 0, none⟩ = some (.int .i64 j.kind) := b0.out.cell 0 rfl
     have v01 : w1.cell? ⟨w.heap.size, 1, none⟩ = some (.int .i64 j.n) := b0.out.cell 1 rfl
     have v02 : w1.cell? ⟨w.heap.size, 2, none⟩ = some (.string j.s) := b0.out.cell 2 rfl
     have v03 : w1.cell? ⟨w.heap.size, 3, none⟩ = some (.slice A3 j.list.length c3) := b0.out.cell 3 rfl
     have v04 : w1.cell? ⟨w.heap.size, 4, none⟩ = some (.slice A4 j.names.length c4) := b0.out.cell 4 rfl
     have v0z := b0.out.frozen
     go_wp2_with fail
     clear v00 v01 v02 v03 v04 v0z
     apply calls_gen; intro W2 hW
     have hE0 := Hd.mk (show str.R 9 W2 (fun k => k = w1.heap.size) (.slice (some ⟨w1.heap.size, 0, none⟩) 7 7) drawWays by rw [hW]; exact R_strs (W0 := w1) drawWays (by decide) (by decide))
     have hz_ : w1.heap.size + 1 ≤ W2.heap.size := by rw [hW]; simp
     have hE : Below w1.heap.size w1 W2 := by rw [hW]; (repeat (first | with_reducible refine below_alloc ?_ _ | with_reducible refine below_drew ?_)); exact Below.refl _ _
     have hB := Hd.mk (hB.out.trans (Fr.of_below hE _))
     have hC := Hd.mk (hC.out.below hE)
     have b0 := b0.dn hE
     have hO := hO.ob hE
     have hWy := Hd.mk (R_below hWy.out hE)
     clear hW hE
     have z2 := Hd.mk hz_; clear hz_
     have hEg := Hd.mk (show ¬ (fun k => k = w1.heap.size) g by have hg_ := hg.out; have hSz_ := hB.out.size; have hzw_ := hzw.out; have z1_ := z1.out; have z2_ := z2.out; (try simp only); omega)
     refine (spec_l1Pick _ _ _ drawWays W0 _ g hE0.out hEg.out rfl (by decide) (by decide) hC.out).mono ?_
     rintro e w3 ⟨u, rfl, hu, hC1, hX⟩
     have hC := Hd.mk hC1; clear hC1
     have hSz0 := hB.out.size
     have hg_ := hg.out
     have hzw_ := hzw.out; have z1_ := z1.out; have z2_ := z2.out
     have b0 := Hd.mk (b0.out.fr hX (fun h => by skip; (try simp only at h); omega))
     have hO := Hd.mk (Ty.O_fr hO.out hX (fun k hk hl h => by have q_ := hk; have h_ : k = g := h; have hn_ : (1 : Int) = 2 := (hSg.out (h_ ▸ q_.1)).elim; (try simp only [rng] at hk); (try simp only at hk); (try simp only at h); omega))
     have hWy := Hd.mk (R_fr hWy.out hX (fun k hk hl h => by have q_ := hk; have hg_ := hg.out; have h_ : k = g := h; (try simp only [rng] at hk); (try simp only at hk); (try simp only at h); omega))
     have hB := Hd.mk (hB.out.trans hX)
     have hz_ := hX.size
     clear hSz0 hg_ hX
     have z3 := Hd.mk hz_; clear hz_
     clear hE0 hEg
     have hu6 : u.size ≤ 60 := (show ∀ s ∈ drawWays, s.size ≤ 60 by decide) u hu
     clear hu
     have hE0 := Hd.mk (R_strs (W0 := w3) [u] (by simp) (fun s_ h_ => by rw [List.mem_singleton.1 h_]; omega))
     simp only [List.map_cons, List.map_nil, List.length_cons, List.length_nil] at hE0
     have hzw_ := hzw.out; have z1_ := z1.out; have z2_ := z2.out; have z3_ := z3.out
     go_wp2_with (at_builtin; refine append_str rfl _ _ 25 9 (.string ByteArray.empty) 16 rfl Try.underlying25 info_str rfl (by decide) (S := fun q => (fun q => w.heap.size < q) q ∧ q < w3.heap.size) (S' := (fun q => w.heap.size < q)) (v := .slice AW n cW) (xs := way) (ys := [u]) (A := some ⟨w3.heap.size, 0, none⟩) (c := 1) rfl rfl (R_below (R_bound hWy.out) (below_alloc (Below.refl _ _) _)) (R_Cv hE0.out) (fun q h => h.1) (fun q h => by (try simp at h); omega) (by have := HLW.out; simp; omega) (fun v2 w4 hv2 hX0 => ?_); obtain ⟨way2, hl2⟩ : ∃ z, z = way ++ [u] := ⟨_, rfl⟩; rw [← hl2] at hv2; have HL2 := Hd.mk hl2; clear hl2; obtain ⟨A5, c5, hv2e, hc5, _⟩ := R_C hv2; subst hv2e; have hX := (Fr.of_below (below_alloc (Below.refl w3.heap.size w3) _) _).trans hX0)
     go_ret
     have key : str.R 9 w4 (fun k => w.heap.size ≤ k) (.slice A5 way2.length c5) way2 ∧ way2.length ≤ 6 ∧ (∀ s ∈ way2, s.size ≤ B + 60) ∧ Cur W0 w4 g ∧ Fr w w4 (fun k => k = g) := by
      refine ⟨R_mono (fun q h => Nat.le_of_lt h) hv2, ?_, ?_, hC.out.fr hX (fun h => by have h1 := h.1; have hg_ := hg.out; (try simp only at h1); omega) (fun k h => by have h1 := h.1; have hge_ := hC.out.ge; have hg_ := hg.out; (try simp only at h1); omega), hB.out.then_ hX (fun k h hl => by have h1 := h.1; (try simp only at h1); omega)⟩
      ·rw [HL2.out, List.length_append]; have := HLW.out; simp; omega
      ·intro s hs; rw [HL2.out] at hs; rcases List.mem_append.1 hs with hs | hs; exact HWS.out s hs; rw [List.mem_singleton.1 hs]; omega
     first | exact ⟨_, way2, rfl, key⟩ | exact ⟨_, rfl, way2, key⟩
  ·have hd5 : decide ((k : Int) < 5) = false := decide_eq_false hk5l
   obtain ⟨v00, v01, v02, v03, v04, v0z⟩ := blk5 b0.out
   go_wp2_with fail
   refine (spec_l1Once 5 W0 _ g hC.out).mono ?_
   rintro e w1 ⟨bo, rfl, hC1, hX⟩
   have hC := Hd.mk hC1; clear hC1
   have hSz0 := hB.out.size
   have hg_ := hg.out
   have hzw_ := hzw.out
   have b0 := Hd.mk (b0.out.fr hX (fun h => by skip; (try simp only at h); omega))
   have hO := Hd.mk (Ty.O_fr hO.out hX (fun k hk hl h => by have q_ := hk; have h_ : k = g := h; have hn_ : (1 : Int) = 2 := (hSg.out (h_ ▸ q_.1)).elim; (try simp only [rng] at hk); (try simp only at hk); (try simp only at h); omega))
   have hWy := Hd.mk (R_fr hWy.out hX (fun k hk hl h => by have q_ := hk; have hg_ := hg.out; have h_ : k = g := h; (try simp only [rng] at hk); (try simp only at hk); (try simp only at h); omega))
   have hB := Hd.mk (hB.out.trans hX)
   have hz_ := hX.size
   clear hSz0 hg_ hX
   have z1 := Hd.mk hz_; clear hz_
   cases bo
   ·have v00 : w1.cell? ⟨w.heap.size, 0, none⟩ = some (.int .i64 j.kind) := b0.out.cell 0 rfl
    have v01 : w1.cell? ⟨w.heap.size, 1, none⟩ = some (.int .i64 j.n) := b0.out.cell 1 rfl
    have v02 : w1.cell? ⟨w.heap.size, 2, none⟩ = some (.string j.s) := b0.out.cell 2 rfl
    have v03 : w1.cell? ⟨w.heap.size, 3, none⟩ = some (.slice A3 j.list.length c3) := b0.out.cell 3 rfl
    have v04 : w1.cell? ⟨w.heap.size, 4, none⟩ = some (.slice A4 j.names.length c4) := b0.out.cell 4 rfl
    have v0z := b0.out.frozen
    go_wp2_with fail
    clear v00 v01 v02 v03 v04 v0z
    go_ret
    exact ⟨_, way, rfl, R_mono (fun q h => Nat.le_of_lt h) hWy.out, by have := HLW.out; omega, HWS.out, hC.out, hB.out⟩
   ·have v00 : w1.cell? ⟨w.heap.size, 0, none⟩ = some (.int .i64 j.kind) := b0.out.cell 0 rfl
    have v01 : w1.cell? ⟨w.heap.size, 1, none⟩ = some (.int .i64 j.n) := b0.out.cell 1 rfl
    have v02 : w1.cell? ⟨w.heap.size, 2, none⟩ = some (.string j.s) := b0.out.cell 2 rfl
    have v03 : w1.cell? ⟨w.heap.size, 3, none⟩ = some (.slice A3 j.list.length c3) := b0.out.cell 3 rfl
    have v04 : w1.cell? ⟨w.heap.size, 4, none⟩ = some (.slice A4 j.names.length c4) := b0.out.cell 4 rfl
    have v0z := b0.out.frozen
    go_wp2_with fail
    clear v00 v01 v02 v03 v04 v0z
    apply calls_gen; intro W2 hW
    have hE0 := Hd.mk (show str.R 9 W2 (fun k => k = w1.heap.size) (.slice (some ⟨w1.heap.size, 0, none⟩) 7 7) drawWays by rw [hW]; exact R_strs (W0 := w1) drawWays (by decide) (by decide))
    have hz_ : w1.heap.size + 1 ≤ W2.heap.size := by rw [hW]; simp
    have hE : Below w1.heap.size w1 W2 := by rw [hW]; (repeat (first | with_reducible refine below_alloc ?_ _ | with_reducible refine below_drew ?_)); exact Below.refl _ _
    have hB := Hd.mk (hB.out.trans (Fr.of_below hE _))
    have hC := Hd.mk (hC.out.below hE)
    have b0 := b0.dn hE
    have hO := hO.ob hE
    have hWy := Hd.mk (R_below hWy.out hE)
    clear hW hE
    have z2 := Hd.mk hz_; clear hz_
    have hEg := Hd.mk (show ¬ (fun k => k = w1.heap.size) g by have hg_ := hg.out; have hSz_ := hB.out.size; have hzw_ := hzw.out; have z1_ := z1.out; have z2_ := z2.out; (try simp only); omega)
    refine (spec_l1Pick _ _ _ drawWays W0 _ g hE0.out hEg.out rfl (by decide) (by decide) hC.out).mono ?_
    rintro e w3 ⟨u, rfl, hu, hC1, hX⟩
    have hC := Hd.mk hC1; clear hC1
    have hSz0 := hB.out.size
    have hg_ := hg.out
    have hzw_ := hzw.out; have z1_ := z1.out; have z2_ := z2.out
    have b0 := Hd.mk (b0.out.fr hX (fun h => by skip; (try simp only at h); omega))
    have hO := Hd.mk (Ty.O_fr hO.out hX (fun k hk hl h => by have q_ := hk; have h_ : k = g := h; have hn_ : (1 : Int) = 2 := (hSg.out (h_ ▸ q_.1)).elim; (try simp only [rng] at hk); (try simp only at hk); (try simp only at h); omega))
    have hWy := Hd.mk (R_fr hWy.out hX (fun k hk hl h => by have q_ := hk; have hg_ := hg.out; have h_ : k = g := h; (try simp only [rng] at hk); (try simp only at hk); (try simp only at h); omega))
    have hB := Hd.mk (hB.out.trans hX)
    have hz_ := hX.size
    clear hSz0 hg_ hX
    have z3 := Hd.mk hz_; clear hz_
    clear hE0 hEg
    have hu6 : u.size ≤ 60 := (show ∀ s ∈ drawWays, s.size ≤ 60 by decide) u hu
    clear hu
    have hE0 := Hd.mk (R_strs (W0 := w3) [u] (by simp) (fun s_ h_ => by rw [List.mem_singleton.1 h_]; omega))
    simp only [List.map_cons, List.map_nil, List.length_cons, List.length_nil] at hE0
    have hzw_ := hzw.out; have z1_ := z1.out; have z2_ := z2.out; have z3_ := z3.out
    go_wp2_with (at_builtin; refine append_str rfl _ _ 25 9 (.string ByteArray.empty) 16 rfl Try.underlying25 info_str rfl (by decide) (S := fun q => (fun q => w.heap.size < q) q ∧ q < w3.heap.size) (S' := (fun q => w.heap.size < q)) (v := .slice AW n cW) (xs := way) (ys := [u]) (A := some ⟨w3.heap.size, 0, none⟩) (c := 1) rfl rfl (R_below (R_bound hWy.out) (below_alloc (Below.refl _ _) _)) (R_Cv hE0.out) (fun q h => h.1) (fun q h => by (try simp at h); omega) (by have := HLW.out; simp; omega) (fun v2 w4 hv2 hX0 => ?_); obtain ⟨way2, hl2⟩ : ∃ z, z = way ++ [u] := ⟨_, rfl⟩; rw [← hl2] at hv2; have HL2 := Hd.mk hl2; clear hl2; obtain ⟨A5, c5, hv2e, hc5, _⟩ := R_C hv2; subst hv2e; have hX := (Fr.of_below (below_alloc (Below.refl w3.heap.size w3) _) _).trans hX0)
    go_ret
    have key : str.R 9 w4 (fun k => w.heap.size ≤ k) (.slice A5 way2.length c5) way2 ∧ way2.length ≤ 6 ∧ (∀ s ∈ way2, s.size ≤ B + 60) ∧ Cur W0 w4 g ∧ Fr w w4 (fun k => k = g) := by
     refine ⟨R_mono (fun q h => Nat.le_of_lt h) hv2, ?_, ?_, hC.out.fr hX (fun h => by have h1 := h.1; have hg_ := hg.out; (try simp only at h1); omega) (fun k h => by have h1 := h.1; have hge_ := hC.out.ge; have hg_ := hg.out; (try simp only at h1); omega), hB.out.then_ hX (fun k h hl => by have h1 := h.1; (try simp only at h1); omega)⟩
     ·rw [HL2.out, List.length_append]; have := HLW.out; simp; omega
     ·intro s hs; rw [HL2.out] at hs; rcases List.mem_append.1 hs with hs | hs; exact HWS.out s hs; rw [List.mem_singleton.1 hs]; omega
    first | exact ⟨_, way2, rfl, key⟩ | exact ⟨_, rfl, way2, key⟩
def underL (s : ByteArray) (l : List JOp) : List JOp := l.map (fun o => ⟨o.kind, s :: o.way, o.value⟩)
theorem underL_append (s : ByteArray) (l : List JOp) (x : JOp) : underL s (l ++ [x]) = underL s l ++ [⟨x.kind, s :: x.way, x.value⟩] := by simp [underL]
theorem cnt_under (m : Nat) (s : ByteArray) (l : List JOp) : bulkL (cnOp m) (underL s l) = bulkL (cnOp m) l + l.length := by
 induction l with
 | nil => rfl
 | cons x l ih =>
  have e : underL s (x :: l) = ⟨x.kind, s :: x.way, x.value⟩ :: underL s l := rfl
  rw [e]
  simp only [bulkL, ih, cnOp, List.length_cons]
  omega
theorem cnt_opsLen (m : Nat) (l : List JOp) : l.length ≤ bulkOpS m l := by simp only [bulkOpS]; omega
theorem R_one' {W0 : World} {n : Nat} (s : ByteArray) (hs : s.size ≤ 9223372036854775807) (hn : W0.heap.size = n) : str.R 9 (W0.alloc (.cells #[.string s] 9)) (fun k => k = n) (.slice (some ⟨n, 0, none⟩) 1 1) [s] := by
 subst hn
 refine R_block (xs := [s]) (cap := 1) (heap_alloc_new W0 _) rfl (Nat.le_refl _) (by omega) rfl (fun _ => 0) (fun i x h => ?_)
 rcases i with _ | i
 ·simp at h
  subst h
  exact ⟨rfl, hs⟩
 ·simp at h
theorem append_oneN {P : Program} {ops : Array Oper} {rest : List Oper} {o : Oper} {a : Act} {Q : Exit → Act → World → Prop} {α : Type} (d : Ty α) {W : World} {n : Nat} (hn : W.heap.size = n) (hgd : o.guard = none) (s x : Operand) (t e : TypeId) (z : Value) (bytes : Nat)
  (ho : o.op = .call { callee := .builtin .append, args := #[s, x], argTypes := #[t, t] })
  (ht : P.underlying t = some (.slice e)) (hinfo : (P.info? e).map (fun i => (i.zero, i.size, i.bytes)) = some (some z, d.sz, bytes)) (hz : z.cells.size = d.sz) (hsz : 0 < d.sz) (hb0 : 0 < bytes)
  {S S' T : Nat → Prop} {v : Value} {xs : List α} (y : α) (cs : List Value)
  (hs : a.eval s = v) (hx : a.eval x = .slice (some ⟨n, 0, none⟩) 1 1) (HR : d.R e W S v xs) (hO : d.O W T y cs)
  (hST : ∀ k, T k → k < W.heap.size → ¬ S k) (hS : ∀ k, S k → S' k) (hT : ∀ k, T k → S' k) (hnew : ∀ k, n ≤ k → S' k)
  (hbytes : (xs.length + 1) * bytes ≤ 140737488355328)
  (h : ∀ v1 w1, d.R e w1 S' v1 (xs ++ [y]) → Fr W w1 S → wpList P ops Q rest (a.put o.dst v1) w1) :
  wpList P ops Q (o :: rest) a (W.alloc (.cells cs.toArray e)) := by
 subst hn
 exact append_one d hgd s x t e z bytes ho ht hinfo hz hsz hb0 y cs hs hx HR hO hST hS hT hnew hbytes h
theorem store_blk {P : Program} {ops : Array Oper} {rest : List Oper} {o : Oper} {a : Act} {w : World} {Q : Exit → Act → World → Prop} (hgd : o.guard = none) (ty : TypeId) (x y : Operand) (ho : o.op = .store ty x y)
  (g : Nat) (cells : Array Value) (hx : a.eval x = .pointer (some ⟨g, 0, none⟩)) (hy : a.eval y = .agg cells) {t : TypeId} {old : Array Value} (b : Blk w g old t) (hi : (P.info? ty).map (·.size) = some cells.size)
  (hold : old.size = cells.size) (h1 : cells.all (·.oneCell') = true)
  (h : ∀ W, Blk W g cells t → Fr w W (fun k => k = g) → W.heap.size = w.heap.size → wpList P ops Q rest (a.put o.dst undef) W) : wpList P ops Q (o :: rest) a w := by
 refine wpList_store_row hgd ty x y ho g cells hx hy t old b hi hold h1 (h _ ?_ ?_ ?_)
 ·show (w.setRow g cells).heap[g]? = _
  unfold World.setRow
  simp [Array.getElem?_modify, show w.heap[g]? = some (.cells old t (0, 0)) from b]
 ·refine ⟨rfl, rfl, rfl, by simp [World.setRow], fun k hk hn => ?_⟩
  unfold World.setRow
  have hn : ¬ k = g := hn
  rw [Array.getElem?_modify, if_neg (fun e : g = k => hn e.symm)]
 ·simp [World.setRow]
theorem info7 : (Try.prog.info? 38).map (·.size) = some 7 := by kernel_rfl
theorem Fr.box7 (w : World) (g : Nat) (a0 a1 a2 a3 a4 a5 a6 : Value) {o : Obj} : Fr w ((((((((w.setCell ⟨g, 0, none⟩ a0).setCell ⟨g, 1, none⟩ a1).setCell ⟨g, 2, none⟩ a2).setCell ⟨g, 3, none⟩ a3).setCell ⟨g, 4, none⟩ a4).setCell ⟨g, 5, none⟩ a5).setCell ⟨g, 6, none⟩ a6).alloc o) (fun k => k = g) :=
 Fr.alloc (by
  refine Fr.setCell (S := fun k => k = g) ?_ _ (fun _ => rfl) _
  refine Fr.setCell (S := fun k => k = g) ?_ _ (fun _ => rfl) _
  refine Fr.setCell (S := fun k => k = g) ?_ _ (fun _ => rfl) _
  refine Fr.setCell (S := fun k => k = g) ?_ _ (fun _ => rfl) _
  refine Fr.setCell (S := fun k => k = g) ?_ _ (fun _ => rfl) _
  refine Fr.setCell (S := fun k => k = g) ?_ _ (fun _ => rfl) _
  refine Fr.setCell (S := fun k => k = g) ?_ _ (fun _ => rfl) _
  exact Fr.refl _ _) o
set_option maxHeartbeats 4000000 in
set_option maxRecDepth 100000 in
theorem impl_copyOp {m : Nat} (x : JOp) (cs : List Value) (w : World) (hk : (tOp (m + 1)).K w x cs) (hl : bulkOp (m + 1) x ≤ 4194304) :
  Calls Try.prog 46 #[.agg cs.toArray] w fun e w' => ∃ cs', e = .returned (.agg cs'.toArray) ∧ (tOp (m + 1)).O w' (fun k => w.heap.size ≤ k) x cs' ∧ Below w.heap.size w w' := by
 obtain ⟨A1, c1, _, rfl, ⟨hc1, hr1⟩, hj⟩ := tOp_K.1 hk
 have HJ := Hd.mk hj
 obtain ⟨A2, c2, A3, c3, rfl, hs, ⟨hc2, hr2⟩, hc3, hr3⟩ := tJ_K.1 hj
 have HR1 := Hd.mk hr1
 clear hr1 hr2 hr3 hj hk
 have hlW : x.way.length ≤ 4194304 := by simp only [bulkOp, bulkStringS] at hl; omega
 have hlJ : bulkJ (m + 1) x.value ≤ 4194304 := by simp only [bulkOp] at hl; omega
 clear hl
 have hB := Hd.mk (Below.refl w.heap.size w)
 go_enter Try.func46, Try.ntmps46
 go_wp2_with fail
 apply wp_gen; intro W1 hW
 have hz_ : w.heap.size + 2 ≤ W1.heap.size := by rw [hW]; simp
 have hE : Below w.heap.size w W1 := by rw [hW]; (repeat (first | with_reducible refine below_alloc ?_ _ | with_reducible refine below_drew ?_)); exact Below.refl _ _
 have hB := hB.th hE
 have b0 := Hd.mk (show Blk W1 (w.heap.size) #[.int .i64 x.kind, .slice A1 x.way.length c1, .int .i64 x.value.kind, .int .i64 x.value.n, .string x.value.s, .slice A2 x.value.list.length c2, .slice A3 x.value.names.length c3] 38 by rw [hW]; first | exact ((Blk.new _ _ _).alloc _) | (simpa using ((Blk.new _ _ _).alloc _)))
 have b1 := Hd.mk (show Blk W1 (w.heap.size + 1) #[.int .i64 0, .slice none 0 0, .int .i64 0, .int .i64 0, .string ⟨#[]⟩, .slice none 0 0, .slice none 0 0] 38 by rw [hW]; first | exact (Blk.new1 _ _ _ _) | (simpa using (Blk.new1 _ _ _ _)))
 clear hW hE
 have z1 := Hd.mk hz_; clear hz_
 obtain ⟨v00, v01, v02, v03, v04, v05, v06, v0z⟩ := blk7 b0.out
 obtain ⟨v10, v11, v12, v13, v14, v15, v16, v1z⟩ := blk7 b1.out
 obtain ⟨rv00, rv01, rv02, rv03, rv04, rv05, rv06⟩ := reg7 v00 v01 v02 v03 v04 v05 v06
 obtain ⟨rv10, rv11, rv12, rv13, rv14, rv15, rv16⟩ := reg7 v10 v11 v12 v13 v14 v15 v16
 refine region_mixT (.q 0 (.q 1 (.q 2 (.q 3 (.q 5 (.q 6 (.b 4 (.b 7 (.q 8 .fin))))))))) [9] (by kernel_rfl) (by kernel_rfl) (fun _ _ _ _ _ h => h) ?_
 refine genT ?_
 intro W2 hW
 have hS := Hd.mk (show Below W1.heap.size W1 W2 by rw [hW]; exact below_drew (Below.refl _ _))
 have hz_ : W1.heap.size ≤ W2.heap.size := by rw [hW]; simp
 have hE : Below W1.heap.size W1 W2 := by rw [hW]; (repeat (first | with_reducible refine below_alloc ?_ _ | with_reducible refine below_drew ?_)); exact Below.refl _ _
 have hB := hB.th hE
 have b0 := b0.dn hE
 have b1 := b1.dn hE
 clear hW hE
 have z2 := Hd.mk hz_; clear hz_
 iterate 6 (refine mixT_q rfl ?_; go_big_quiet_want; go_big_quiet_op; go_big_quiet_on; refine wpQuiet_nil ?_)
 refine mixT_b rfl ?_ (by rfl)
 go_wp2_with fail
 apply calls_gen; intro W3 hW
 have hz_ : W2.heap.size ≤ W3.heap.size := by rw [hW]; simp
 have hE : Below W2.heap.size W2 W3 := by rw [hW]; (repeat (first | with_reducible refine below_alloc ?_ _ | with_reducible refine below_drew ?_)); exact Below.refl _ _
 have hB := hB.th hE
 replace hS := Hd.mk (below_then hS.out hE)
 have b0 := b0.dn hE
 have b1 := b1.dn hE
 clear hW hE
 have z3 := Hd.mk hz_; clear hz_
 refine (impl_copyTexts _ _ x.way _ (C_below HR1.out hB.out) hlW).mono ?_
 rintro e w4 ⟨v1, rfl, hO, hX⟩
 have b0 := b0.dn hX
 have b1 := b1.dn hX
 have hB := hB.th hX
 replace hS := Hd.mk (below_then hS.out hX)
 have hz_ := hX.size
 clear hX
 have z4 := Hd.mk hz_; clear hz_
 obtain ⟨D1, d1, rfl, _, _⟩ := R_C hO
 replace hO := Hd.mk (show str.R 9 w4 (rng W3.heap.size w4.heap.size) _ x.way from R_bound hO)
 go_wp2_with fail
 refine ⟨cls_below hS.out, ?_⟩
 refine mixT_b rfl ?_ (by rfl)
 go_wp2_with fail
 apply calls_gen; intro W5 hW
 have hz_ : w4.heap.size ≤ W5.heap.size := by rw [hW]; simp
 have hE : Below w4.heap.size w4 W5 := by rw [hW]; (repeat (first | with_reducible refine below_alloc ?_ _ | with_reducible refine below_drew ?_)); exact Below.refl _ _
 have hB := hB.th hE
 replace hS := Hd.mk (below_then hS.out hE)
 have b0 := b0.dn hE
 have b1 := b1.dn hE
 have hO := Hd.mk (R_below hO.out hE)
 clear hW hE
 have z5 := Hd.mk hz_; clear hz_
 refine (impl_copyJson x.value _ _ (Ty.K_below _ hB.out HJ.out) hlJ).mono ?_
 rintro e w6 ⟨cs', rfl, hO2, hX⟩
 have b0 := b0.dn hX
 have b1 := b1.dn hX
 have hO := Hd.mk (R_below hO.out hX)
 have hB := hB.th hX
 replace hS := Hd.mk (below_then hS.out hX)
 have hz_ := hX.size
 clear hX
 have z6 := Hd.mk hz_; clear hz_
 obtain ⟨v3, v4, _, _, rfl, hsz3, hr3, hr4, _⟩ := tJ_O.1 hO2
 obtain ⟨D2, d2, rfl, _, _⟩ := R_C hr3
 obtain ⟨D3, d3, rfl, _, _⟩ := R_C hr4
 clear hr3 hr4
 replace hO2 := Hd.mk (show (tJ (m + 1)).O w6 (rng W5.heap.size w6.heap.size) x.value _ from Ty.O_bound _ hO2)
 go_wp2_with fail
 refine ⟨cls_below hS.out, ?_⟩
 refine mixT_q rfl ?_
 go_big_quiet_want; go_big_quiet_op; go_big_quiet_on; refine wpQuiet_nil ?_
 refine mixT_fin ?_
 clear hS
 clear rv00 rv01 rv02 rv03 rv04 rv05 rv06 rv10 rv11 rv12 rv13 rv14 rv15 rv16
 clear v00 v01 v02 v03 v04 v05 v06 v0z v10 v11 v12 v13 v14 v15 v16 v1z
 obtain ⟨v00, v01, v02, v03, v04, v05, v06, v0z⟩ := blk7 b0.out
 obtain ⟨v10, v11, v12, v13, v14, v15, v16, v1z⟩ := blk7 b1.out
 refine tail_b rfl ?_ (by rfl)
 go_wp2_with fail
 refine mixQ_n ?_
 refine tail_nil ?_
 go_wp2_with fail
 refine bodyPost_retW (v := .agg #[.int .i64 x.kind, .slice D1 x.way.length d1, .int .i64 x.value.kind, .int .i64 x.value.n, .string x.value.s, .slice D2 x.value.list.length d2, .slice D3 x.value.names.length d3]) (by simp [results, Try.results46, go_sem, v00, v01, v02, v03, v04, v05, v06, v0z, v10, v11, v12, v13, v14, v15, v16, v1z]) rfl ?_
 intro W hW
 clear v00 v01 v02 v03 v04 v05 v06 v0z v10 v11 v12 v13 v14 v15 v16 v1z
 have hz_ : w6.heap.size ≤ W.heap.size := by rw [hW]; simp
 have eF : Fr w6 W (fun k => k = w.heap.size + 1 ∨ w6.heap.size ≤ k) := by rw [hW]; (repeat (first | with_reducible refine Fr.setCell ?_ _ (fun _ => by simp <;> omega) _ | with_reducible refine Fr.alloc ?_ _ | with_reducible refine Fr.drew ?_)); exact Fr.refl _ _
 have z1_ := z1.out; have z2_ := z2.out; have z3_ := z3.out; have z4_ := z4.out; have z5_ := z5.out; have z6_ := z6.out
 have hB := Hd.mk (((Fr.of_below hB.out (fun k => k = w.heap.size + 1 ∨ w6.heap.size ≤ k)).then_ eF (fun k hk _ => hk)).below (fun k hk => by have := hB.out.size; omega))
 have b0 := Hd.mk (b0.out.fr eF (fun h => by have hlt_ := b0.out.lt; (try simp only at h); omega))
 have b1 := Hd.mk (show Blk W (w.heap.size + 1) #[.int .i64 x.kind, .slice D1 x.way.length d1, .int .i64 x.value.kind, .int .i64 x.value.n, .string x.value.s, .slice D2 x.value.list.length d2, .slice D3 x.value.names.length d3] 38 by rw [hW]; exact (Blk.all b1.out [Value.int IntKind.i64 x.kind, .slice D1 x.way.length d1, .int .i64 x.value.kind, .int .i64 x.value.n, .string x.value.s, .slice D2 x.value.list.length d2, .slice D3 x.value.names.length d3] rfl))
 have hO := Hd.mk (R_fr hO.out eF (fun k hk hl h => by skip; (try simp only [rng] at hk); (try simp only at hk); (try simp only at h); omega))
 have hO2 := Hd.mk (Ty.O_fr hO2.out eF (fun k hk hl h => by skip; (try simp only [rng] at hk); (try simp only at hk); (try simp only at h); omega))
 clear hW eF
 have z7 := Hd.mk hz_; clear hz_
 have hBs := hB.out.size
 have z1_ := z1.out; have z2_ := z2.out; have z3_ := z3.out; have z4_ := z4.out; have z5_ := z5.out; have z6_ := z6.out; have z7_ := z7.out
 exact ⟨[Value.int IntKind.i64 x.kind, .slice D1 x.way.length d1, .int .i64 x.value.kind, .int .i64 x.value.n, .string x.value.s, .slice D2 x.value.list.length d2, .slice D3 x.value.names.length d3], rfl, tOp_O.2 ⟨_, _, _, _, rfl, hO.out, hO2.out, fun k hk => by have := hk.1; omega, fun k hk => by have := hk.1; omega, fun k h1 h2 => by have := h1.1; have := h1.2; have := h2.1; have := h2.2; omega⟩, hB.out⟩
set_option maxHeartbeats 4000000 in
set_option maxRecDepth 100000 in
theorem impl_UnderE {m : Nat} (s : ByteArray) (hs : s.size ≤ 9223372036854775807) (A : Option Addr) (c : Nat) (l : List JOp) (w : World) (hr : (tOp (m + 1)).C w A l) (hL : l.length ≤ 4194304) (hl : ∀ x ∈ l, bulkOp (m + 1) x ≤ 4194304) :
  Calls Try.prog 18 #[.string s, .slice A l.length c] w fun e w' => ∃ v, e = .returned v ∧ (tOp (m + 1)).R 38 w' (fun k => w.heap.size ≤ k) v (underL s l) ∧ Below w.heap.size w w' := by
 have hm := hr.1
 have HL := Hd.mk hl; clear hl
 have HC := Hd.mk hr; clear hr
 have HR := Hd.mk (R_empty (tOp (m + 1)) 38 w)
 go_enter Try.func18, Try.ntmps18
 go_wp2_with fail
 go_loopw [5, 11] (fun o i wr => ∃ k : Nat, ∃ vv : Value, k ≤ l.length ∧ i = .int .i64 k ∧ vv = o ∧ Hd ((tOp (m + 1)).R 38 wr (fun k => w.heap.size ≤ k) vv (underL s (l.take k))) ∧ Hd (Below w.heap.size w wr)) (fun _ i _ => l.length - (intOf i).toNat)
 case atStart => exact ⟨0, _, Nat.zero_le _, rfl, rfl, ⟨HR.out⟩, ⟨below_alloc (Below.refl _ _) _⟩⟩
 case round =>
  obtain ⟨k, vv, hk, rfl, rfl, HK, HB⟩ := hrel
  by_cases hlt : k < l.length
  ·obtain ⟨ad, cs0, rfl, hK0, e0, e1⟩ := C_at HC.out HB.out k hlt
   obtain ⟨A1, c1, _, rfl, ⟨hc1, hr1⟩, hj⟩ := tOp_K.1 hK0
   obtain ⟨A2, c2, A3, c3, rfl, hs1, ⟨hc2, hr2⟩, hc3, hr3⟩ := tJ_K.1 hj
   have hbk := HL.out _ (List.getElem_mem hlt)
   have hbW : l[k].way.length ≤ 4194304 := by simp only [bulkOp, bulkStringS] at hbk; omega
   have hbJ : bulkJ (m + 1) l[k].value ≤ 4194304 := by simp only [bulkOp] at hbk; omega
   have HKe := Hd.mk hK0; have HR1 := Hd.mk hr1; have HJ := Hd.mk hj
   clear hK0 hr1 hr2 hr3 hj
   have htl : (l.take k).length = k := by rw [List.length_take]; omega
   have x0 : wr.cell? (ad.add (k * 7)) = some (.int .i64 l[k].kind) := e0 _ rfl
   have x1 : wr.cell? ⟨(ad.add (k * 7)).block, (ad.add (k * 7)).off + 1, none⟩ = some (.slice A1 l[k].way.length c1) := e1 0 _ rfl
   have x2 : wr.cell? ⟨(ad.add (k * 7)).block, (ad.add (k * 7)).off + 2, none⟩ = some (.int .i64 l[k].value.kind) := e1 1 _ rfl
   have x3 : wr.cell? ⟨(ad.add (k * 7)).block, (ad.add (k * 7)).off + 3, none⟩ = some (.int .i64 l[k].value.n) := e1 2 _ rfl
   have x4 : wr.cell? ⟨(ad.add (k * 7)).block, (ad.add (k * 7)).off + 4, none⟩ = some (.string l[k].value.s) := e1 3 _ rfl
   have x5 : wr.cell? ⟨(ad.add (k * 7)).block, (ad.add (k * 7)).off + 5, none⟩ = some (.slice A2 l[k].value.list.length c2) := e1 4 _ rfl
   have x6 : wr.cell? ⟨(ad.add (k * 7)).block, (ad.add (k * 7)).off + 6, none⟩ = some (.slice A3 l[k].value.names.length c3) := e1 5 _ rfl
   clear e0 e1
   have hB := HB
   have hBr := Hd.mk (Below.refl wr.heap.size wr)
   go_wp2_with fail
   clear x0 x1 x2 x3 x4 x5 x6
   apply calls_gen; intro W1 hW
   have hz_ : wr.heap.size + 1 ≤ W1.heap.size := by rw [hW]; simp
   have hE : Below wr.heap.size wr W1 := by rw [hW]; (repeat (first | with_reducible refine below_alloc ?_ _ | with_reducible refine below_drew ?_)); exact Below.refl _ _
   have hB := hB.th hE
   have hBr := Hd.mk (below_then hBr.out hE)
   have bp := Hd.mk (show Blk W1 (wr.heap.size) #[.int .i64 l[k].kind, .slice A1 l[k].way.length c1, .int .i64 l[k].value.kind, .int .i64 l[k].value.n, .string l[k].value.s, .slice A2 l[k].value.list.length c2, .slice A3 l[k].value.names.length c3] 38 by rw [hW]; first | exact (Blk.new _ _ _) | (simpa using (Blk.new _ _ _)))
   clear hW hE
   have z1 := Hd.mk hz_; clear hz_
   refine (impl_copyOp l[k] _ _ (Ty.K_below _ hBr.out HKe.out) hbk).mono ?_
   rintro e w2 ⟨cs', rfl, hO, hX⟩
   have bp := bp.dn hX
   have hB := hB.th hX
   have hz_ := hX.size
   have hBr := Hd.mk (below_then hBr.out hX)
   clear hX
   have z2 := Hd.mk hz_; clear hz_
   obtain ⟨v1, _, T0, T1, rfl, r1, hJ, s0, s1, d01⟩ := tOp_O.1 hO
   obtain ⟨D1, d1, rfl, hd1, _⟩ := R_C r1
   obtain ⟨v3, v4, _, _, rfl, hsz3, hr3, hr4, _⟩ := tJ_O.1 hJ
   obtain ⟨D2, d2, rfl, _, _⟩ := R_C hr3
   obtain ⟨D3, d3, rfl, _, _⟩ := R_C hr4
   have HR2 := Hd.mk (R_bound r1); have HJ2 := Hd.mk (Ty.O_bound _ hJ); clear hr3 hr4 hO r1 hJ
   have S0 := Hd.mk s0; have S1 := Hd.mk s1; have D01 := Hd.mk d01; clear s0 s1 d01
   have z1_ := z1.out; have z2_ := z2.out
   have hBs := hB.out.size
   obtain ⟨fbp_0, fbp_1, fbp_2, fbp_3, fbp_4, fbp_5, fbp_6, fbp_z⟩ := blk7 bp.out
   go_wp2_with (first | (refine store_blk rfl 38 _ _ rfl wr.heap.size #[.int .i64 l[k].kind, .slice D1 l[k].way.length d1, .int .i64 l[k].value.kind, .int .i64 l[k].value.n, .string l[k].value.s, .slice D2 l[k].value.list.length d2, .slice D3 l[k].value.names.length d3] rfl rfl bp.out info7 rfl (by simp [Value.oneCell']) (fun W5 b5 hf5 hz5 => ?_); clear fbp_0 fbp_1 fbp_2 fbp_3 fbp_4 fbp_5 fbp_6 fbp_z; have y0 : W5.cell? ⟨wr.heap.size, 0, none⟩ = some (.int .i64 l[k].kind) := b5.cell 0 rfl; have y1 : W5.cell? ⟨wr.heap.size, 1, none⟩ = some (.slice D1 l[k].way.length d1) := b5.cell 1 rfl; have y2 : W5.cell? ⟨wr.heap.size, 2, none⟩ = some (.int .i64 l[k].value.kind) := b5.cell 2 rfl; have y3 : W5.cell? ⟨wr.heap.size, 3, none⟩ = some (.int .i64 l[k].value.n) := b5.cell 3 rfl; have y4 : W5.cell? ⟨wr.heap.size, 4, none⟩ = some (.string l[k].value.s) := b5.cell 4 rfl; have y5 : W5.cell? ⟨wr.heap.size, 5, none⟩ = some (.slice D2 l[k].value.list.length d2) := b5.cell 5 rfl; have y6 : W5.cell? ⟨wr.heap.size, 6, none⟩ = some (.slice D3 l[k].value.names.length d3) := b5.cell 6 rfl; have yz := b5.frozen; have ly1 := (fun o => cell_below (below_alloc (Below.refl W5.heap.size W5) o) y1); have hz5' := Hd.mk hz5; clear bp hz5; have HR5 := Hd.mk (R_fr HR2.out hf5 (fun k h1 hl h2 => by have := S0.out k h1.1; have := h1.2; (try simp only at this); (try simp only at h2); omega)); have HJ5 := Hd.mk (Ty.O_fr HJ2.out hf5 (fun k h1 hl h2 => by have := S1.out k h1.1; have := h1.2; (try simp only at this); (try simp only at h2); omega)); have HK5 := Hd.mk (R_fr (R_below (R_bound HK.out) hBr.out) hf5 (fun k h1 hl h2 => by have := h1.2; (try simp only at h2); omega)); have hB5 := Hd.mk (below_frS hB.out hf5 (fun k h => by have := HB.out.size; (try simp only at h); omega)); have hs5 := Hd.mk (show w2.heap.size ≤ W5.heap.size by have := hz5'.out; omega); have B5 := Hd.mk b5; clear hf5 b5 HR2 HJ2) | (at_builtin; refine append_str rfl _ _ 25 9 (.string ByteArray.empty) 16 rfl Try.underlying25 info_str rfl (by decide) (S := fun k => k = W5.heap.size) (S' := fun k => W5.heap.size ≤ k) (xs := [s]) (ys := l[k].way) rfl rfl (R_one' s hs rfl) (R_Cv (R_below HR5.out (below_alloc (Below.refl _ _) _))) (fun k h => by (try simp only at h); omega) (fun k h => by simp at h; omega) (by simp; omega) (fun v6 w6 hv6 hf6 => ?_); obtain ⟨D6, d6, hv6e, hd6, _⟩ := R_C hv6; subst hv6e; have hX := Hd.mk (((Fr.of_below (below_alloc (Below.refl W5.heap.size W5) _) (fun k => W5.heap.size ≤ k)).then_ (hf6.mono (S' := fun k => W5.heap.size ≤ k) (fun k _ h => by (try simp only at h); omega)) (fun k h _ => h)).below (fun k h => h)); have HV6 := Hd.mk (R_bound hv6); have HJ6 := Hd.mk (Ty.O_below (Ty.O_bound _ HJ5.out) hX.out); have HK6 := Hd.mk (R_below (R_bound HK5.out) hX.out); have hB6 := Hd.mk (below_then hB5.out hX.out); have hlt5 := hs5.out; have hlt6 := hX.out.size; have B6 := Hd.mk (B5.out.below hX.out); clear hf6 hv6 y0 y1 y2 y3 y4 y5 y6 yz ly1 HR5; have y0 : w6.cell? ⟨wr.heap.size, 0, none⟩ = some (.int .i64 l[k].kind) := B6.out.cell 0 rfl; have y1 : w6.cell? ⟨wr.heap.size, 1, none⟩ = some (.slice D1 l[k].way.length d1) := B6.out.cell 1 rfl; have y2 : w6.cell? ⟨wr.heap.size, 2, none⟩ = some (.int .i64 l[k].value.kind) := B6.out.cell 2 rfl; have y3 : w6.cell? ⟨wr.heap.size, 3, none⟩ = some (.int .i64 l[k].value.n) := B6.out.cell 3 rfl; have y4 : w6.cell? ⟨wr.heap.size, 4, none⟩ = some (.string l[k].value.s) := B6.out.cell 4 rfl; have y5 : w6.cell? ⟨wr.heap.size, 5, none⟩ = some (.slice D2 l[k].value.list.length d2) := B6.out.cell 5 rfl; have y6 : w6.cell? ⟨wr.heap.size, 6, none⟩ = some (.slice D3 l[k].value.names.length d3) := B6.out.cell 6 rfl; have yz := B6.out.frozen) | (at_builtin; refine append_oneN (tOp (m + 1)) (n := w6.heap.size) (by simp) rfl _ _ 33 38 (.agg #[.int .i64 0, .slice none 0 0, .int .i64 0, .int .i64 0, .string ByteArray.empty, .slice none 0 0, .slice none 0 0]) 112 rfl Try.underlying33 info_OpS rfl (by rw [tOp_sz]; omega) (by decide) (S := fun k => w.heap.size ≤ k ∧ k < wr.heap.size) (T := fun k => (W5.heap.size ≤ k ∧ k < w6.heap.size) ∨ ((T1 k ∧ k < w2.heap.size) ∧ k < W5.heap.size)) (S' := fun k => w.heap.size ≤ k) (v := vv) (xs := underL s (l.take k)) ⟨l[k].kind, s :: l[k].way, l[k].value⟩ [Value.int IntKind.i64 l[k].kind, .slice D6 (s :: l[k].way).length d6, .int .i64 l[k].value.kind, .int .i64 l[k].value.n, .string l[k].value.s, .slice D2 l[k].value.list.length d2, .slice D3 l[k].value.names.length d3] rfl rfl (R_mono (S' := fun k => w.heap.size ≤ k ∧ k < wr.heap.size) (fun k h => h.1) (R_fr HK6.out (Fr.setCell (S := fun k => k = wr.heap.size) (Fr.refl w6 _) ⟨wr.heap.size, 1, none⟩ (fun _ => rfl) _) (fun k h _ h2 => by have := h.1.2; (try simp only at h2); omega))) (tOp_O.2 ⟨_, _, (fun k => W5.heap.size ≤ k ∧ k < w6.heap.size), (fun k => (T1 k ∧ k < w2.heap.size) ∧ k < W5.heap.size), rfl, R_fr HV6.out (Fr.setCell (S := fun k => k = wr.heap.size) (Fr.refl w6 _) ⟨wr.heap.size, 1, none⟩ (fun _ => rfl) _) (fun k h _ h2 => by (try simp only at h2); omega), Ty.O_fr HJ6.out (Fr.setCell (S := fun k => k = wr.heap.size) (Fr.refl w6 _) ⟨wr.heap.size, 1, none⟩ (fun _ => rfl) _) (fun k h _ h2 => by have := S1.out k h.1.1; (try simp only at this); (try simp only at h2); omega), fun k h => Or.inl h, fun k h => Or.inr h, fun k h h2 => by have := h.1; have := h2.2; omega⟩) (fun k h1 hl h2 => by have hh := h2.2; rcases h1 with h1 | h1; omega; have := S1.out k h1.1.1; (try simp only at this); omega) (fun k h => h.1) (fun k h => by have := HB.out.size; rcases h with h | h; omega; have := S1.out k h.1.1; (try simp only at this); omega) (fun k h => by have := HB.out.size; (try simp only at h); omega) (by simp only [underL, List.length_map, htl]; omega) (fun v5 w5 hv5 hf5 => ?_)))
   have HV := Hd.mk hv5
   have HB5 := Hd.mk (below_frS (below_frS hB6.out (Fr.setCell (S := fun k => k = wr.heap.size) (Fr.refl w6 _) ⟨wr.heap.size, 1, none⟩ (fun _ => rfl) _) (fun k h => by have := HB.out.size; (try simp only at h); omega)) hf5 (fun k h => h.1))
   clear hv5 hf5
   go_wp2_with fail
   go_roundw
   case rel => exact ⟨k + 1, _, by omega, by go_num, rfl, ⟨by have h := HV.out; rw [List.take_succ_eq_append_getElem hlt, underL_append]; exact h⟩, HB5⟩
   case measure => simp [intOf]; omega
  ·obtain rfl : k = l.length := by omega
   go_wp2_with fail
   go_ret
   have := HK.out
   rw [List.take_length] at this
   exact ⟨_, rfl, this, HB.out⟩
theorem impl_Under {m : Nat} (s : ByteArray) (hs : s.size ≤ 9223372036854775807) (A : Option Addr) (c : Nat) (l : List JOp) (w : World) (hr : (tOp (m + 1)).C w A l) (hl : bulkOpS (m + 1) l ≤ 4194304) :
  Calls Try.prog 18 #[.string s, .slice A l.length c] w fun e w' => ∃ v, e = .returned v ∧ (tOp (m + 1)).R 38 w' (fun k => w.heap.size ≤ k) v (underL s l) ∧ Below w.heap.size w w' := by
 simp only [bulkOpS] at hl
 exact impl_UnderE s hs A c l w hr (by omega) (fun x hx => Nat.le_trans (bulkL_mem (bulkOp (m + 1)) hx) (Nat.le_trans (Nat.le_add_left _ _) hl))
set_option maxHeartbeats 4000000 in
set_option maxRecDepth 100000 in
theorem spec_UnderE {m : Nat} (s : ByteArray) (hs : s.size ≤ 9223372036854775807) (A : Option Addr) (c : Nat) (l : List JOp) (w : World) (hr : (tOp (m + 1)).C w A l) (hL : l.length ≤ 4194304) (hl : ∀ x ∈ l, bulkOp (m + 1) x ≤ 4194304) :
  Calls Try.prog 19 #[.string s, .slice A l.length c] w fun e w' => ∃ v, e = .returned v ∧ (tOp (m + 1)).R 38 w' (fun k => w.heap.size ≤ k) v (underL s l) ∧ Below w.heap.size w w' := by
 have hm := hr.1
 have HL := Hd.mk hl; clear hl
 have HC := Hd.mk hr; clear hr
 have HR := Hd.mk (R_empty (tOp (m + 1)) 38 w)
 go_enter Try.func19, Try.ntmps19
 go_wp2_with fail
 go_loopw [5, 6] (fun o i wr => ∃ k : Nat, ∃ vv : Value, k ≤ l.length ∧ i = .int .i64 k ∧ vv = o ∧ Hd ((tOp (m + 1)).R 38 wr (fun k => w.heap.size ≤ k) vv (underL s (l.take k))) ∧ Hd (Below w.heap.size w wr)) (fun _ i _ => l.length - (intOf i).toNat)
 case atStart => exact ⟨0, _, Nat.zero_le _, rfl, rfl, ⟨HR.out⟩, ⟨below_alloc (Below.refl _ _) _⟩⟩
 case round =>
  obtain ⟨k, vv, hk, rfl, rfl, HK, HB⟩ := hrel
  by_cases hlt : k < l.length
  ·obtain ⟨ad, cs0, rfl, hK0, e0, e1⟩ := C_at HC.out HB.out k hlt
   obtain ⟨A1, c1, _, rfl, ⟨hc1, hr1⟩, hj⟩ := tOp_K.1 hK0
   obtain ⟨A2, c2, A3, c3, rfl, hs1, ⟨hc2, hr2⟩, hc3, hr3⟩ := tJ_K.1 hj
   have hbk := HL.out _ (List.getElem_mem hlt)
   have hbW : l[k].way.length ≤ 4194304 := by simp only [bulkOp, bulkStringS] at hbk; omega
   have hbJ : bulkJ (m + 1) l[k].value ≤ 4194304 := by simp only [bulkOp] at hbk; omega
   have HKe := Hd.mk hK0; have HR1 := Hd.mk hr1; have HJ := Hd.mk hj
   clear hK0 hr1 hr2 hr3 hj
   have htl : (l.take k).length = k := by rw [List.length_take]; omega
   have x0 : wr.cell? (ad.add (k * 7)) = some (.int .i64 l[k].kind) := e0 _ rfl
   have x1 : wr.cell? ⟨(ad.add (k * 7)).block, (ad.add (k * 7)).off + 1, none⟩ = some (.slice A1 l[k].way.length c1) := e1 0 _ rfl
   have x2 : wr.cell? ⟨(ad.add (k * 7)).block, (ad.add (k * 7)).off + 2, none⟩ = some (.int .i64 l[k].value.kind) := e1 1 _ rfl
   have x3 : wr.cell? ⟨(ad.add (k * 7)).block, (ad.add (k * 7)).off + 3, none⟩ = some (.int .i64 l[k].value.n) := e1 2 _ rfl
   have x4 : wr.cell? ⟨(ad.add (k * 7)).block, (ad.add (k * 7)).off + 4, none⟩ = some (.string l[k].value.s) := e1 3 _ rfl
   have x5 : wr.cell? ⟨(ad.add (k * 7)).block, (ad.add (k * 7)).off + 5, none⟩ = some (.slice A2 l[k].value.list.length c2) := e1 4 _ rfl
   have x6 : wr.cell? ⟨(ad.add (k * 7)).block, (ad.add (k * 7)).off + 6, none⟩ = some (.slice A3 l[k].value.names.length c3) := e1 5 _ rfl
   clear e0 e1
   have hB := HB
   have hBr := Hd.mk (Below.refl wr.heap.size wr)
   go_wp2_with fail
   obtain ⟨y_0, y_1, y_2, y_3, y_4, y_5, y_6⟩ := reg7 x0 x1 x2 x3 x4 x5 x6
   refine region_mixT (.q 0 (.q 1 (.q 2 (.q 3 (.q 4 (.q 5 (.q 6 (.q 8 (.q 9 (.q 10 (.q 11 (.q 12 (.q 14 (.q 15 (.q 16 (.q 17 (.q 18 (.b 7 (.b 13 (.b 19 (.q 20 (.b 21 .fin)))))))))))))))))))))) [22, 23] (by kernel_rfl) (by kernel_rfl) (fun _ _ _ _ _ h => h) ?_
   refine genT ?_
   intro W1 hW
   have hS := Hd.mk (show Below wr.heap.size wr W1 by rw [hW]; exact below_drew (Below.refl _ _))
   have hz_ : wr.heap.size ≤ W1.heap.size := by rw [hW]; simp
   have hE : Below wr.heap.size wr W1 := by rw [hW]; (repeat (first | with_reducible refine below_alloc ?_ _ | with_reducible refine below_drew ?_)); exact Below.refl _ _
   have hB := hB.th hE
   have hBr := Hd.mk (below_then hBr.out hE)
   clear hW hE
   have z1 := Hd.mk hz_; clear hz_
   iterate 17 (refine mixT_q rfl ?_; go_big_quiet_want; go_big_quiet_op; go_big_quiet_on; refine wpQuiet_nil ?_)
   refine mixT_b rfl ?_ (by rfl)
   go_wp2_with fail
   refine ⟨cls_below (below_alloc hS.out _), ?_⟩
   refine genT ?_; intro W2 hW
   have hE0 := Hd.mk (show str.R 9 W2 (fun k => k = W1.heap.size) (.slice (some ⟨W1.heap.size, 0, none⟩) 1 1) [s] by rw [hW]; exact R_one' s hs rfl)
   have hz_ : W1.heap.size + 1 ≤ W2.heap.size := by rw [hW]; simp
   have hE : Below W1.heap.size W1 W2 := by rw [hW]; (repeat (first | with_reducible refine below_alloc ?_ _ | with_reducible refine below_drew ?_)); exact Below.refl _ _
   have hB := hB.th hE
   have hBr := Hd.mk (below_then hBr.out hE)
   replace hS := Hd.mk (below_then hS.out hE)
   clear hW hE
   have z2 := Hd.mk hz_; clear hz_
   refine mixT_b rfl ?_ (by rfl)
   have hSz := hB.out.size
   have z1_ := z1.out; have z2_ := z2.out
   go_wp2_with (at_builtin; refine append_str rfl _ _ 25 9 (.string ByteArray.empty) 16 rfl Try.underlying25 info_str rfl (by decide) (S := fun k => k = W1.heap.size) (S' := (fun k => k = W1.heap.size ∨ W2.heap.size ≤ k)) (xs := [s]) (ys := l[k].way) rfl rfl hE0.out (C_below HR1.out hBr.out) (fun k h => Or.inl h) (fun k h => Or.inr h) (by simp; omega) (fun v1 w3 hv hX => ?_); obtain ⟨D1, d1, hve, hd1, _⟩ := R_C hv; subst hve)
   clear hE0
   have hBw := HB.out.size
   have hBr := Hd.mk (below_frS hBr.out hX (fun k h => by (try simp only at h); omega))
   have z1_ := z1.out; have z2_ := z2.out
   have hSz := hB.out.size
   replace hS := Hd.mk (below_frS hS.out hX (fun k h => by (try simp only [rng] at h); (try simp only at h); omega))
   have hB := Hd.mk (below_frS hB.out hX (fun k h => by skip; (try simp only [rng] at h); (try simp only at h); omega))
   have hz_ := hX.size
   clear hX
   have z3 := Hd.mk hz_; clear hz_
   have hO := Hd.mk (R_bound hv); clear hv
   refine ⟨cls_below hS.out, ?_⟩
   refine mixT_b rfl ?_ (by rfl)
   go_wp2_with fail
   apply calls_gen; intro W4 hW
   have hz_ : w3.heap.size ≤ W4.heap.size := by rw [hW]; simp
   have hE : Below w3.heap.size w3 W4 := by rw [hW]; (repeat (first | with_reducible refine below_alloc ?_ _ | with_reducible refine below_drew ?_)); exact Below.refl _ _
   have hB := hB.th hE
   have hBr := Hd.mk (below_then hBr.out hE)
   replace hS := Hd.mk (below_then hS.out hE)
   have hO := Hd.mk (R_below hO.out hE)
   clear hW hE
   have z4 := Hd.mk hz_; clear hz_
   refine (spec_l1Copy l[k].value _ _ (Ty.K_below _ hBr.out HJ.out) hbJ).mono ?_
   rintro e w5 ⟨cs', rfl, hO2, hX⟩
   have hO := Hd.mk (R_below hO.out hX)
   have hB := hB.th hX
   replace hS := Hd.mk (below_then hS.out hX)
   have hz_ := hX.size
   have hBr := Hd.mk (below_then hBr.out hX)
   clear hX
   have z5 := Hd.mk hz_; clear hz_
   obtain ⟨v3, v4, _, _, rfl, hsz3, hr3, hr4, _⟩ := tJ_O.1 hO2
   obtain ⟨D2, d2, rfl, _, _⟩ := R_C hr3
   obtain ⟨D3, d3, rfl, _, _⟩ := R_C hr4
   clear hr3 hr4
   replace hO2 := Hd.mk (show (tJ (m + 1)).O w5 (rng W4.heap.size w5.heap.size) l[k].value _ from Ty.O_bound _ hO2)
   go_wp2_with fail
   refine ⟨cls_below hS.out, ?_⟩
   refine mixT_q rfl ?_
   go_big_quiet_want; go_big_quiet_op; go_big_quiet_on; refine wpQuiet_nil ?_
   refine mixT_b rfl ?_ (by rfl)
   go_wp2_with fail
   refine ⟨cls_below (below_alloc hS.out _), ?_⟩
   refine mixT_fin ?_
   clear hS
   skip
   refine tail_b rfl ?_ (by rfl)
   have z1_ := z1.out; have z2_ := z2.out; have z3_ := z3.out; have z4_ := z4.out; have z5_ := z5.out
   have hSz := hB.out.size
   have hBw := HB.out.size
   go_wp2_with (at_builtin; refine append_oneN (tOp (m + 1)) (n := w5.heap.size) (by simp) rfl _ _ 33 38 (.agg #[.int .i64 0, .slice none 0 0, .int .i64 0, .int .i64 0, .string ByteArray.empty, .slice none 0 0, .slice none 0 0]) 112 rfl Try.underlying33 info_OpS rfl (by rw [tOp_sz]; omega) (by decide) (S := fun k => w.heap.size ≤ k ∧ k < wr.heap.size) (T := fun k => (wr.heap.size ≤ k ∧ k < w5.heap.size)) (S' := fun k => w.heap.size ≤ k) (v := vv) (xs := underL s (l.take k)) ⟨l[k].kind, s :: l[k].way, l[k].value⟩ [Value.int IntKind.i64 l[k].kind, .slice D1 (s :: l[k].way).length d1, .int .i64 l[k].value.kind, .int .i64 l[k].value.n, .string l[k].value.s, .slice D2 l[k].value.list.length d2, .slice D3 l[k].value.names.length d3] rfl rfl (R_mono (S' := fun k => w.heap.size ≤ k ∧ k < wr.heap.size) (fun k h => h) (R_below (R_bound HK.out) hBr.out)) (tOp_O.2 ⟨_, _, _, _, rfl, hO.out, hO2.out, fun k h => by have := h.2; rcases h.1 with h1 | h1 <;> (refine ⟨by omega, by omega⟩), fun k h => by have := h.1; have := h.2; refine ⟨by omega, by omega⟩, fun k h h2 => by have := h.2; have := h2.1; omega⟩) (fun k h1 hl h2 => by have := h1.1; have := h2.2; omega) (fun k h => h.1) (fun k h => by have := h.1; omega) (fun k h => by (try simp only at h); omega) (by simp only [underL, List.length_map, htl]; omega) (fun v5 w5 hv5 hf5 => ?_))
   have HV := Hd.mk hv5
   have HB5 := Hd.mk (below_frS hB.out hf5 (fun k h => h.1))
   clear hv5 hf5
   refine mixQ_n ?_
   refine tail_b rfl ?_ (by rfl)
   go_wp2_with fail
   refine mixQ_n ?_
   refine tail_nil ?_
   go_wp2_with fail
   go_roundw
   case rel => exact ⟨k + 1, _, by omega, by go_num, rfl, ⟨by have h := HV.out; rw [List.take_succ_eq_append_getElem hlt, underL_append]; exact h⟩, HB5⟩
   case measure => simp [intOf]; omega
  ·obtain rfl : k = l.length := by omega
   go_wp2_with fail
   go_ret
   have := HK.out
   rw [List.take_length] at this
   exact ⟨_, rfl, this, HB.out⟩
theorem spec_Under {m : Nat} (s : ByteArray) (hs : s.size ≤ 9223372036854775807) (A : Option Addr) (c : Nat) (l : List JOp) (w : World) (hr : (tOp (m + 1)).C w A l) (hl : bulkOpS (m + 1) l ≤ 4194304) :
  Calls Try.prog 19 #[.string s, .slice A l.length c] w fun e w' => ∃ v, e = .returned v ∧ (tOp (m + 1)).R 38 w' (fun k => w.heap.size ≤ k) v (underL s l) ∧ Below w.heap.size w w' := by
 simp only [bulkOpS] at hl
 exact spec_UnderE s hs A c l w hr (by omega) (fun x hx => Nat.le_trans (bulkL_mem (bulkOp (m + 1)) hx) (Nat.le_trans (Nat.le_add_left _ _) hl))
theorem Bnd_getV {B : Nat} : ∀ (way : List ByteArray) (x y : J), getV x way = some y → Bnd B x → Bnd B y
 | [], x, y, h, hx => by
  rw [getV] at h
  obtain rfl := Option.some.inj h
  exact hx
 | s :: way, x, y, h, hx => by
  rw [getV] at h
  by_cases h1 : placeS x s < 0
  ·rw [if_pos h1] at h; cases h
  ·rw [if_neg h1] at h
   cases hz : x.list[(placeS x s).toNat]? with
   | none => rw [hz] at h; cases h
   | some z => rw [hz] at h; exact Bnd_getV way z y h (hx.elem (List.mem_of_getElem? hz))
theorem Bnd_null (B : Nat) : Bnd B J.null := fun m => by rw [bulk_null]; exact Nat.zero_le _
theorem Bnd_zero (B : Nat) : Bnd B ⟨0, 0, ⟨#[]⟩, [], []⟩ := fun m => by
 have h := bulk_kn m 0 0 J.null
 have h2 := bulk_null m
 exact Nat.le_trans (Nat.le_of_eq (h.trans h2)) (Nat.zero_le _)
theorem Bnd_getJ {B : Nat} {x : J} (way : List ByteArray) (hx : Bnd B x) : Bnd B (getJ x way) := by
 unfold getJ
 split
 ·cases h : getV x way with
  | none => exact Bnd_null B
  | some y => exact Bnd_getV way x y h hx
 ·exact Bnd_null B
theorem way_bulk {way : List ByteArray} {B : Nat} (h1 : way.length ≤ 6) (h2 : ∀ s ∈ way, s.size ≤ B + 60) (hB : B ≤ 100000) : bulkStringS way ≤ 4194304 := by
 have h3 := bulkL_le4 ByteArray.size (B + 60) way h2
 have h4 : way.length * (B + 60) ≤ 6 * (B + 60) := Nat.mul_le_mul_right _ h1
 simp only [bulkStringS]
 omega
theorem spec_l1DrawRight2 (W0 w : World) (g : Nat) (hc : Cur W0 w g) : Calls Try.prog 105 #[.pointer (some ⟨g, 0, none⟩), .int .i64 2] w fun e w' => ∃ (j : J) (cs : List Value), e = .returned (.agg cs.toArray) ∧ DrG 2 j ∧ (tJ 2).O w' (fun k => w.heap.size ≤ k) j cs ∧ Cur W0 w' g ∧ Fr w w' (fun k => k = g) := spec_l1DrawRight 1 (by decide) W0 w g hc
set_option maxHeartbeats 8000000 in
set_option maxRecDepth 100000 in
theorem spec_l4DrawOp {B : Nat} {S : Nat → Prop} (j : J) (cs : List Value) (W0 w : World) (g : Nat) (hB0 : 30000 ≤ B) (hB1 : B ≤ 100000) (hO : (tJ 9).O w S j cs) (hSg : ¬ S g) (hbj : Bnd B j) (hc : Cur W0 w g) :
  Calls Try.prog 81 #[.pointer (some ⟨g, 0, none⟩), .agg cs.toArray] w fun e w' => ∃ (o : JOp) (cs' : List Value), e = .returned (.agg cs'.toArray) ∧ (tOp 9).O w' (fun k => w.heap.size ≤ k) o cs' ∧ o.way.length ≤ 7 ∧ (∀ s ∈ o.way, s.size ≤ B + 60) ∧ Bnd B o.value ∧ Cur W0 w' g ∧ Fr w w' (fun k => k = g) := by
 have HB0 := Hd.mk hB0; have HB1 := Hd.mk hB1; clear hB0 hB1
 have hO := Hd.mk (Ty.O_bound _ hO)
 have hSg := Hd.mk hSg
 obtain ⟨v3, v4, _, _, rfl, _, hr3, hr4, _⟩ := tJ_O.1 hO.out
 obtain ⟨A3, c3, rfl, _, _⟩ := R_C hr3
 obtain ⟨A4, c4, rfl, _, _⟩ := R_C hr4
 clear hr3 hr4
 have HBN := Hd.mk hbj; clear hbj
 have hg := Hd.mk hc.lt
 have hC := Hd.mk hc; clear hc
 have hB := Hd.mk (Fr.refl w (fun k => k = g))
 go_enter Try.func81, Try.ntmps81
 go_upto_region 1 with fail
 apply wp_gen; intro W1 hW
 have hz_ : w.heap.size + 2 ≤ W1.heap.size := by rw [hW]; simp
 have hE : Below w.heap.size w W1 := by rw [hW]; (repeat (first | with_reducible refine below_alloc ?_ _ | with_reducible refine below_drew ?_)); exact Below.refl _ _
 have hB := Hd.mk (hB.out.trans (Fr.of_below hE _))
 have hC := Hd.mk (hC.out.below hE)
 have b0 := Hd.mk (show Blk W1 (w.heap.size) #[.int .i64 j.kind, .int .i64 j.n, .string j.s, .slice A3 j.list.length c3, .slice A4 j.names.length c4] 27 by rw [hW]; first | exact ((Blk.new _ _ _).alloc _) | (simpa using ((Blk.new _ _ _).alloc _)))
 have b1 := Hd.mk (show Blk W1 (w.heap.size + 1) #[.int .i64 0, .slice none 0 0, .int .i64 0, .int .i64 0, .string ⟨#[]⟩, .slice none 0 0, .slice none 0 0] 38 by rw [hW]; first | exact (Blk.new1 _ _ _ _) | (simpa using (Blk.new1 _ _ _ _)))
 have hO := hO.ob hE
 clear hW hE
 have z1 := Hd.mk hz_; clear hz_
 go_cut [5] from 8 to 63 (fun s5 wx => ∃ (p : Nat) (n : Int) (AW : Option Addr) (cW : Nat) (way : List ByteArray), s5 = .pointer (some ⟨p, 0, none⟩) ∧ Hd (way.length ≤ 6) ∧ Hd (∀ s ∈ way, s.size ≤ B + 60) ∧ Hd (Blk wx w.heap.size #[.int .i64 j.kind, .int .i64 j.n, .string j.s, .slice A3 j.list.length c3, .slice A4 j.names.length c4] 27) ∧ Hd (Blk wx (w.heap.size + 1) #[.int .i64 0, .slice none 0 0, .int .i64 0, .int .i64 0, .string ⟨#[]⟩, .slice none 0 0, .slice none 0 0] 38) ∧ Hd (Blk wx p #[.int .i64 n, .slice AW way.length cW, .int .i64 0, .int .i64 0, .string ⟨#[]⟩, .slice none 0 0, .slice none 0 0] 38) ∧ Hd ((tJ 9).O wx (fun q => S q ∧ q < w.heap.size) j [Value.int IntKind.i64 j.kind, .int .i64 j.n, .string j.s, .slice A3 j.list.length c3, .slice A4 j.names.length c4]) ∧ Hd (str.R 9 wx (fun q => w.heap.size + 2 ≤ q ∧ q ≠ p) (Value.slice AW way.length cW) way) ∧ Hd (Cur W0 wx g) ∧ Hd (Fr w wx (fun k => k = g)) ∧ Hd (w.heap.size + 2 ≤ p ∧ p < wx.heap.size))
 case first =>
  have sb0 := Hd.mk b0.out
  have sb1 := Hd.mk b1.out
  refine region_mixC (fun w2 => Fr W1 w2 (fun k => k = g)) (.q 4 (.p 0 (.p 3 (.br 1 7 (.p 2 (.br 5 7 (.q 6 (.b 7 .fin)) (.b 5 (.q 6 .fin)))) (.b 1 (.p 2 (.b 5 (.q 6 .fin)))))))) [8] (by kernel_rfl) (Fr.drew (Fr.refl _ _)) (by kernel_rfl) (fun _ _ _ _ _ h => h) ?_
  refine genT ?_
  intro W2 hW
  have hS := Hd.mk (show Fr W1 W2 (fun k => k = g) by rw [hW]; exact Fr.drew (Fr.refl _ _))
  have hz_ : W1.heap.size ≤ W2.heap.size := by rw [hW]; simp
  have hE : Below W1.heap.size W1 W2 := by rw [hW]; (repeat (first | with_reducible refine below_alloc ?_ _ | with_reducible refine below_drew ?_)); exact Below.refl _ _
  have hB := Hd.mk (hB.out.trans (Fr.of_below hE _))
  have hC := Hd.mk (hC.out.below hE)
  have b0 := b0.dn hE
  have b1 := b1.dn hE
  have hO := hO.ob hE
  clear hW hE
  have z2 := Hd.mk hz_; clear hz_
  refine mixT_see rfl (by rfl) (Value.agg #[.int .i64 j.kind, .int .i64 j.n, .string j.s, .slice A3 j.list.length c3, .slice A4 j.names.length c4]) (fun w_ hw_ => by have z1_ := z1.out; have z2_ := z2.out; have f0_ := (sb0.out.fr hw_ (fun h => by have hg_ := hg.out; skip; have hlt_ := sb0.out.lt; (try simp only at h); omega)).cell 0 rfl; have f1_ := (sb0.out.fr hw_ (fun h => by have hg_ := hg.out; skip; have hlt_ := sb0.out.lt; (try simp only at h); omega)).cell 1 rfl; have f2_ := (sb0.out.fr hw_ (fun h => by have hg_ := hg.out; skip; have hlt_ := sb0.out.lt; (try simp only at h); omega)).cell 2 rfl; have f3_ := (sb0.out.fr hw_ (fun h => by have hg_ := hg.out; skip; have hlt_ := sb0.out.lt; (try simp only at h); omega)).cell 3 rfl; have f4_ := (sb0.out.fr hw_ (fun h => by have hg_ := hg.out; skip; have hlt_ := sb0.out.lt; (try simp only at h); omega)).cell 4 rfl; simp [execOp, go_sem, f0_, f1_, f2_, f3_, f4_]) hS.out ?_
  obtain ⟨v00, v01, v02, v03, v04, v0z⟩ := blk5 b0.out
  obtain ⟨v10, v11, v12, v13, v14, v15, v16, v1z⟩ := blk7 b1.out
  go_wp2_with fail
  refine mixQ_n ?_
  clear v00 v01 v02 v03 v04 v0z v10 v11 v12 v13 v14 v15 v16 v1z
  iterate 2 (refine mixT_p rfl ?_; go_big_quiet_want; go_big_quiet_op; go_big_quiet_on; refine wpQuiet_nil ?_)
  refine ⟨?_, ?_⟩
  ·refine stepM_of rfl ?_ (by rfl)
   go_wp2_with fail
   apply calls_gen; intro W3 hW
   have hz_ : W2.heap.size ≤ W3.heap.size := by rw [hW]; simp
   have hE : Below W2.heap.size W2 W3 := by rw [hW]; (repeat (first | with_reducible refine below_alloc ?_ _ | with_reducible refine below_drew ?_)); exact Below.refl _ _
   have hB := Hd.mk (hB.out.trans (Fr.of_below hE _))
   have hC := Hd.mk (hC.out.below hE)
   replace hS := Hd.mk (hS.out.trans (Fr.of_below hE _))
   have b0 := b0.dn hE
   have b1 := b1.dn hE
   have hO := hO.ob hE
   clear hW hE
   have z3 := Hd.mk hz_; clear hz_
   refine (spec_l1Below 4 W0 _ g hC.out).mono ?_
   rintro e w4 ⟨n0, rfl, n0a, n0b, _, hC1, hX⟩
   have hC := Hd.mk hC1; clear hC1
   have hSz0 := hB.out.size
   have hg_ := hg.out
   have z1_ := z1.out; have z2_ := z2.out; have z3_ := z3.out
   have b0 := Hd.mk (b0.out.fr hX (fun h => by skip; (try simp only at h); omega))
   have b1 := Hd.mk (b1.out.fr hX (fun h => by skip; (try simp only at h); omega))
   have hO := Hd.mk (Ty.O_fr hO.out hX (fun k hk hl h => by have q_ := hk.2; (try have h_ : k = g := h); (try have hn_ : (1 : Int) = 2 := (hSg.out (h_ ▸ hk.1)).elim); (try simp only [rng] at hk); (try simp only at hk); (try simp only at h); omega))
   have hB := Hd.mk (hB.out.trans hX)
   replace hS := Hd.mk (hS.out.trans hX)
   have hz_ := hX.size
   clear hSz0 hg_ hX
   have z4 := Hd.mk hz_; clear hz_
   replace n0b := n0b (by omega)
   go_wp2_with fail
   refine ⟨hS.out, ?_⟩
   refine mixT_p rfl ?_
   go_big_quiet_want; go_big_quiet_op; go_big_quiet_on; refine wpQuiet_nil ?_
   refine ⟨?_, ?_⟩
   ·refine stepM_of rfl ?_ (by rfl)
    go_wp2_with fail
    apply calls_gen; intro W5 hW
    have hz_ : w4.heap.size ≤ W5.heap.size := by rw [hW]; simp
    have hE : Below w4.heap.size w4 W5 := by rw [hW]; (repeat (first | with_reducible refine below_alloc ?_ _ | with_reducible refine below_drew ?_)); exact Below.refl _ _
    have hB := Hd.mk (hB.out.trans (Fr.of_below hE _))
    have hC := Hd.mk (hC.out.below hE)
    replace hS := Hd.mk (hS.out.trans (Fr.of_below hE _))
    have b0 := b0.dn hE
    have b1 := b1.dn hE
    have hO := hO.ob hE
    clear hW hE
    have z5 := Hd.mk hz_; clear hz_
    have hB1_ := HB1.out
    refine (spec_l3DrawWay (B := B) (S := (fun q => S q ∧ q < w.heap.size)) j [Value.int IntKind.i64 j.kind, .int .i64 j.n, .string j.s, .slice A3 j.list.length c3, .slice A4 j.names.length c4] W0 _ g (by omega) hO.out (fun h => hSg.out h.1) HBN.out hC.out).mono ?_
    rintro e w6 ⟨vW, way, rfl, hWy, hwl, hws, hC1, hX⟩
    have hC := Hd.mk hC1; clear hC1
    have hSz0 := hB.out.size
    have hg_ := hg.out
    have z1_ := z1.out; have z2_ := z2.out; have z3_ := z3.out; have z4_ := z4.out; have z5_ := z5.out
    have b0 := Hd.mk (b0.out.fr hX (fun h => by skip; (try simp only at h); omega))
    have b1 := Hd.mk (b1.out.fr hX (fun h => by skip; (try simp only at h); omega))
    have hO := Hd.mk (Ty.O_fr hO.out hX (fun k hk hl h => by have q_ := hk.2; (try have h_ : k = g := h); (try have hn_ : (1 : Int) = 2 := (hSg.out (h_ ▸ hk.1)).elim); (try simp only [rng] at hk); (try simp only at hk); (try simp only at h); omega))
    have hB := Hd.mk (hB.out.trans hX)
    replace hS := Hd.mk (hS.out.trans hX)
    have hz_ := hX.size
    clear hSz0 hg_ hX
    have z6 := Hd.mk hz_; clear hz_
    obtain ⟨AW, cW, hvW, hcW, _⟩ := R_C hWy
    subst hvW
    have hWy := Hd.mk (show str.R 9 w6 (rng W5.heap.size w6.heap.size) _ way from R_bound hWy)
    replace hwl := Hd.mk hwl; replace hws := Hd.mk hws
    go_wp2_with fail
    refine ⟨hS.out, ?_⟩
    refine mixT_see rfl (by rfl) (Value.agg #[.int .i64 (1 + n0), .slice AW way.length cW, .int .i64 0, .int .i64 0, .string ⟨#[]⟩, .slice none 0 0, .slice none 0 0]) (fun w_ hw_ => by first | (simp [execOp, go_sem]; done) | kernel_rfl) hS.out ?_
    obtain ⟨v00, v01, v02, v03, v04, v0z⟩ := blk5 b0.out
    obtain ⟨v10, v11, v12, v13, v14, v15, v16, v1z⟩ := blk7 b1.out
    go_wp2_with fail
    refine mixQ_n ?_
    clear v00 v01 v02 v03 v04 v0z v10 v11 v12 v13 v14 v15 v16 v1z
    refine mixT_b rfl ?_ (by rfl)
    go_wp2_with fail
    refine ⟨hS.out.alloc _, ?_⟩
    refine genT ?_; intro W7 hW
    have hz_ : w6.heap.size + 1 ≤ W7.heap.size := by rw [hW]; simp
    have hE : Below w6.heap.size w6 W7 := by rw [hW]; (repeat (first | with_reducible refine below_alloc ?_ _ | with_reducible refine below_drew ?_)); exact Below.refl _ _
    have hB := Hd.mk (hB.out.trans (Fr.of_below hE _))
    have hC := Hd.mk (hC.out.below hE)
    replace hS := Hd.mk (hS.out.trans (Fr.of_below hE _))
    have b0 := b0.dn hE
    have b1 := b1.dn hE
    have b2 := Hd.mk (show Blk W7 (w6.heap.size) #[.int .i64 0, .slice none 0 0, .int .i64 0, .int .i64 0, .string ⟨#[]⟩, .slice none 0 0, .slice none 0 0] 38 by rw [hW]; first | exact (Blk.new _ _ _) | (simpa using (Blk.new _ _ _)))
    have hO := hO.ob hE
    have hWy := Hd.mk (R_below hWy.out hE)
    clear hW hE
    have z7 := Hd.mk hz_; clear hz_
    refine mixT_fin ?_
    clear hS
    obtain ⟨v00, v01, v02, v03, v04, v0z⟩ := blk5 b0.out
    obtain ⟨v10, v11, v12, v13, v14, v15, v16, v1z⟩ := blk7 b1.out
    obtain ⟨v20, v21, v22, v23, v24, v25, v26, v2z⟩ := blk7 b2.out
    refine tail_b rfl ?_ (by rfl)
    clear v00 v01 v02 v03 v04 v0z v10 v11 v12 v13 v14 v15 v16 v1z v20 v21 v22 v23 v24 v25 v26 v2z
    go_wp2_with (refine store_blk rfl 38 _ _ rfl (w6.heap.size) #[.int .i64 (1 + n0), .slice AW way.length cW, .int .i64 0, .int .i64 0, .string ⟨#[]⟩, .slice none 0 0, .slice none 0 0] rfl rfl b2.out info7 rfl (by simp [Value.oneCell']) (fun W5 b5 hf5 hz5 => ?_))
    have hX := hf5
    clear hf5 b2
    have z1_ := z1.out; have z2_ := z2.out; have z3_ := z3.out; have z4_ := z4.out; have z5_ := z5.out; have z6_ := z6.out; have z7_ := z7.out
    have z1_ := z1.out; have z2_ := z2.out; have z3_ := z3.out; have z4_ := z4.out; have z5_ := z5.out; have z6_ := z6.out; have z7_ := z7.out
    have hSz := hB.out.size
    have b0 := Hd.mk (b0.out.fr hX (fun h => by have hlt_ := b0.out.lt; skip; (try simp only [rng] at h); (try simp only at h); omega))
    have b1 := Hd.mk (b1.out.fr hX (fun h => by have hlt_ := b1.out.lt; skip; (try simp only [rng] at h); (try simp only at h); omega))
    have hO := Hd.mk (Ty.O_fr hO.out hX (fun k hk hl h => by have q_ := hk.2; (try have h_ : k = g := h); (try have hn_ : (1 : Int) = 2 := (hSg.out (h_ ▸ hk.1)).elim); (try simp only [rng] at hk h); (try simp only at hk); (try simp only at h); omega))
    have hWy := Hd.mk (R_fr hWy.out hX (fun k hk hl h => by skip; (try simp only [rng] at hk h); (try simp only at hk); (try simp only at h); omega))
    have hC := Hd.mk (hC.out.fr hX (fun h => by have hg_ := hg.out; have hlt_ := hC.out.lt; (try simp only [rng] at h); (try simp only at h); omega) (fun k h => by have hg_ := hg.out; have hge_ := hC.out.ge; (try simp only [rng] at h); (try simp only at h); omega))
    have hB := Hd.mk (hB.out.then_ hX (fun k h hl => by (try simp only [rng] at h); (try simp only at h); omega))
    have hz_ := hX.size
    clear hX
    have z8 := Hd.mk hz_; clear hz_
    have b2 := Hd.mk b5; clear b5 hz5
    refine mixQ_n ?_
    refine tail_nil ?_
    go_wp2_with fail
    go_meet
    have z1_ := z1.out; have z2_ := z2.out; have z3_ := z3.out; have z4_ := z4.out; have z5_ := z5.out; have z6_ := z6.out; have z7_ := z7.out; have z8_ := z8.out
    have hSz_ := hB.out.size
    exact ⟨w6.heap.size, _, AW, cW, way, rfl, hwl, hws, b0, b1, b2, hO, ⟨R_mono (fun q h => by have h1 := h.1; have h2 := h.2; exact ⟨by omega, by omega⟩) hWy.out⟩, hC, hB, ⟨by omega, by omega⟩⟩
   ·refine stepM_of rfl ?_ (by rfl)
    go_wp2_with fail
    refine ⟨hS.out.alloc _, ?_⟩
    refine genT ?_; intro W5 hW
    have hz_ : w4.heap.size + 1 ≤ W5.heap.size := by rw [hW]; simp
    have hE : Below w4.heap.size w4 W5 := by rw [hW]; (repeat (first | with_reducible refine below_alloc ?_ _ | with_reducible refine below_drew ?_)); exact Below.refl _ _
    have hB := Hd.mk (hB.out.trans (Fr.of_below hE _))
    have hC := Hd.mk (hC.out.below hE)
    replace hS := Hd.mk (hS.out.trans (Fr.of_below hE _))
    have b0 := b0.dn hE
    have b1 := b1.dn hE
    have b2 := Hd.mk (show Blk W5 (w4.heap.size) #[.int .i64 0, .slice none 0 0, .int .i64 0, .int .i64 0, .string ⟨#[]⟩, .slice none 0 0, .slice none 0 0] 38 by rw [hW]; first | exact (Blk.new _ _ _) | (simpa using (Blk.new _ _ _)))
    have hO := hO.ob hE
    clear hW hE
    have z5 := Hd.mk hz_; clear hz_
    refine mixT_b rfl ?_ (by rfl)
    go_wp2_with fail
    apply calls_gen; intro W6 hW
    have hz_ : W5.heap.size ≤ W6.heap.size := by rw [hW]; simp
    have hE : Below W5.heap.size W5 W6 := by rw [hW]; (repeat (first | with_reducible refine below_alloc ?_ _ | with_reducible refine below_drew ?_)); exact Below.refl _ _
    have hB := Hd.mk (hB.out.trans (Fr.of_below hE _))
    have hC := Hd.mk (hC.out.below hE)
    replace hS := Hd.mk (hS.out.trans (Fr.of_below hE _))
    have b0 := b0.dn hE
    have b1 := b1.dn hE
    have b2 := b2.dn hE
    have hO := hO.ob hE
    clear hW hE
    have z6 := Hd.mk hz_; clear hz_
    have hB1_ := HB1.out
    refine (spec_l3DrawWay (B := B) (S := (fun q => S q ∧ q < w.heap.size)) j [Value.int IntKind.i64 j.kind, .int .i64 j.n, .string j.s, .slice A3 j.list.length c3, .slice A4 j.names.length c4] W0 _ g (by omega) hO.out (fun h => hSg.out h.1) HBN.out hC.out).mono ?_
    rintro e w7 ⟨vW, way, rfl, hWy, hwl, hws, hC1, hX⟩
    have hC := Hd.mk hC1; clear hC1
    have hSz0 := hB.out.size
    have hg_ := hg.out
    have z1_ := z1.out; have z2_ := z2.out; have z3_ := z3.out; have z4_ := z4.out; have z5_ := z5.out; have z6_ := z6.out
    have b0 := Hd.mk (b0.out.fr hX (fun h => by skip; (try simp only at h); omega))
    have b1 := Hd.mk (b1.out.fr hX (fun h => by skip; (try simp only at h); omega))
    have b2 := Hd.mk (b2.out.fr hX (fun h => by skip; (try simp only at h); omega))
    have hO := Hd.mk (Ty.O_fr hO.out hX (fun k hk hl h => by have q_ := hk.2; (try have h_ : k = g := h); (try have hn_ : (1 : Int) = 2 := (hSg.out (h_ ▸ hk.1)).elim); (try simp only [rng] at hk); (try simp only at hk); (try simp only at h); omega))
    have hB := Hd.mk (hB.out.trans hX)
    replace hS := Hd.mk (hS.out.trans hX)
    have hz_ := hX.size
    clear hSz0 hg_ hX
    have z7 := Hd.mk hz_; clear hz_
    obtain ⟨AW, cW, hvW, hcW, _⟩ := R_C hWy
    subst hvW
    have hWy := Hd.mk (show str.R 9 w7 (rng W6.heap.size w7.heap.size) _ way from R_bound hWy)
    replace hwl := Hd.mk hwl; replace hws := Hd.mk hws
    go_wp2_with fail
    refine ⟨hS.out, ?_⟩
    refine mixT_see rfl (by rfl) (Value.agg #[.int .i64 (1 + n0), .slice AW way.length cW, .int .i64 0, .int .i64 0, .string ⟨#[]⟩, .slice none 0 0, .slice none 0 0]) (fun w_ hw_ => by first | (simp [execOp, go_sem]; done) | kernel_rfl) hS.out ?_
    obtain ⟨v00, v01, v02, v03, v04, v0z⟩ := blk5 b0.out
    obtain ⟨v10, v11, v12, v13, v14, v15, v16, v1z⟩ := blk7 b1.out
    obtain ⟨v20, v21, v22, v23, v24, v25, v26, v2z⟩ := blk7 b2.out
    go_wp2_with fail
    refine mixQ_n ?_
    clear v00 v01 v02 v03 v04 v0z v10 v11 v12 v13 v14 v15 v16 v1z v20 v21 v22 v23 v24 v25 v26 v2z
    refine mixT_fin ?_
    clear hS
    obtain ⟨v00, v01, v02, v03, v04, v0z⟩ := blk5 b0.out
    obtain ⟨v10, v11, v12, v13, v14, v15, v16, v1z⟩ := blk7 b1.out
    obtain ⟨v20, v21, v22, v23, v24, v25, v26, v2z⟩ := blk7 b2.out
    refine tail_b rfl ?_ (by rfl)
    clear v00 v01 v02 v03 v04 v0z v10 v11 v12 v13 v14 v15 v16 v1z v20 v21 v22 v23 v24 v25 v26 v2z
    go_wp2_with (refine store_blk rfl 38 _ _ rfl (w4.heap.size) #[.int .i64 (1 + n0), .slice AW way.length cW, .int .i64 0, .int .i64 0, .string ⟨#[]⟩, .slice none 0 0, .slice none 0 0] rfl rfl b2.out info7 rfl (by simp [Value.oneCell']) (fun W5 b5 hf5 hz5 => ?_))
    have hX := hf5
    clear hf5 b2
    have z1_ := z1.out; have z2_ := z2.out; have z3_ := z3.out; have z4_ := z4.out; have z5_ := z5.out; have z6_ := z6.out; have z7_ := z7.out
    have z1_ := z1.out; have z2_ := z2.out; have z3_ := z3.out; have z4_ := z4.out; have z5_ := z5.out; have z6_ := z6.out; have z7_ := z7.out
    have hSz := hB.out.size
    have b0 := Hd.mk (b0.out.fr hX (fun h => by have hlt_ := b0.out.lt; skip; (try simp only [rng] at h); (try simp only at h); omega))
    have b1 := Hd.mk (b1.out.fr hX (fun h => by have hlt_ := b1.out.lt; skip; (try simp only [rng] at h); (try simp only at h); omega))
    have hO := Hd.mk (Ty.O_fr hO.out hX (fun k hk hl h => by have q_ := hk.2; (try have h_ : k = g := h); (try have hn_ : (1 : Int) = 2 := (hSg.out (h_ ▸ hk.1)).elim); (try simp only [rng] at hk h); (try simp only at hk); (try simp only at h); omega))
    have hWy := Hd.mk (R_fr hWy.out hX (fun k hk hl h => by skip; (try simp only [rng] at hk h); (try simp only at hk); (try simp only at h); omega))
    have hC := Hd.mk (hC.out.fr hX (fun h => by have hg_ := hg.out; have hlt_ := hC.out.lt; (try simp only [rng] at h); (try simp only at h); omega) (fun k h => by have hg_ := hg.out; have hge_ := hC.out.ge; (try simp only [rng] at h); (try simp only at h); omega))
    have hB := Hd.mk (hB.out.then_ hX (fun k h hl => by (try simp only [rng] at h); (try simp only at h); omega))
    have hz_ := hX.size
    clear hX
    have z8 := Hd.mk hz_; clear hz_
    have b2 := Hd.mk b5; clear b5 hz5
    refine mixQ_n ?_
    refine tail_nil ?_
    go_wp2_with fail
    go_meet
    have z1_ := z1.out; have z2_ := z2.out; have z3_ := z3.out; have z4_ := z4.out; have z5_ := z5.out; have z6_ := z6.out; have z7_ := z7.out; have z8_ := z8.out
    have hSz_ := hB.out.size
    exact ⟨w4.heap.size, _, AW, cW, way, rfl, hwl, hws, b0, b1, b2, hO, ⟨R_mono (fun q h => by have h1 := h.1; have h2 := h.2; exact ⟨by omega, by omega⟩) hWy.out⟩, hC, hB, ⟨by omega, by omega⟩⟩
  ·refine stepM_of rfl ?_ (by rfl)
   go_wp2_with fail
   refine ⟨hS.out.alloc _, ?_⟩
   refine genT ?_; intro W3 hW
   have hz_ : W2.heap.size + 1 ≤ W3.heap.size := by rw [hW]; simp
   have hE : Below W2.heap.size W2 W3 := by rw [hW]; (repeat (first | with_reducible refine below_alloc ?_ _ | with_reducible refine below_drew ?_)); exact Below.refl _ _
   have hB := Hd.mk (hB.out.trans (Fr.of_below hE _))
   have hC := Hd.mk (hC.out.below hE)
   replace hS := Hd.mk (hS.out.trans (Fr.of_below hE _))
   have b0 := b0.dn hE
   have b1 := b1.dn hE
   have b2 := Hd.mk (show Blk W3 (W2.heap.size) #[.int .i64 0, .slice none 0 0, .int .i64 0, .int .i64 0, .string ⟨#[]⟩, .slice none 0 0, .slice none 0 0] 38 by rw [hW]; first | exact (Blk.new _ _ _) | (simpa using (Blk.new _ _ _)))
   have hO := hO.ob hE
   clear hW hE
   have z3 := Hd.mk hz_; clear hz_
   refine mixT_b rfl ?_ (by rfl)
   go_wp2_with fail
   apply calls_gen; intro W4 hW
   have hz_ : W3.heap.size ≤ W4.heap.size := by rw [hW]; simp
   have hE : Below W3.heap.size W3 W4 := by rw [hW]; (repeat (first | with_reducible refine below_alloc ?_ _ | with_reducible refine below_drew ?_)); exact Below.refl _ _
   have hB := Hd.mk (hB.out.trans (Fr.of_below hE _))
   have hC := Hd.mk (hC.out.below hE)
   replace hS := Hd.mk (hS.out.trans (Fr.of_below hE _))
   have b0 := b0.dn hE
   have b1 := b1.dn hE
   have b2 := b2.dn hE
   have hO := hO.ob hE
   clear hW hE
   have z4 := Hd.mk hz_; clear hz_
   refine (spec_l1Below 4 W0 _ g hC.out).mono ?_
   rintro e w5 ⟨n0, rfl, n0a, n0b, _, hC1, hX⟩
   have hC := Hd.mk hC1; clear hC1
   have hSz0 := hB.out.size
   have hg_ := hg.out
   have z1_ := z1.out; have z2_ := z2.out; have z3_ := z3.out; have z4_ := z4.out
   have b0 := Hd.mk (b0.out.fr hX (fun h => by skip; (try simp only at h); omega))
   have b1 := Hd.mk (b1.out.fr hX (fun h => by skip; (try simp only at h); omega))
   have b2 := Hd.mk (b2.out.fr hX (fun h => by skip; (try simp only at h); omega))
   have hO := Hd.mk (Ty.O_fr hO.out hX (fun k hk hl h => by have q_ := hk.2; (try have h_ : k = g := h); (try have hn_ : (1 : Int) = 2 := (hSg.out (h_ ▸ hk.1)).elim); (try simp only [rng] at hk); (try simp only at hk); (try simp only at h); omega))
   have hB := Hd.mk (hB.out.trans hX)
   replace hS := Hd.mk (hS.out.trans hX)
   have hz_ := hX.size
   clear hSz0 hg_ hX
   have z5 := Hd.mk hz_; clear hz_
   replace n0b := n0b (by omega)
   go_wp2_with fail
   refine ⟨hS.out, ?_⟩
   refine mixT_p rfl ?_
   go_big_quiet_want; go_big_quiet_op; go_big_quiet_on; refine wpQuiet_nil ?_
   refine mixT_b rfl ?_ (by rfl)
   go_wp2_with fail
   apply calls_gen; intro W6 hW
   have hz_ : w5.heap.size ≤ W6.heap.size := by rw [hW]; simp
   have hE : Below w5.heap.size w5 W6 := by rw [hW]; (repeat (first | with_reducible refine below_alloc ?_ _ | with_reducible refine below_drew ?_)); exact Below.refl _ _
   have hB := Hd.mk (hB.out.trans (Fr.of_below hE _))
   have hC := Hd.mk (hC.out.below hE)
   replace hS := Hd.mk (hS.out.trans (Fr.of_below hE _))
   have b0 := b0.dn hE
   have b1 := b1.dn hE
   have b2 := b2.dn hE
   have hO := hO.ob hE
   clear hW hE
   have z6 := Hd.mk hz_; clear hz_
   have hB1_ := HB1.out
   refine (spec_l3DrawWay (B := B) (S := (fun q => S q ∧ q < w.heap.size)) j [Value.int IntKind.i64 j.kind, .int .i64 j.n, .string j.s, .slice A3 j.list.length c3, .slice A4 j.names.length c4] W0 _ g (by omega) hO.out (fun h => hSg.out h.1) HBN.out hC.out).mono ?_
   rintro e w7 ⟨vW, way, rfl, hWy, hwl, hws, hC1, hX⟩
   have hC := Hd.mk hC1; clear hC1
   have hSz0 := hB.out.size
   have hg_ := hg.out
   have z1_ := z1.out; have z2_ := z2.out; have z3_ := z3.out; have z4_ := z4.out; have z5_ := z5.out; have z6_ := z6.out
   have b0 := Hd.mk (b0.out.fr hX (fun h => by skip; (try simp only at h); omega))
   have b1 := Hd.mk (b1.out.fr hX (fun h => by skip; (try simp only at h); omega))
   have b2 := Hd.mk (b2.out.fr hX (fun h => by skip; (try simp only at h); omega))
   have hO := Hd.mk (Ty.O_fr hO.out hX (fun k hk hl h => by have q_ := hk.2; (try have h_ : k = g := h); (try have hn_ : (1 : Int) = 2 := (hSg.out (h_ ▸ hk.1)).elim); (try simp only [rng] at hk); (try simp only at hk); (try simp only at h); omega))
   have hB := Hd.mk (hB.out.trans hX)
   replace hS := Hd.mk (hS.out.trans hX)
   have hz_ := hX.size
   clear hSz0 hg_ hX
   have z7 := Hd.mk hz_; clear hz_
   obtain ⟨AW, cW, hvW, hcW, _⟩ := R_C hWy
   subst hvW
   have hWy := Hd.mk (show str.R 9 w7 (rng W6.heap.size w7.heap.size) _ way from R_bound hWy)
   replace hwl := Hd.mk hwl; replace hws := Hd.mk hws
   go_wp2_with fail
   refine ⟨hS.out, ?_⟩
   refine mixT_see rfl (by rfl) (Value.agg #[.int .i64 (1 + n0), .slice AW way.length cW, .int .i64 0, .int .i64 0, .string ⟨#[]⟩, .slice none 0 0, .slice none 0 0]) (fun w_ hw_ => by first | (simp [execOp, go_sem]; done) | kernel_rfl) hS.out ?_
   obtain ⟨v00, v01, v02, v03, v04, v0z⟩ := blk5 b0.out
   obtain ⟨v10, v11, v12, v13, v14, v15, v16, v1z⟩ := blk7 b1.out
   obtain ⟨v20, v21, v22, v23, v24, v25, v26, v2z⟩ := blk7 b2.out
   go_wp2_with fail
   refine mixQ_n ?_
   clear v00 v01 v02 v03 v04 v0z v10 v11 v12 v13 v14 v15 v16 v1z v20 v21 v22 v23 v24 v25 v26 v2z
   refine mixT_fin ?_
   clear hS
   obtain ⟨v00, v01, v02, v03, v04, v0z⟩ := blk5 b0.out
   obtain ⟨v10, v11, v12, v13, v14, v15, v16, v1z⟩ := blk7 b1.out
   obtain ⟨v20, v21, v22, v23, v24, v25, v26, v2z⟩ := blk7 b2.out
   refine tail_b rfl ?_ (by rfl)
   clear v00 v01 v02 v03 v04 v0z v10 v11 v12 v13 v14 v15 v16 v1z v20 v21 v22 v23 v24 v25 v26 v2z
   go_wp2_with (refine store_blk rfl 38 _ _ rfl (W2.heap.size) #[.int .i64 (1 + n0), .slice AW way.length cW, .int .i64 0, .int .i64 0, .string ⟨#[]⟩, .slice none 0 0, .slice none 0 0] rfl rfl b2.out info7 rfl (by simp [Value.oneCell']) (fun W5 b5 hf5 hz5 => ?_))
   have hX := hf5
   clear hf5 b2
   have z1_ := z1.out; have z2_ := z2.out; have z3_ := z3.out; have z4_ := z4.out; have z5_ := z5.out; have z6_ := z6.out; have z7_ := z7.out
   have z1_ := z1.out; have z2_ := z2.out; have z3_ := z3.out; have z4_ := z4.out; have z5_ := z5.out; have z6_ := z6.out; have z7_ := z7.out
   have hSz := hB.out.size
   have b0 := Hd.mk (b0.out.fr hX (fun h => by have hlt_ := b0.out.lt; skip; (try simp only [rng] at h); (try simp only at h); omega))
   have b1 := Hd.mk (b1.out.fr hX (fun h => by have hlt_ := b1.out.lt; skip; (try simp only [rng] at h); (try simp only at h); omega))
   have hO := Hd.mk (Ty.O_fr hO.out hX (fun k hk hl h => by have q_ := hk.2; (try have h_ : k = g := h); (try have hn_ : (1 : Int) = 2 := (hSg.out (h_ ▸ hk.1)).elim); (try simp only [rng] at hk h); (try simp only at hk); (try simp only at h); omega))
   have hWy := Hd.mk (R_fr hWy.out hX (fun k hk hl h => by skip; (try simp only [rng] at hk h); (try simp only at hk); (try simp only at h); omega))
   have hC := Hd.mk (hC.out.fr hX (fun h => by have hg_ := hg.out; have hlt_ := hC.out.lt; (try simp only [rng] at h); (try simp only at h); omega) (fun k h => by have hg_ := hg.out; have hge_ := hC.out.ge; (try simp only [rng] at h); (try simp only at h); omega))
   have hB := Hd.mk (hB.out.then_ hX (fun k h hl => by (try simp only [rng] at h); (try simp only at h); omega))
   have hz_ := hX.size
   clear hX
   have z8 := Hd.mk hz_; clear hz_
   have b2 := Hd.mk b5; clear b5 hz5
   refine mixQ_n ?_
   refine tail_nil ?_
   go_wp2_with fail
   go_meet
   have z1_ := z1.out; have z2_ := z2.out; have z3_ := z3.out; have z4_ := z4.out; have z5_ := z5.out; have z6_ := z6.out; have z7_ := z7.out; have z8_ := z8.out
   have hSz_ := hB.out.size
   exact ⟨W2.heap.size, _, AW, cW, way, rfl, hwl, hws, b0, b1, b2, hO, ⟨R_mono (fun q h => by have h1 := h.1; have h2 := h.2; exact ⟨by omega, by omega⟩) hWy.out⟩, hC, hB, ⟨by omega, by omega⟩⟩
 case rest =>
 clear b0 b1 hO hC hB
 obtain ⟨p, n, AW, cW, way, rfl, hwl, hws, b0, b1, b2, hO, hWy, hC, hB, hzw⟩ := hcut
 obtain ⟨hzp, hzw⟩ := hzw.out
 have hzp := Hd.mk hzp; replace hzw := Hd.mk hzw
 obtain ⟨N1, hN1⟩ : ∃ z, z = wc.heap.size := ⟨_, rfl⟩
 have HN1 := Hd.mk (show p < N1 ∧ N1 ≤ wc.heap.size by rw [hN1]; exact ⟨hzw.out, Nat.le_refl _⟩)
 have hWy := Hd.mk (show str.R 9 wc (fun q => w.heap.size + 2 ≤ q ∧ q ≠ p ∧ q < N1) _ way from R_mono (fun q h => ⟨h.1.1, h.1.2, by rw [hN1]; exact h.2⟩) (R_bound hWy.out))
 clear hN1
 obtain ⟨v00, v01, v02, v03, v04, v0z⟩ := blk5 b0.out
 obtain ⟨v10, v11, v12, v13, v14, v15, v16, v1z⟩ := blk7 b1.out
 obtain ⟨v20, v21, v22, v23, v24, v25, v26, v2z⟩ := blk7 b2.out
 go_upto_if 17 with fail
 clear v00 v01 v02 v03 v04 v0z v10 v11 v12 v13 v14 v15 v16 v1z v20 v21 v22 v23 v24 v25 v26 v2z
 go_cut [] from 15 to 63 (fun wx => ∃ (v : J) (V3 V4 : Option Addr) (k3 k4 : Nat), Hd (Bnd B v) ∧ Hd (Blk wx w.heap.size #[.int .i64 j.kind, .int .i64 j.n, .string j.s, .slice A3 j.list.length c3, .slice A4 j.names.length c4] 27) ∧ Hd (Blk wx (w.heap.size + 1) #[.int .i64 0, .slice none 0 0, .int .i64 0, .int .i64 0, .string ⟨#[]⟩, .slice none 0 0, .slice none 0 0] 38) ∧ Hd (Blk wx p #[.int .i64 n, .slice AW way.length cW, .int .i64 v.kind, .int .i64 v.n, .string v.s, .slice V3 v.list.length k3, .slice V4 v.names.length k4] 38) ∧ Hd ((tJ 9).O wx (fun q => S q ∧ q < w.heap.size) j [Value.int IntKind.i64 j.kind, .int .i64 j.n, .string j.s, .slice A3 j.list.length c3, .slice A4 j.names.length c4]) ∧ Hd (str.R 9 wx (fun q => w.heap.size + 2 ≤ q ∧ q ≠ p ∧ q < N1) (Value.slice AW way.length cW) way) ∧ Hd ((tJ 9).O wx (fun q => N1 ≤ q) v [Value.int IntKind.i64 v.kind, .int .i64 v.n, .string v.s, .slice V3 v.list.length k3, .slice V4 v.names.length k4]) ∧ Hd (Cur W0 wx g) ∧ Hd (Fr w wx (fun k => k = g)) ∧ Hd (p < wx.heap.size ∧ N1 ≤ wx.heap.size))
 case first =>
  by_cases hn2 : n = 2
  ·subst hn2
   have hb2 : ((2 : Int) != 2) = false := by rfl
   obtain ⟨v00, v01, v02, v03, v04, v0z⟩ := blk5 b0.out
   obtain ⟨v10, v11, v12, v13, v14, v15, v16, v1z⟩ := blk7 b1.out
   obtain ⟨v20, v21, v22, v23, v24, v25, v26, v2z⟩ := blk7 b2.out
   go_wp2_with fail
   clear v00 v01 v02 v03 v04 v0z v10 v11 v12 v13 v14 v15 v16 v1z v20 v21 v22 v23 v24 v25 v26 v2z
   go_meet
   exact ⟨⟨0, 0, ⟨#[]⟩, [], []⟩, none, none, 0, 0, ⟨Bnd_zero B⟩, b0, b1, b2, hO, hWy, ⟨O_flat0 _ _ _ (by decide)⟩, hC, hB, ⟨hzw.out, HN1.out.2⟩⟩
  ·have hb2 : (n != 2) = true := by simpa using hn2
   have hd2 : decide (n = 2) = false := decide_eq_false hn2
   obtain ⟨v00, v01, v02, v03, v04, v0z⟩ := blk5 b0.out
   obtain ⟨v10, v11, v12, v13, v14, v15, v16, v1z⟩ := blk7 b1.out
   obtain ⟨v20, v21, v22, v23, v24, v25, v26, v2z⟩ := blk7 b2.out
   go_wp2_with fail
   clear v00 v01 v02 v03 v04 v0z v10 v11 v12 v13 v14 v15 v16 v1z v20 v21 v22 v23 v24 v25 v26 v2z
   refine (spec_l1DrawRight2 W0 _ g hC.out).mono ?_
   rintro e w2 ⟨x, csx, rfl, hDX, hOX, hC1, hX⟩
   have hC := Hd.mk hC1; clear hC1
   have hSz0 := hB.out.size
   have hg_ := hg.out
   have hzp_ := hzp.out; have hzw_ := hzw.out
   have b0 := Hd.mk (b0.out.fr hX (fun h => by skip; (try simp only at h); omega))
   have b1 := Hd.mk (b1.out.fr hX (fun h => by skip; (try simp only at h); omega))
   have b2 := Hd.mk (b2.out.fr hX (fun h => by skip; (try simp only at h); omega))
   have hO := Hd.mk (Ty.O_fr hO.out hX (fun k hk hl h => by have q_ := hk.2; (try have h_ : k = g := h); (try have hn_ : (1 : Int) = 2 := (hSg.out (h_ ▸ hk.1)).elim); (try simp only [rng] at hk); (try simp only at hk); (try simp only at h); omega))
   have hWy := Hd.mk (R_fr hWy.out hX (fun k hk hl h => by have q_ := hk; have hg_ := hg.out; have hN_ := HN1.out; (try simp only [rng] at hk); (try simp only at hk); (try simp only at h); omega))
   have hB := Hd.mk (hB.out.trans hX)
   have hz_ := hX.size
   clear hSz0 hg_ hX
   have z2 := Hd.mk hz_; clear hz_
   obtain ⟨xv3, xv4, _, _, rfl, _, xr3, xr4, _⟩ := tJ_O.1 hOX
   obtain ⟨xD3, xd3, rfl, _, _⟩ := R_C xr3
   obtain ⟨xD4, xd4, rfl, _, _⟩ := R_C xr4
   clear xr3 xr4
   have HBX := Hd.mk (show Bnd B x from fun m => Nat.le_trans (DrG_bulk 2 m x hDX) (by have := HB0.out; simp only [drB]; omega))
   clear hDX
   have hOX := Hd.mk (show (tJ 9).O w2 (rng wc.heap.size w2.heap.size) x _ from (tJ_le (show 2 ≤ 9 by decide)).O _ _ _ _ (Ty.O_bound _ hOX))
   obtain ⟨v00, v01, v02, v03, v04, v0z⟩ := blk5 b0.out
   obtain ⟨v10, v11, v12, v13, v14, v15, v16, v1z⟩ := blk7 b1.out
   obtain ⟨v20, v21, v22, v23, v24, v25, v26, v2z⟩ := blk7 b2.out
   go_wp2_with fail
   clear v00 v01 v02 v03 v04 v0z v10 v11 v12 v13 v14 v15 v16 v1z v20 v21 v22 v23 v24 v25 v26 v2z
   have hN_ := HN1.out
   apply calls_gen; intro W3 hW
   have hz_ : w2.heap.size ≤ W3.heap.size := by rw [hW]; simp
   have eF : Fr w2 W3 (fun k => k = p ∨ w2.heap.size ≤ k) := by rw [hW]; (repeat (first | with_reducible refine Fr.setCell ?_ _ (fun _ => by simp <;> omega) _ | with_reducible refine Fr.alloc ?_ _ | with_reducible refine Fr.drew ?_)); exact Fr.refl _ _
   have hzp_ := hzp.out; have hzw_ := hzw.out; have z2_ := z2.out
   have hC := Hd.mk (hC.out.fr eF (fun h => by have hg_ := hg.out; have hlt_ := hC.out.lt; (try simp only [rng] at h); (try simp only at h); omega) (fun k h => by have hg_ := hg.out; have hge_ := hC.out.ge; (try simp only [rng] at h); (try simp only at h); omega))
   have hB := Hd.mk (hB.out.then_ eF (fun k h hl => by (try simp only [rng] at h); (try simp only at h); omega))
   have b0 := Hd.mk (b0.out.fr eF (fun h => by have hlt_ := b0.out.lt; (try simp only at h); omega))
   have b1 := Hd.mk (b1.out.fr eF (fun h => by have hlt_ := b1.out.lt; (try simp only at h); omega))
   have b2 := Hd.mk (show Blk W3 (p) #[.int .i64 n, .slice AW way.length cW, .int .i64 x.kind, .int .i64 x.n, .string x.s, .slice xD3 x.list.length xd3, .slice xD4 x.names.length xd4] 38 by rw [hW]; exact (((((b2.out.set 2 (Value.int IntKind.i64 x.kind)).set 3 (Value.int IntKind.i64 x.n)).set 4 (Value.string x.s)).set 5 (Value.slice xD3 x.list.length xd3)).set 6 (Value.slice xD4 x.names.length xd4)))
   have hO := Hd.mk (Ty.O_fr hO.out eF (fun k hk hl h => by have q_ := hk.2; (try have h_ : k = g := h); (try have hn_ : (1 : Int) = 2 := (hSg.out (h_ ▸ hk.1)).elim); (try simp only [rng] at hk); (try simp only at hk); (try simp only at h); omega))
   have hWy := Hd.mk (R_fr hWy.out eF (fun k hk hl h => by have q_ := hk; have hg_ := hg.out; have hN_ := HN1.out; (try simp only [rng] at hk); (try simp only at hk); (try simp only at h); omega))
   have hOX := Hd.mk (Ty.O_fr hOX.out eF (fun k hk hl h => by have hN_ := HN1.out; (try simp only [rng] at hk); (try simp only at hk); (try simp only at h); omega))
   clear hW eF
   have z3 := Hd.mk hz_; clear hz_
   clear hN_
   refine (spec_Get (m := 8) j [Value.int IntKind.i64 j.kind, .int .i64 j.n, .string j.s, .slice A3 j.list.length c3, .slice A4 j.names.length c4] AW cW way _ (Ty.O_K _ hO.out) (R_Cv hWy.out) (Nat.le_trans (HBN.out 9) (by have := HB1.out; omega)) (way_bulk hwl.out hws.out HB1.out)).mono ?_
   rintro e w4 ⟨csP, rfl, hOP, hX⟩
   have b0 := b0.dn hX
   have b1 := b1.dn hX
   have b2 := b2.dn hX
   have hO := hO.ob hX
   have hWy := Hd.mk (R_below hWy.out hX)
   have hOX := hOX.ob hX
   have hB := Hd.mk (hB.out.trans (Fr.of_below hX _))
   have hC := Hd.mk (hC.out.below hX)
   have hz_ := hX.size
   clear hX
   have z4 := Hd.mk hz_; clear hz_
   obtain ⟨y, hy⟩ : ∃ z, z = getJ j way := ⟨_, rfl⟩
   have HBY := Hd.mk (show Bnd B y by rw [hy]; exact Bnd_getJ way HBN.out)
   rw [← hy] at hOP
   clear hy
   obtain ⟨ok, hok⟩ : ∃ z, z = getB j way := ⟨_, rfl⟩
   rw [← hok]
   clear hok
   obtain ⟨yv3, yv4, _, _, rfl, _, yr3, yr4, _⟩ := tJ_O.1 hOP
   obtain ⟨yD3, yd3, rfl, _, _⟩ := R_C yr3
   obtain ⟨yD4, yd4, rfl, _, _⟩ := R_C yr4
   clear yr3 yr4
   have hOP := Hd.mk (show (tJ 9).O w4 (rng W3.heap.size w4.heap.size) y _ from Ty.O_bound _ hOP)
   cases ok
   ·have v00 : w4.cell? ⟨w.heap.size, 0, none⟩ = some (.int .i64 j.kind) := b0.out.cell 0 rfl
    have v01 : w4.cell? ⟨w.heap.size, 1, none⟩ = some (.int .i64 j.n) := b0.out.cell 1 rfl
    have v02 : w4.cell? ⟨w.heap.size, 2, none⟩ = some (.string j.s) := b0.out.cell 2 rfl
    have v03 : w4.cell? ⟨w.heap.size, 3, none⟩ = some (.slice A3 j.list.length c3) := b0.out.cell 3 rfl
    have v04 : w4.cell? ⟨w.heap.size, 4, none⟩ = some (.slice A4 j.names.length c4) := b0.out.cell 4 rfl
    have v0z := b0.out.frozen
    obtain ⟨v10, v11, v12, v13, v14, v15, v16, v1z⟩ := blk7 b1.out
    obtain ⟨v20, v21, v22, v23, v24, v25, v26, v2z⟩ := blk7 b2.out
    have key : ∀ W, W = w4.alloc (.cells #[.int .i64 y.kind, .int .i64 y.n, .string y.s, .slice yD3 y.list.length yd3, .slice yD4 y.names.length yd4] 27) → ∃ (v : J) (V3 V4 : Option Addr) (k3 k4 : Nat), Hd (Bnd B v) ∧ Hd (Blk W w.heap.size #[.int .i64 j.kind, .int .i64 j.n, .string j.s, .slice A3 j.list.length c3, .slice A4 j.names.length c4] 27) ∧ Hd (Blk W (w.heap.size + 1) #[.int .i64 0, .slice none 0 0, .int .i64 0, .int .i64 0, .string ⟨#[]⟩, .slice none 0 0, .slice none 0 0] 38) ∧ Hd (Blk W p #[.int .i64 n, .slice AW way.length cW, .int .i64 v.kind, .int .i64 v.n, .string v.s, .slice V3 v.list.length k3, .slice V4 v.names.length k4] 38) ∧ Hd ((tJ 9).O W (fun q => S q ∧ q < w.heap.size) j [Value.int IntKind.i64 j.kind, .int .i64 j.n, .string j.s, .slice A3 j.list.length c3, .slice A4 j.names.length c4]) ∧ Hd (str.R 9 W (fun q => w.heap.size + 2 ≤ q ∧ q ≠ p ∧ q < N1) (Value.slice AW way.length cW) way) ∧ Hd ((tJ 9).O W (fun q => N1 ≤ q) v [Value.int IntKind.i64 v.kind, .int .i64 v.n, .string v.s, .slice V3 v.list.length k3, .slice V4 v.names.length k4]) ∧ Hd (Cur W0 W g) ∧ Hd (Fr w W (fun k => k = g)) ∧ Hd (p < W.heap.size ∧ N1 ≤ W.heap.size) := by
     intro W hW
     have hzp_ := hzp.out; have hzw_ := hzw.out; have z2_ := z2.out; have z3_ := z3.out; have z4_ := z4.out
     have hN_ := HN1.out
     have hSz_ := hB.out.size
     have hz_ : w4.heap.size + 1 ≤ W.heap.size := by rw [hW]; simp
     have hE : Below w4.heap.size w4 W := by rw [hW]; (repeat (first | with_reducible refine below_alloc ?_ _ | with_reducible refine below_drew ?_)); exact Below.refl _ _
     have hB := Hd.mk (hB.out.trans (Fr.of_below hE _))
     have hC := Hd.mk (hC.out.below hE)
     have b0 := b0.dn hE
     have b1 := b1.dn hE
     have b2 := b2.dn hE
     have b3 := Hd.mk (show Blk W (w4.heap.size) #[.int .i64 y.kind, .int .i64 y.n, .string y.s, .slice yD3 y.list.length yd3, .slice yD4 y.names.length yd4] 27 by rw [hW]; first | exact (Blk.new _ _ _) | (simpa using (Blk.new _ _ _)))
     have hO := hO.ob hE
     have hWy := Hd.mk (R_below hWy.out hE)
     have hOX := hOX.ob hE
     have hOP := hOP.ob hE
     clear hW hE
     have z5 := Hd.mk hz_; clear hz_
     exact ⟨x, _, _, _, _, HBX, b0, b1, b2, hO, hWy, ⟨Ty.O_mono _ (fun q h => by have h1 := h.1; have hN_ := HN1.out; have hzp_ := hzp.out; have hzw_ := hzw.out; have z2_ := z2.out; have z3_ := z3.out; have z4_ := z4.out; have z5_ := z5.out; (try simp only); omega) hOX.out⟩, hC, hB, ⟨by have hzp_ := hzp.out; have hzw_ := hzw.out; have z2_ := z2.out; have z3_ := z3.out; have z4_ := z4.out; have z5_ := z5.out; omega, by have hN_ := HN1.out; have hzp_ := hzp.out; have hzw_ := hzw.out; have z2_ := z2.out; have z3_ := z3.out; have z4_ := z4.out; have z5_ := z5.out; omega⟩⟩
    go_wp2_with fail
    clear v00 v01 v02 v03 v04 v0z v10 v11 v12 v13 v14 v15 v16 v1z v20 v21 v22 v23 v24 v25 v26 v2z
    go_meet
    exact key _ rfl
   ·by_cases hn4 : n = 4
    ·subst hn4
     have hb4 : ((4 : Int) == 4) = true := by rfl
     obtain ⟨v00, v01, v02, v03, v04, v0z⟩ := blk5 b0.out
     obtain ⟨v10, v11, v12, v13, v14, v15, v16, v1z⟩ := blk7 b1.out
     obtain ⟨v20, v21, v22, v23, v24, v25, v26, v2z⟩ := blk7 b2.out
     have lfb := fun o => cell_below (below_alloc (Below.refl _ _) o) v20
     go_wp2_with fail
     clear lfb
     clear v00 v01 v02 v03 v04 v0z v10 v11 v12 v13 v14 v15 v16 v1z v20 v21 v22 v23 v24 v25 v26 v2z
     apply calls_gen; intro W5 hW
     have hz_ : w4.heap.size + 1 ≤ W5.heap.size := by rw [hW]; simp
     have hE : Below w4.heap.size w4 W5 := by rw [hW]; (repeat (first | with_reducible refine below_alloc ?_ _ | with_reducible refine below_drew ?_)); exact Below.refl _ _
     have hB := Hd.mk (hB.out.trans (Fr.of_below hE _))
     have hC := Hd.mk (hC.out.below hE)
     have b0 := b0.dn hE
     have b1 := b1.dn hE
     have b2 := b2.dn hE
     have b3 := Hd.mk (show Blk W5 (w4.heap.size) #[.int .i64 y.kind, .int .i64 y.n, .string y.s, .slice yD3 y.list.length yd3, .slice yD4 y.names.length yd4] 27 by rw [hW]; first | exact (Blk.new _ _ _) | (simpa using (Blk.new _ _ _)))
     have hO := hO.ob hE
     have hWy := Hd.mk (R_below hWy.out hE)
     have hOX := hOX.ob hE
     have hOP := hOP.ob hE
     clear hW hE
     have z5 := Hd.mk hz_; clear hz_
     refine (spec_l1Once 2 W0 _ g hC.out).mono ?_
     rintro e w6 ⟨bo, rfl, hC1, hX⟩
     have hC := Hd.mk hC1; clear hC1
     have hSz0 := hB.out.size
     have hg_ := hg.out
     have hzp_ := hzp.out; have hzw_ := hzw.out; have z2_ := z2.out; have z3_ := z3.out; have z4_ := z4.out; have z5_ := z5.out
     have b0 := Hd.mk (b0.out.fr hX (fun h => by skip; (try simp only at h); omega))
     have b1 := Hd.mk (b1.out.fr hX (fun h => by skip; (try simp only at h); omega))
     have b2 := Hd.mk (b2.out.fr hX (fun h => by skip; (try simp only at h); omega))
     have b3 := Hd.mk (b3.out.fr hX (fun h => by skip; (try simp only at h); omega))
     have hO := Hd.mk (Ty.O_fr hO.out hX (fun k hk hl h => by have q_ := hk.2; (try have h_ : k = g := h); (try have hn_ : (1 : Int) = 2 := (hSg.out (h_ ▸ hk.1)).elim); (try simp only [rng] at hk); (try simp only at hk); (try simp only at h); omega))
     have hWy := Hd.mk (R_fr hWy.out hX (fun k hk hl h => by have q_ := hk; have hg_ := hg.out; have hN_ := HN1.out; (try simp only [rng] at hk); (try simp only at hk); (try simp only at h); omega))
     have hOX := Hd.mk (Ty.O_fr hOX.out hX (fun k hk hl h => by have hN_ := HN1.out; (try simp only [rng] at hk); (try simp only at hk); (try simp only at h); omega))
     have hOP := Hd.mk (Ty.O_fr hOP.out hX (fun k hk hl h => by have hN_ := HN1.out; (try simp only [rng] at hk); (try simp only at hk); (try simp only at h); omega))
     have hB := Hd.mk (hB.out.trans hX)
     have hz_ := hX.size
     clear hSz0 hg_ hX
     have z6 := Hd.mk hz_; clear hz_
     cases bo
     ·have v00 : w6.cell? ⟨w.heap.size, 0, none⟩ = some (.int .i64 j.kind) := b0.out.cell 0 rfl
      have v01 : w6.cell? ⟨w.heap.size, 1, none⟩ = some (.int .i64 j.n) := b0.out.cell 1 rfl
      have v02 : w6.cell? ⟨w.heap.size, 2, none⟩ = some (.string j.s) := b0.out.cell 2 rfl
      have v03 : w6.cell? ⟨w.heap.size, 3, none⟩ = some (.slice A3 j.list.length c3) := b0.out.cell 3 rfl
      have v04 : w6.cell? ⟨w.heap.size, 4, none⟩ = some (.slice A4 j.names.length c4) := b0.out.cell 4 rfl
      have v0z := b0.out.frozen
      obtain ⟨v10, v11, v12, v13, v14, v15, v16, v1z⟩ := blk7 b1.out
      obtain ⟨v20, v21, v22, v23, v24, v25, v26, v2z⟩ := blk7 b2.out
      obtain ⟨v30, v31, v32, v33, v34, v3z⟩ := blk5 b3.out
      go_wp2_with fail
      clear v00 v01 v02 v03 v04 v0z v10 v11 v12 v13 v14 v15 v16 v1z v20 v21 v22 v23 v24 v25 v26 v2z v30 v31 v32 v33 v34 v3z
      go_meet
      exact ⟨x, _, _, _, _, HBX, b0, b1, b2, hO, hWy, ⟨Ty.O_mono _ (fun q h => by have h1 := h.1; have hN_ := HN1.out; have hzp_ := hzp.out; have hzw_ := hzw.out; have z2_ := z2.out; have z3_ := z3.out; have z4_ := z4.out; have z5_ := z5.out; have z6_ := z6.out; (try simp only); omega) hOX.out⟩, hC, hB, ⟨by have hzp_ := hzp.out; have hzw_ := hzw.out; have z2_ := z2.out; have z3_ := z3.out; have z4_ := z4.out; have z5_ := z5.out; have z6_ := z6.out; omega, by have hN_ := HN1.out; have hzp_ := hzp.out; have hzw_ := hzw.out; have z2_ := z2.out; have z3_ := z3.out; have z4_ := z4.out; have z5_ := z5.out; have z6_ := z6.out; omega⟩⟩
     ·have key : ∀ W, W = (((((w6.setCell ⟨p, 2, none⟩ (Value.int IntKind.i64 y.kind)).setCell ⟨p, 3, none⟩ (Value.int IntKind.i64 y.n)).setCell ⟨p, 4, none⟩ (Value.string y.s)).setCell ⟨p, 5, none⟩ (Value.slice yD3 y.list.length yd3)).setCell ⟨p, 6, none⟩ (Value.slice yD4 y.names.length yd4)) → ∃ (v : J) (V3 V4 : Option Addr) (k3 k4 : Nat), Hd (Bnd B v) ∧ Hd (Blk W w.heap.size #[.int .i64 j.kind, .int .i64 j.n, .string j.s, .slice A3 j.list.length c3, .slice A4 j.names.length c4] 27) ∧ Hd (Blk W (w.heap.size + 1) #[.int .i64 0, .slice none 0 0, .int .i64 0, .int .i64 0, .string ⟨#[]⟩, .slice none 0 0, .slice none 0 0] 38) ∧ Hd (Blk W p #[.int .i64 4, .slice AW way.length cW, .int .i64 v.kind, .int .i64 v.n, .string v.s, .slice V3 v.list.length k3, .slice V4 v.names.length k4] 38) ∧ Hd ((tJ 9).O W (fun q => S q ∧ q < w.heap.size) j [Value.int IntKind.i64 j.kind, .int .i64 j.n, .string j.s, .slice A3 j.list.length c3, .slice A4 j.names.length c4]) ∧ Hd (str.R 9 W (fun q => w.heap.size + 2 ≤ q ∧ q ≠ p ∧ q < N1) (Value.slice AW way.length cW) way) ∧ Hd ((tJ 9).O W (fun q => N1 ≤ q) v [Value.int IntKind.i64 v.kind, .int .i64 v.n, .string v.s, .slice V3 v.list.length k3, .slice V4 v.names.length k4]) ∧ Hd (Cur W0 W g) ∧ Hd (Fr w W (fun k => k = g)) ∧ Hd (p < W.heap.size ∧ N1 ≤ W.heap.size) := by
       intro W hW
       have hzp_ := hzp.out; have hzw_ := hzw.out; have z2_ := z2.out; have z3_ := z3.out; have z4_ := z4.out; have z5_ := z5.out; have z6_ := z6.out
       have hN_ := HN1.out
       have hSz_ := hB.out.size
       have hz_ : w6.heap.size ≤ W.heap.size := by rw [hW]; simp
       have eF : Fr w6 W (fun k => k = p ∨ w6.heap.size ≤ k) := by rw [hW]; (repeat (first | with_reducible refine Fr.setCell ?_ _ (fun _ => by simp <;> omega) _ | with_reducible refine Fr.alloc ?_ _ | with_reducible refine Fr.drew ?_)); exact Fr.refl _ _
       have hzp_ := hzp.out; have hzw_ := hzw.out; have z2_ := z2.out; have z3_ := z3.out; have z4_ := z4.out; have z5_ := z5.out; have z6_ := z6.out
       have hC := Hd.mk (hC.out.fr eF (fun h => by have hg_ := hg.out; have hlt_ := hC.out.lt; (try simp only [rng] at h); (try simp only at h); omega) (fun k h => by have hg_ := hg.out; have hge_ := hC.out.ge; (try simp only [rng] at h); (try simp only at h); omega))
       have hB := Hd.mk (hB.out.then_ eF (fun k h hl => by (try simp only [rng] at h); (try simp only at h); omega))
       have b0 := Hd.mk (b0.out.fr eF (fun h => by have hlt_ := b0.out.lt; (try simp only at h); omega))
       have b1 := Hd.mk (b1.out.fr eF (fun h => by have hlt_ := b1.out.lt; (try simp only at h); omega))
       have b2 := Hd.mk (show Blk W (p) #[.int .i64 4, .slice AW way.length cW, .int .i64 y.kind, .int .i64 y.n, .string y.s, .slice yD3 y.list.length yd3, .slice yD4 y.names.length yd4] 38 by rw [hW]; exact (((((b2.out.set 2 (Value.int IntKind.i64 y.kind)).set 3 (Value.int IntKind.i64 y.n)).set 4 (Value.string y.s)).set 5 (Value.slice yD3 y.list.length yd3)).set 6 (Value.slice yD4 y.names.length yd4)))
       have b3 := Hd.mk (b3.out.fr eF (fun h => by have hlt_ := b3.out.lt; (try simp only at h); omega))
       have hO := Hd.mk (Ty.O_fr hO.out eF (fun k hk hl h => by have q_ := hk.2; (try have h_ : k = g := h); (try have hn_ : (1 : Int) = 2 := (hSg.out (h_ ▸ hk.1)).elim); (try simp only [rng] at hk); (try simp only at hk); (try simp only at h); omega))
       have hWy := Hd.mk (R_fr hWy.out eF (fun k hk hl h => by have q_ := hk; have hg_ := hg.out; have hN_ := HN1.out; (try simp only [rng] at hk); (try simp only at hk); (try simp only at h); omega))
       have hOX := Hd.mk (Ty.O_fr hOX.out eF (fun k hk hl h => by have hN_ := HN1.out; (try simp only [rng] at hk); (try simp only at hk); (try simp only at h); omega))
       have hOP := Hd.mk (Ty.O_fr hOP.out eF (fun k hk hl h => by have hN_ := HN1.out; (try simp only [rng] at hk); (try simp only at hk); (try simp only at h); omega))
       clear hW eF
       have z7 := Hd.mk hz_; clear hz_
       exact ⟨y, _, _, _, _, HBY, b0, b1, b2, hO, hWy, ⟨Ty.O_mono _ (fun q h => by have h1 := h.1; have hN_ := HN1.out; have hzp_ := hzp.out; have hzw_ := hzw.out; have z2_ := z2.out; have z3_ := z3.out; have z4_ := z4.out; have z5_ := z5.out; have z6_ := z6.out; have z7_ := z7.out; (try simp only); omega) hOP.out⟩, hC, hB, ⟨by have hzp_ := hzp.out; have hzw_ := hzw.out; have z2_ := z2.out; have z3_ := z3.out; have z4_ := z4.out; have z5_ := z5.out; have z6_ := z6.out; have z7_ := z7.out; omega, by have hN_ := HN1.out; have hzp_ := hzp.out; have hzw_ := hzw.out; have z2_ := z2.out; have z3_ := z3.out; have z4_ := z4.out; have z5_ := z5.out; have z6_ := z6.out; have z7_ := z7.out; omega⟩⟩
      obtain ⟨v00, v01, v02, v03, v04, v0z⟩ := blk5 b0.out
      obtain ⟨v10, v11, v12, v13, v14, v15, v16, v1z⟩ := blk7 b1.out
      obtain ⟨v20, v21, v22, v23, v24, v25, v26, v2z⟩ := blk7 b2.out
      obtain ⟨v30, v31, v32, v33, v34, v3z⟩ := blk5 b3.out
      go_wp2_with fail
      clear v00 v01 v02 v03 v04 v0z v10 v11 v12 v13 v14 v15 v16 v1z v20 v21 v22 v23 v24 v25 v26 v2z v30 v31 v32 v33 v34 v3z
      go_meet
      exact key _ rfl
    ·have hb4 : (n == 4) = false := by simpa using hn4
     have hd4 : decide (n = 4) = false := decide_eq_false hn4
     have key : ∀ W, W = w4.alloc (.cells #[.int .i64 y.kind, .int .i64 y.n, .string y.s, .slice yD3 y.list.length yd3, .slice yD4 y.names.length yd4] 27) → ∃ (v : J) (V3 V4 : Option Addr) (k3 k4 : Nat), Hd (Bnd B v) ∧ Hd (Blk W w.heap.size #[.int .i64 j.kind, .int .i64 j.n, .string j.s, .slice A3 j.list.length c3, .slice A4 j.names.length c4] 27) ∧ Hd (Blk W (w.heap.size + 1) #[.int .i64 0, .slice none 0 0, .int .i64 0, .int .i64 0, .string ⟨#[]⟩, .slice none 0 0, .slice none 0 0] 38) ∧ Hd (Blk W p #[.int .i64 n, .slice AW way.length cW, .int .i64 v.kind, .int .i64 v.n, .string v.s, .slice V3 v.list.length k3, .slice V4 v.names.length k4] 38) ∧ Hd ((tJ 9).O W (fun q => S q ∧ q < w.heap.size) j [Value.int IntKind.i64 j.kind, .int .i64 j.n, .string j.s, .slice A3 j.list.length c3, .slice A4 j.names.length c4]) ∧ Hd (str.R 9 W (fun q => w.heap.size + 2 ≤ q ∧ q ≠ p ∧ q < N1) (Value.slice AW way.length cW) way) ∧ Hd ((tJ 9).O W (fun q => N1 ≤ q) v [Value.int IntKind.i64 v.kind, .int .i64 v.n, .string v.s, .slice V3 v.list.length k3, .slice V4 v.names.length k4]) ∧ Hd (Cur W0 W g) ∧ Hd (Fr w W (fun k => k = g)) ∧ Hd (p < W.heap.size ∧ N1 ≤ W.heap.size) := by
      intro W hW
      have hzp_ := hzp.out; have hzw_ := hzw.out; have z2_ := z2.out; have z3_ := z3.out; have z4_ := z4.out
      have hN_ := HN1.out
      have hSz_ := hB.out.size
      have hz_ : w4.heap.size + 1 ≤ W.heap.size := by rw [hW]; simp
      have hE : Below w4.heap.size w4 W := by rw [hW]; (repeat (first | with_reducible refine below_alloc ?_ _ | with_reducible refine below_drew ?_)); exact Below.refl _ _
      have hB := Hd.mk (hB.out.trans (Fr.of_below hE _))
      have hC := Hd.mk (hC.out.below hE)
      have b0 := b0.dn hE
      have b1 := b1.dn hE
      have b2 := b2.dn hE
      have b3 := Hd.mk (show Blk W (w4.heap.size) #[.int .i64 y.kind, .int .i64 y.n, .string y.s, .slice yD3 y.list.length yd3, .slice yD4 y.names.length yd4] 27 by rw [hW]; first | exact (Blk.new _ _ _) | (simpa using (Blk.new _ _ _)))
      have hO := hO.ob hE
      have hWy := Hd.mk (R_below hWy.out hE)
      have hOX := hOX.ob hE
      have hOP := hOP.ob hE
      clear hW hE
      have z5 := Hd.mk hz_; clear hz_
      exact ⟨x, _, _, _, _, HBX, b0, b1, b2, hO, hWy, ⟨Ty.O_mono _ (fun q h => by have h1 := h.1; have hN_ := HN1.out; have hzp_ := hzp.out; have hzw_ := hzw.out; have z2_ := z2.out; have z3_ := z3.out; have z4_ := z4.out; have z5_ := z5.out; (try simp only); omega) hOX.out⟩, hC, hB, ⟨by have hzp_ := hzp.out; have hzw_ := hzw.out; have z2_ := z2.out; have z3_ := z3.out; have z4_ := z4.out; have z5_ := z5.out; omega, by have hN_ := HN1.out; have hzp_ := hzp.out; have hzw_ := hzw.out; have z2_ := z2.out; have z3_ := z3.out; have z4_ := z4.out; have z5_ := z5.out; omega⟩⟩
     obtain ⟨v00, v01, v02, v03, v04, v0z⟩ := blk5 b0.out
     obtain ⟨v10, v11, v12, v13, v14, v15, v16, v1z⟩ := blk7 b1.out
     obtain ⟨v20, v21, v22, v23, v24, v25, v26, v2z⟩ := blk7 b2.out
     have lfb := fun o => cell_below (below_alloc (Below.refl _ _) o) v20
     go_wp2_with fail
     clear lfb
     clear v00 v01 v02 v03 v04 v0z v10 v11 v12 v13 v14 v15 v16 v1z v20 v21 v22 v23 v24 v25 v26 v2z
     go_meet
     exact key _ rfl
 case rest =>
 clear b0 b1 b2 hO hWy hC hB hzw
 obtain ⟨v, V3, V4, k3, k4, HBV, b0, b1, b2, hO, hWy, hOV, hC, hB, hzw⟩ := hcut
 have HN1 := Hd.mk (show p < N1 ∧ N1 ≤ wc.heap.size from ⟨HN1.out.1, hzw.out.2⟩)
 replace hzw := Hd.mk hzw.out.1
 obtain ⟨v00, v01, v02, v03, v04, v0z⟩ := blk5 b0.out
 obtain ⟨v10, v11, v12, v13, v14, v15, v16, v1z⟩ := blk7 b1.out
 obtain ⟨v20, v21, v22, v23, v24, v25, v26, v2z⟩ := blk7 b2.out
 go_wp2_with fail
 clear v00 v01 v02 v03 v04 v0z v10 v11 v12 v13 v14 v15 v16 v1z v20 v21 v22 v23 v24 v25 v26 v2z
 refine (spec_l1Below 25 W0 _ g hC.out).mono ?_
 rintro e w2 ⟨y, rfl, y0, y1, _, hC1, hX⟩
 have hC := Hd.mk hC1; clear hC1
 have hSz0 := hB.out.size
 have hg_ := hg.out
 have hzp_ := hzp.out; have hzw_ := hzw.out
 have b0 := Hd.mk (b0.out.fr hX (fun h => by skip; (try simp only at h); omega))
 have b1 := Hd.mk (b1.out.fr hX (fun h => by skip; (try simp only at h); omega))
 have b2 := Hd.mk (b2.out.fr hX (fun h => by skip; (try simp only at h); omega))
 have hO := Hd.mk (Ty.O_fr hO.out hX (fun k hk hl h => by have q_ := hk.2; (try have h_ : k = g := h); (try have hn_ : (1 : Int) = 2 := (hSg.out (h_ ▸ hk.1)).elim); (try simp only [rng] at hk); (try simp only at hk); (try simp only at h); omega))
 have hWy := Hd.mk (R_fr hWy.out hX (fun k hk hl h => by have q_ := hk; have hg_ := hg.out; have hN_ := HN1.out; (try simp only [rng] at hk); (try simp only at hk); (try simp only at h); omega))
 have hOV := Hd.mk (Ty.O_fr hOV.out hX (fun k hk hl h => by have q_ := hk; have hg_ := hg.out; have hN_ := HN1.out; (try simp only [rng] at hk); (try simp only at hk); (try simp only at h); omega))
 have hB := Hd.mk (hB.out.trans hX)
 have hz_ := hX.size
 clear hSz0 hg_ hX
 have z2 := Hd.mk hz_; clear hz_
 replace y1 := y1 (by omega)
 have hy : y = 0 ∨ y = 1 ∨ y = 2 ∨ y = 3 ∨ 4 ≤ y := by omega
 clear y0 y1
 obtain ⟨v00, v01, v02, v03, v04, v0z⟩ := blk5 b0.out
 obtain ⟨v10, v11, v12, v13, v14, v15, v16, v1z⟩ := blk7 b1.out
 obtain ⟨v20, v21, v22, v23, v24, v25, v26, v2z⟩ := blk7 b2.out
 go_upto_block 0 with fail
 clear v00 v01 v02 v03 v04 v0z v10 v11 v12 v13 v14 v15 v16 v1z v20 v21 v22 v23 v24 v25 v26 v2z
 go_cut [] from 40 to 63 (fun wx => ∃ (o : JOp) (A6 V3 V4 : Option Addr) (c6 k3 k4 : Nat), Hd (o.way.length ≤ 7) ∧ Hd (∀ s ∈ o.way, s.size ≤ B + 60) ∧ Hd (Bnd B o.value) ∧ Hd (Blk wx (w.heap.size + 1) #[.int .i64 0, .slice none 0 0, .int .i64 0, .int .i64 0, .string ⟨#[]⟩, .slice none 0 0, .slice none 0 0] 38) ∧ Hd (Blk wx p #[.int .i64 o.kind, .slice A6 o.way.length c6, .int .i64 o.value.kind, .int .i64 o.value.n, .string o.value.s, .slice V3 o.value.list.length k3, .slice V4 o.value.names.length k4] 38) ∧ Hd ((tOp 9).O wx (fun q => w.heap.size + 2 ≤ q ∧ q ≠ p) o [Value.int IntKind.i64 o.kind, .slice A6 o.way.length c6, .int .i64 o.value.kind, .int .i64 o.value.n, .string o.value.s, .slice V3 o.value.list.length k3, .slice V4 o.value.names.length k4]) ∧ Hd (Cur W0 wx g) ∧ Hd (Fr w wx (fun k => k = g)) ∧ Hd (p < wx.heap.size))
 case first =>
  rcases hy with rfl | rfl | rfl | rfl | hy
  ·have v00 : w2.cell? ⟨w.heap.size, 0, none⟩ = some (.int .i64 j.kind) := b0.out.cell 0 rfl
   have v01 : w2.cell? ⟨w.heap.size, 1, none⟩ = some (.int .i64 j.n) := b0.out.cell 1 rfl
   have v02 : w2.cell? ⟨w.heap.size, 2, none⟩ = some (.string j.s) := b0.out.cell 2 rfl
   have v03 : w2.cell? ⟨w.heap.size, 3, none⟩ = some (.slice A3 j.list.length c3) := b0.out.cell 3 rfl
   have v04 : w2.cell? ⟨w.heap.size, 4, none⟩ = some (.slice A4 j.names.length c4) := b0.out.cell 4 rfl
   have v0z := b0.out.frozen
   obtain ⟨v10, v11, v12, v13, v14, v15, v16, v1z⟩ := blk7 b1.out
   obtain ⟨v20, v21, v22, v23, v24, v25, v26, v2z⟩ := blk7 b2.out
   go_wp2_with fail
   clear v00 v01 v02 v03 v04 v0z v10 v11 v12 v13 v14 v15 v16 v1z v20 v21 v22 v23 v24 v25 v26 v2z
   refine (spec_l1Below 6 W0 _ g hC.out).mono ?_
   rintro e w3 ⟨u, rfl, u0, u1, _, hC1, hX⟩
   have hC := Hd.mk hC1; clear hC1
   have hSz0 := hB.out.size
   have hg_ := hg.out
   have hzp_ := hzp.out; have hzw_ := hzw.out; have z2_ := z2.out
   have b0 := Hd.mk (b0.out.fr hX (fun h => by skip; (try simp only at h); omega))
   have b1 := Hd.mk (b1.out.fr hX (fun h => by skip; (try simp only at h); omega))
   have b2 := Hd.mk (b2.out.fr hX (fun h => by skip; (try simp only at h); omega))
   have hO := Hd.mk (Ty.O_fr hO.out hX (fun k hk hl h => by have q_ := hk.2; (try have h_ : k = g := h); (try have hn_ : (1 : Int) = 2 := (hSg.out (h_ ▸ hk.1)).elim); (try simp only [rng] at hk); (try simp only at hk); (try simp only at h); omega))
   have hWy := Hd.mk (R_fr hWy.out hX (fun k hk hl h => by have q_ := hk; have hg_ := hg.out; have hN_ := HN1.out; (try simp only [rng] at hk); (try simp only at hk); (try simp only at h); omega))
   have hOV := Hd.mk (Ty.O_fr hOV.out hX (fun k hk hl h => by have q_ := hk; have hg_ := hg.out; have hN_ := HN1.out; (try simp only [rng] at hk); (try simp only at hk); (try simp only at h); omega))
   have hB := Hd.mk (hB.out.trans hX)
   have hz_ := hX.size
   clear hSz0 hg_ hX
   have z3 := Hd.mk hz_; clear hz_
   have key : ∀ W, W = (w3.setCell ⟨p, 0, none⟩ (Value.int IntKind.i64 u)) → ∃ (o : JOp) (A6 V3 V4 : Option Addr) (c6 k3 k4 : Nat), Hd (o.way.length ≤ 7) ∧ Hd (∀ s ∈ o.way, s.size ≤ B + 60) ∧ Hd (Bnd B o.value) ∧ Hd (Blk W (w.heap.size + 1) #[.int .i64 0, .slice none 0 0, .int .i64 0, .int .i64 0, .string ⟨#[]⟩, .slice none 0 0, .slice none 0 0] 38) ∧ Hd (Blk W p #[.int .i64 o.kind, .slice A6 o.way.length c6, .int .i64 o.value.kind, .int .i64 o.value.n, .string o.value.s, .slice V3 o.value.list.length k3, .slice V4 o.value.names.length k4] 38) ∧ Hd ((tOp 9).O W (fun q => w.heap.size + 2 ≤ q ∧ q ≠ p) o [Value.int IntKind.i64 o.kind, .slice A6 o.way.length c6, .int .i64 o.value.kind, .int .i64 o.value.n, .string o.value.s, .slice V3 o.value.list.length k3, .slice V4 o.value.names.length k4]) ∧ Hd (Cur W0 W g) ∧ Hd (Fr w W (fun k => k = g)) ∧ Hd (p < W.heap.size) := by
    intro W hW
    have hzp_ := hzp.out; have hzw_ := hzw.out; have z2_ := z2.out; have z3_ := z3.out
    have hN_ := HN1.out
    have hSz_ := hB.out.size
    have hz_ : w3.heap.size ≤ W.heap.size := by rw [hW]; simp
    have eF : Fr w3 W (fun k => k = p ∨ w3.heap.size ≤ k) := by rw [hW]; (repeat (first | with_reducible refine Fr.setCell ?_ _ (fun _ => by simp <;> omega) _ | with_reducible refine Fr.alloc ?_ _ | with_reducible refine Fr.drew ?_)); exact Fr.refl _ _
    have hzp_ := hzp.out; have hzw_ := hzw.out; have z2_ := z2.out; have z3_ := z3.out
    have hC := Hd.mk (hC.out.fr eF (fun h => by have hg_ := hg.out; have hlt_ := hC.out.lt; (try simp only [rng] at h); (try simp only at h); omega) (fun k h => by have hg_ := hg.out; have hge_ := hC.out.ge; (try simp only [rng] at h); (try simp only at h); omega))
    have hB := Hd.mk (hB.out.then_ eF (fun k h hl => by (try simp only [rng] at h); (try simp only at h); omega))
    have b0 := Hd.mk (b0.out.fr eF (fun h => by have hlt_ := b0.out.lt; (try simp only at h); omega))
    have b1 := Hd.mk (b1.out.fr eF (fun h => by have hlt_ := b1.out.lt; (try simp only at h); omega))
    have b2 := Hd.mk (show Blk W (p) #[.int .i64 u, .slice AW way.length cW, .int .i64 v.kind, .int .i64 v.n, .string v.s, .slice V3 v.list.length k3, .slice V4 v.names.length k4] 38 by rw [hW]; exact (b2.out.set 0 (Value.int IntKind.i64 u)))
    have hO := Hd.mk (Ty.O_fr hO.out eF (fun k hk hl h => by have q_ := hk.2; (try have h_ : k = g := h); (try have hn_ : (1 : Int) = 2 := (hSg.out (h_ ▸ hk.1)).elim); (try simp only [rng] at hk); (try simp only at hk); (try simp only at h); omega))
    have hWy := Hd.mk (R_fr hWy.out eF (fun k hk hl h => by have q_ := hk; have hg_ := hg.out; have hN_ := HN1.out; (try simp only [rng] at hk); (try simp only at hk); (try simp only at h); omega))
    have hOV := Hd.mk (Ty.O_fr hOV.out eF (fun k hk hl h => by have q_ := hk; have hg_ := hg.out; have hN_ := HN1.out; (try simp only [rng] at hk); (try simp only at hk); (try simp only at h); omega))
    clear hW eF
    have z4 := Hd.mk hz_; clear hz_
    refine ⟨⟨u, way, v⟩, _, _, _, _, _, _, ⟨by have := hwl.out; simp only; omega⟩, ⟨hws.out⟩, HBV, b1, b2, ⟨tOp_O.2 ⟨_, _, (fun q => w.heap.size + 2 ≤ q ∧ q ≠ p ∧ q < N1), (fun q => N1 ≤ q), rfl, hWy.out, hOV.out, fun q h => ?_, fun q h => ?_, fun q h h2 => ?_⟩⟩, hC, hB, ⟨by have hzp_ := hzp.out; have hzw_ := hzw.out; have z2_ := z2.out; have z3_ := z3.out; have z4_ := z4.out; omega⟩⟩
    all_goals (have hN_ := HN1.out; have hzp_ := hzp.out; have hzw_ := hzw.out; have z2_ := z2.out; have z3_ := z3.out; have z4_ := z4.out; (try simp only [rng] at h); (try simp only [rng] at h2); (try simp only at h); (try simp only at h2); (try omega))
   obtain ⟨v00, v01, v02, v03, v04, v0z⟩ := blk5 b0.out
   obtain ⟨v10, v11, v12, v13, v14, v15, v16, v1z⟩ := blk7 b1.out
   obtain ⟨v20, v21, v22, v23, v24, v25, v26, v2z⟩ := blk7 b2.out
   go_wp2_with fail
   clear v00 v01 v02 v03 v04 v0z v10 v11 v12 v13 v14 v15 v16 v1z v20 v21 v22 v23 v24 v25 v26 v2z
   go_meet
   exact key _ rfl
  ·have hE0 := Hd.mk (R_str1 (W0 := w2) ⟨#[1]⟩ (by decide))
   have hzp_ := hzp.out; have hzw_ := hzw.out; have z2_ := z2.out
   have hN_ := HN1.out
   obtain ⟨v00, v01, v02, v03, v04, v0z⟩ := blk5 b0.out
   obtain ⟨v10, v11, v12, v13, v14, v15, v16, v1z⟩ := blk7 b1.out
   obtain ⟨v20, v21, v22, v23, v24, v25, v26, v2z⟩ := blk7 b2.out
   go_wp2_with (at_builtin; refine append_str rfl _ _ 25 9 (.string ByteArray.empty) 16 rfl Try.underlying25 info_str rfl (by decide) (S := fun q => (fun q => w.heap.size + 2 ≤ q ∧ q ≠ p ∧ q < N1) q ∧ q < w2.heap.size) (S' := (fun q => (fun q => w.heap.size + 2 ≤ q ∧ q ≠ p ∧ q < N1) q ∨ w2.heap.size ≤ q)) (v := Value.slice AW way.length cW) (xs := way) (ys := [⟨#[1]⟩]) (A := some ⟨w2.heap.size, 0, none⟩) (c := 1) rfl rfl (R_below (R_bound hWy.out) (below_alloc (Below.refl _ _) _)) (R_Cv hE0.out) (fun q h => .inl h.1) (fun q h => .inr (by simp at h; omega)) (by have := hwl.out; simp; omega) (fun v2 w3 hv2 hX0 => ?_); obtain ⟨way2, hl2⟩ : ∃ z, z = way ++ [⟨#[1]⟩] := ⟨_, rfl⟩; rw [← hl2] at hv2; have HL2 := Hd.mk hl2; clear hl2; obtain ⟨A5, c5, hv2e, hc5, _⟩ := R_C hv2; subst hv2e; have hX := (Fr.of_below (below_alloc (Below.refl w2.heap.size w2) _) _).trans hX0; have Yb0 := b0.out.fr hX (fun h => by have q_ := h.1; (try simp only at q_); omega); have yb0_0 := Yb0.cell 0 rfl; have yb0_1 := Yb0.cell 1 rfl; have yb0_2 := Yb0.cell 2 rfl; have yb0_3 := Yb0.cell 3 rfl; have yb0_4 := Yb0.cell 4 rfl; have yb0_z := Yb0.frozen; have Yb1 := b1.out.fr hX (fun h => by have q_ := h.1; (try simp only at q_); omega); have yb1_0 := Yb1.cell 0 rfl; have yb1_1 := Yb1.cell 1 rfl; have yb1_2 := Yb1.cell 2 rfl; have yb1_3 := Yb1.cell 3 rfl; have yb1_4 := Yb1.cell 4 rfl; have yb1_5 := Yb1.cell 5 rfl; have yb1_6 := Yb1.cell 6 rfl; have yb1_z := Yb1.frozen; have Yb2 := b2.out.fr hX (fun h => by have q_ := h.1; (try simp only at q_); omega); have yb2_0 := Yb2.cell 0 rfl; have yb2_1 := Yb2.cell 1 rfl; have yb2_2 := Yb2.cell 2 rfl; have yb2_3 := Yb2.cell 3 rfl; have yb2_4 := Yb2.cell 4 rfl; have yb2_5 := Yb2.cell 5 rfl; have yb2_6 := Yb2.cell 6 rfl; have yb2_z := Yb2.frozen)
   clear v00 v01 v02 v03 v04 v0z v10 v11 v12 v13 v14 v15 v16 v1z v20 v21 v22 v23 v24 v25 v26 v2z
   go_meet
   clear Yb0 yb0_0 yb0_1 yb0_2 yb0_3 yb0_4 yb0_z Yb1 yb1_0 yb1_1 yb1_2 yb1_3 yb1_4 yb1_5 yb1_6 yb1_z Yb2 yb2_0 yb2_1 yb2_2 yb2_3 yb2_4 yb2_5 yb2_6 yb2_z hX0 hE0
   have key : ∀ W, W = (w3.setCell ⟨p, 1, none⟩ (Value.slice A5 way2.length c5)) → ∃ (o : JOp) (A6 V3 V4 : Option Addr) (c6 k3 k4 : Nat), Hd (o.way.length ≤ 7) ∧ Hd (∀ s ∈ o.way, s.size ≤ B + 60) ∧ Hd (Bnd B o.value) ∧ Hd (Blk W (w.heap.size + 1) #[.int .i64 0, .slice none 0 0, .int .i64 0, .int .i64 0, .string ⟨#[]⟩, .slice none 0 0, .slice none 0 0] 38) ∧ Hd (Blk W p #[.int .i64 o.kind, .slice A6 o.way.length c6, .int .i64 o.value.kind, .int .i64 o.value.n, .string o.value.s, .slice V3 o.value.list.length k3, .slice V4 o.value.names.length k4] 38) ∧ Hd ((tOp 9).O W (fun q => w.heap.size + 2 ≤ q ∧ q ≠ p) o [Value.int IntKind.i64 o.kind, .slice A6 o.way.length c6, .int .i64 o.value.kind, .int .i64 o.value.n, .string o.value.s, .slice V3 o.value.list.length k3, .slice V4 o.value.names.length k4]) ∧ Hd (Cur W0 W g) ∧ Hd (Fr w W (fun k => k = g)) ∧ Hd (p < W.heap.size) := by
    intro W hW
    have hWy2 := Hd.mk (R_bound hv2); clear hv2 hWy
    have hOV := Hd.mk (Ty.O_bound _ hOV.out)
    have hzp_ := hzp.out; have hzw_ := hzw.out; have z2_ := z2.out
    have hSz := hB.out.size
    have b0 := Hd.mk (b0.out.fr hX (fun h => by have hlt_ := b0.out.lt; have hh_ := h.1; (try simp only [rng] at h); (try simp only at h); omega))
    have b1 := Hd.mk (b1.out.fr hX (fun h => by have hlt_ := b1.out.lt; have hh_ := h.1; (try simp only [rng] at h); (try simp only at h); omega))
    have b2 := Hd.mk (b2.out.fr hX (fun h => by have hlt_ := b2.out.lt; have hh_ := h.1; (try simp only [rng] at h); (try simp only at h); omega))
    have hOV := Hd.mk (Ty.O_fr hOV.out hX (fun k hk hl h => by have hh_ := h.1; have hk_ := hk.1; (try simp only [rng] at hk h); (try simp only at hk); (try simp only at h); omega))
    have hC := Hd.mk (hC.out.fr hX (fun h => by have hg_ := hg.out; have hlt_ := hC.out.lt; have hh_ := h.1; (try simp only [rng] at h); (try simp only at h); omega) (fun k h => by have hg_ := hg.out; have hge_ := hC.out.ge; have hh_ := h.1; (try simp only [rng] at h); (try simp only at h); omega))
    have hB := Hd.mk (hB.out.then_ hX (fun k h hl => by have hh_ := h.1; (try simp only [rng] at h); (try simp only at h); omega))
    have hz_ := hX.size
    clear hX
    have z3 := Hd.mk hz_; clear hz_
    have hz_ : w3.heap.size ≤ W.heap.size := by rw [hW]; simp
    have eF : Fr w3 W (fun k => k = p ∨ w3.heap.size ≤ k) := by rw [hW]; (repeat (first | with_reducible refine Fr.setCell ?_ _ (fun _ => by simp <;> omega) _ | with_reducible refine Fr.alloc ?_ _ | with_reducible refine Fr.drew ?_)); exact Fr.refl _ _
    have hzp_ := hzp.out; have hzw_ := hzw.out; have z2_ := z2.out; have z3_ := z3.out
    have hC := Hd.mk (hC.out.fr eF (fun h => by have hg_ := hg.out; have hlt_ := hC.out.lt; (try simp only [rng] at h); (try simp only at h); omega) (fun k h => by have hg_ := hg.out; have hge_ := hC.out.ge; (try simp only [rng] at h); (try simp only at h); omega))
    have hB := Hd.mk (hB.out.then_ eF (fun k h hl => by (try simp only [rng] at h); (try simp only at h); omega))
    have b0 := Hd.mk (b0.out.fr eF (fun h => by have hlt_ := b0.out.lt; (try simp only at h); omega))
    have b1 := Hd.mk (b1.out.fr eF (fun h => by have hlt_ := b1.out.lt; (try simp only at h); omega))
    have b2 := Hd.mk (show Blk W (p) #[.int .i64 n, .slice A5 way2.length c5, .int .i64 v.kind, .int .i64 v.n, .string v.s, .slice V3 v.list.length k3, .slice V4 v.names.length k4] 38 by rw [hW]; exact (b2.out.set 1 (Value.slice A5 way2.length c5)))
    have hOV := Hd.mk (Ty.O_fr hOV.out eF (fun k hk hl h => by have hk_ := hk.1; (try simp only [rng] at hk); (try simp only at hk); (try simp only at h); omega))
    have hWy2 := Hd.mk (R_fr hWy2.out eF (fun k hk hl h => by have hk2_ := hk.2; have hk1_ := hk.1; (try simp only at hk1_); (try simp only [rng] at hk); (try simp only at hk); (try simp only at h); omega))
    clear hW eF
    have z4 := Hd.mk hz_; clear hz_
    refine ⟨⟨n, way2, v⟩, _, _, _, _, _, _, ⟨by have := hwl.out; show way2.length ≤ 7; rw [HL2.out, List.length_append]; simp; omega⟩, ⟨fun s hs => by have hs : s ∈ way2 := hs; rw [HL2.out] at hs; rcases List.mem_append.1 hs with hs | hs; exact hws.out s hs; rw [List.mem_singleton.1 hs]; show 1 ≤ _; omega⟩, HBV, b1, b2, ⟨tOp_O.2 ⟨_, _, (fun q => (fun q => (fun q => w.heap.size + 2 ≤ q ∧ q ≠ p ∧ q < N1) q ∨ w2.heap.size ≤ q) q ∧ q < w3.heap.size), (fun q => N1 ≤ q ∧ q < w2.heap.size), rfl, hWy2.out, hOV.out, fun q h => ?_, fun q h => ?_, fun q h h2 => ?_⟩⟩, hC, hB, ⟨by have hzp_ := hzp.out; have hzw_ := hzw.out; have z2_ := z2.out; have z3_ := z3.out; have z4_ := z4.out; omega⟩⟩
    all_goals (have hN_ := HN1.out; have hzp_ := hzp.out; have hzw_ := hzw.out; have z2_ := z2.out; have z3_ := z3.out; have z4_ := z4.out; (try simp only [rng] at h); (try simp only [rng] at h2); (try simp only at h); (try simp only at h2); (try omega))
    all_goals (first | omega | (rcases h.1 with h3 | h3 <;> omega))
   exact key _ rfl
  ·have v00 : w2.cell? ⟨w.heap.size, 0, none⟩ = some (.int .i64 j.kind) := b0.out.cell 0 rfl
   have v01 : w2.cell? ⟨w.heap.size, 1, none⟩ = some (.int .i64 j.n) := b0.out.cell 1 rfl
   have v02 : w2.cell? ⟨w.heap.size, 2, none⟩ = some (.string j.s) := b0.out.cell 2 rfl
   have v03 : w2.cell? ⟨w.heap.size, 3, none⟩ = some (.slice A3 j.list.length c3) := b0.out.cell 3 rfl
   have v04 : w2.cell? ⟨w.heap.size, 4, none⟩ = some (.slice A4 j.names.length c4) := b0.out.cell 4 rfl
   have v0z := b0.out.frozen
   obtain ⟨v10, v11, v12, v13, v14, v15, v16, v1z⟩ := blk7 b1.out
   obtain ⟨v20, v21, v22, v23, v24, v25, v26, v2z⟩ := blk7 b2.out
   go_wp2_with fail
   clear v00 v01 v02 v03 v04 v0z v10 v11 v12 v13 v14 v15 v16 v1z v20 v21 v22 v23 v24 v25 v26 v2z
   refine (spec_l1Draw W0 _ g hC.out).mono ?_
   rintro e w3 ⟨x, csx, rfl, hBX, hOX, hC1, hX⟩
   have hC := Hd.mk hC1; clear hC1
   have hSz0 := hB.out.size
   have hg_ := hg.out
   have hzp_ := hzp.out; have hzw_ := hzw.out; have z2_ := z2.out
   have b0 := Hd.mk (b0.out.fr hX (fun h => by skip; (try simp only at h); omega))
   have b1 := Hd.mk (b1.out.fr hX (fun h => by skip; (try simp only at h); omega))
   have b2 := Hd.mk (b2.out.fr hX (fun h => by skip; (try simp only at h); omega))
   have hO := Hd.mk (Ty.O_fr hO.out hX (fun k hk hl h => by have q_ := hk.2; (try have h_ : k = g := h); (try have hn_ : (1 : Int) = 2 := (hSg.out (h_ ▸ hk.1)).elim); (try simp only [rng] at hk); (try simp only at hk); (try simp only at h); omega))
   have hWy := Hd.mk (R_fr hWy.out hX (fun k hk hl h => by have q_ := hk; have hg_ := hg.out; have hN_ := HN1.out; (try simp only [rng] at hk); (try simp only at hk); (try simp only at h); omega))
   have hOV := Hd.mk (Ty.O_fr hOV.out hX (fun k hk hl h => by have q_ := hk; have hg_ := hg.out; have hN_ := HN1.out; (try simp only [rng] at hk); (try simp only at hk); (try simp only at h); omega))
   have hB := Hd.mk (hB.out.trans hX)
   have hz_ := hX.size
   clear hSz0 hg_ hX
   have z3 := Hd.mk hz_; clear hz_
   obtain ⟨xv3, xv4, _, _, rfl, _, xr3, xr4, _⟩ := tJ_O.1 hOX
   obtain ⟨xD3, xd3, rfl, _, _⟩ := R_C xr3
   obtain ⟨xD4, xd4, rfl, _, _⟩ := R_C xr4
   clear xr3 xr4
   have HBX := Hd.mk (show Bnd B x from fun m => Nat.le_trans (hBX m) HB0.out)
   clear hBX
   have hOX := Hd.mk (show (tJ 9).O w3 (rng w2.heap.size w3.heap.size) x _ from Ty.O_bound _ hOX)
   have key : ∀ W, W = (((((w3.setCell ⟨p, 2, none⟩ (Value.int IntKind.i64 x.kind)).setCell ⟨p, 3, none⟩ (Value.int IntKind.i64 x.n)).setCell ⟨p, 4, none⟩ (Value.string x.s)).setCell ⟨p, 5, none⟩ (Value.slice xD3 x.list.length xd3)).setCell ⟨p, 6, none⟩ (Value.slice xD4 x.names.length xd4)) → ∃ (o : JOp) (A6 V3 V4 : Option Addr) (c6 k3 k4 : Nat), Hd (o.way.length ≤ 7) ∧ Hd (∀ s ∈ o.way, s.size ≤ B + 60) ∧ Hd (Bnd B o.value) ∧ Hd (Blk W (w.heap.size + 1) #[.int .i64 0, .slice none 0 0, .int .i64 0, .int .i64 0, .string ⟨#[]⟩, .slice none 0 0, .slice none 0 0] 38) ∧ Hd (Blk W p #[.int .i64 o.kind, .slice A6 o.way.length c6, .int .i64 o.value.kind, .int .i64 o.value.n, .string o.value.s, .slice V3 o.value.list.length k3, .slice V4 o.value.names.length k4] 38) ∧ Hd ((tOp 9).O W (fun q => w.heap.size + 2 ≤ q ∧ q ≠ p) o [Value.int IntKind.i64 o.kind, .slice A6 o.way.length c6, .int .i64 o.value.kind, .int .i64 o.value.n, .string o.value.s, .slice V3 o.value.list.length k3, .slice V4 o.value.names.length k4]) ∧ Hd (Cur W0 W g) ∧ Hd (Fr w W (fun k => k = g)) ∧ Hd (p < W.heap.size) := by
    intro W hW
    have hzp_ := hzp.out; have hzw_ := hzw.out; have z2_ := z2.out; have z3_ := z3.out
    have hN_ := HN1.out
    have hSz_ := hB.out.size
    have hz_ : w3.heap.size ≤ W.heap.size := by rw [hW]; simp
    have eF : Fr w3 W (fun k => k = p ∨ w3.heap.size ≤ k) := by rw [hW]; (repeat (first | with_reducible refine Fr.setCell ?_ _ (fun _ => by simp <;> omega) _ | with_reducible refine Fr.alloc ?_ _ | with_reducible refine Fr.drew ?_)); exact Fr.refl _ _
    have hzp_ := hzp.out; have hzw_ := hzw.out; have z2_ := z2.out; have z3_ := z3.out
    have hC := Hd.mk (hC.out.fr eF (fun h => by have hg_ := hg.out; have hlt_ := hC.out.lt; (try simp only [rng] at h); (try simp only at h); omega) (fun k h => by have hg_ := hg.out; have hge_ := hC.out.ge; (try simp only [rng] at h); (try simp only at h); omega))
    have hB := Hd.mk (hB.out.then_ eF (fun k h hl => by (try simp only [rng] at h); (try simp only at h); omega))
    have b0 := Hd.mk (b0.out.fr eF (fun h => by have hlt_ := b0.out.lt; (try simp only at h); omega))
    have b1 := Hd.mk (b1.out.fr eF (fun h => by have hlt_ := b1.out.lt; (try simp only at h); omega))
    have b2 := Hd.mk (show Blk W (p) #[.int .i64 n, .slice AW way.length cW, .int .i64 x.kind, .int .i64 x.n, .string x.s, .slice xD3 x.list.length xd3, .slice xD4 x.names.length xd4] 38 by rw [hW]; exact (((((b2.out.set 2 (Value.int IntKind.i64 x.kind)).set 3 (Value.int IntKind.i64 x.n)).set 4 (Value.string x.s)).set 5 (Value.slice xD3 x.list.length xd3)).set 6 (Value.slice xD4 x.names.length xd4)))
    have hO := Hd.mk (Ty.O_fr hO.out eF (fun k hk hl h => by have q_ := hk.2; (try have h_ : k = g := h); (try have hn_ : (1 : Int) = 2 := (hSg.out (h_ ▸ hk.1)).elim); (try simp only [rng] at hk); (try simp only at hk); (try simp only at h); omega))
    have hWy := Hd.mk (R_fr hWy.out eF (fun k hk hl h => by have q_ := hk; have hg_ := hg.out; have hN_ := HN1.out; (try simp only [rng] at hk); (try simp only at hk); (try simp only at h); omega))
    have hOX := Hd.mk (Ty.O_fr hOX.out eF (fun k hk hl h => by have hN_ := HN1.out; (try simp only [rng] at hk); (try simp only at hk); (try simp only at h); omega))
    clear hW eF
    have z4 := Hd.mk hz_; clear hz_
    refine ⟨⟨n, way, x⟩, _, _, _, _, _, _, ⟨by have := hwl.out; simp only; omega⟩, ⟨hws.out⟩, HBX, b1, b2, ⟨tOp_O.2 ⟨_, _, (fun q => w.heap.size + 2 ≤ q ∧ q ≠ p ∧ q < N1), (rng w2.heap.size w3.heap.size), rfl, hWy.out, hOX.out, fun q h => ?_, fun q h => ?_, fun q h h2 => ?_⟩⟩, hC, hB, ⟨by have hzp_ := hzp.out; have hzw_ := hzw.out; have z2_ := z2.out; have z3_ := z3.out; have z4_ := z4.out; omega⟩⟩
    all_goals (have hN_ := HN1.out; have hzp_ := hzp.out; have hzw_ := hzw.out; have z2_ := z2.out; have z3_ := z3.out; have z4_ := z4.out; (try simp only [rng] at h); (try simp only [rng] at h2); (try simp only at h); (try simp only at h2); (try omega))
   obtain ⟨v00, v01, v02, v03, v04, v0z⟩ := blk5 b0.out
   obtain ⟨v10, v11, v12, v13, v14, v15, v16, v1z⟩ := blk7 b1.out
   obtain ⟨v20, v21, v22, v23, v24, v25, v26, v2z⟩ := blk7 b2.out
   go_wp2_with fail
   clear v00 v01 v02 v03 v04 v0z v10 v11 v12 v13 v14 v15 v16 v1z v20 v21 v22 v23 v24 v25 v26 v2z
   go_meet
   exact key _ rfl
  ·have key : ∀ W, W = (w2.setCell ⟨p, 1, none⟩ (Value.slice (some ⟨w2.heap.size, 0, none⟩) 7 7)).alloc (.cells #[.string ⟨#[97]⟩, .string ⟨#[97]⟩, .string ⟨#[97]⟩, .string ⟨#[97]⟩, .string ⟨#[97]⟩, .string ⟨#[97]⟩, .string ⟨#[97]⟩] 9) → ∃ (o : JOp) (A6 V3 V4 : Option Addr) (c6 k3 k4 : Nat), Hd (o.way.length ≤ 7) ∧ Hd (∀ s ∈ o.way, s.size ≤ B + 60) ∧ Hd (Bnd B o.value) ∧ Hd (Blk W (w.heap.size + 1) #[.int .i64 0, .slice none 0 0, .int .i64 0, .int .i64 0, .string ⟨#[]⟩, .slice none 0 0, .slice none 0 0] 38) ∧ Hd (Blk W p #[.int .i64 o.kind, .slice A6 o.way.length c6, .int .i64 o.value.kind, .int .i64 o.value.n, .string o.value.s, .slice V3 o.value.list.length k3, .slice V4 o.value.names.length k4] 38) ∧ Hd ((tOp 9).O W (fun q => w.heap.size + 2 ≤ q ∧ q ≠ p) o [Value.int IntKind.i64 o.kind, .slice A6 o.way.length c6, .int .i64 o.value.kind, .int .i64 o.value.n, .string o.value.s, .slice V3 o.value.list.length k3, .slice V4 o.value.names.length k4]) ∧ Hd (Cur W0 W g) ∧ Hd (Fr w W (fun k => k = g)) ∧ Hd (p < W.heap.size) := by
    intro W hW
    have hOV := Hd.mk (Ty.O_bound _ hOV.out)
    have hE0 := Hd.mk (show str.R 9 W (fun q => q = w2.heap.size) (Value.slice (some ⟨w2.heap.size, 0, none⟩) 7 7) [⟨#[97]⟩, ⟨#[97]⟩, ⟨#[97]⟩, ⟨#[97]⟩, ⟨#[97]⟩, ⟨#[97]⟩, ⟨#[97]⟩] by rw [hW]; have h1 := R_strs (W0 := (w2.setCell ⟨p, 1, none⟩ (Value.slice (some ⟨w2.heap.size, 0, none⟩) 7 7))) [⟨#[97]⟩, ⟨#[97]⟩, ⟨#[97]⟩, ⟨#[97]⟩, ⟨#[97]⟩, ⟨#[97]⟩, ⟨#[97]⟩] (by decide) (by decide); simpa using h1)
    have hz_ : w2.heap.size + 1 ≤ W.heap.size := by rw [hW]; simp
    have eF : Fr w2 W (fun k => k = p ∨ w2.heap.size ≤ k) := by rw [hW]; (repeat (first | with_reducible refine Fr.setCell ?_ _ (fun _ => by simp <;> omega) _ | with_reducible refine Fr.alloc ?_ _ | with_reducible refine Fr.drew ?_)); exact Fr.refl _ _
    have hzp_ := hzp.out; have hzw_ := hzw.out; have z2_ := z2.out
    have hC := Hd.mk (hC.out.fr eF (fun h => by have hg_ := hg.out; have hlt_ := hC.out.lt; (try simp only [rng] at h); (try simp only at h); omega) (fun k h => by have hg_ := hg.out; have hge_ := hC.out.ge; (try simp only [rng] at h); (try simp only at h); omega))
    have hB := Hd.mk (hB.out.then_ eF (fun k h hl => by (try simp only [rng] at h); (try simp only at h); omega))
    have b0 := Hd.mk (b0.out.fr eF (fun h => by have hlt_ := b0.out.lt; (try simp only at h); omega))
    have b1 := Hd.mk (b1.out.fr eF (fun h => by have hlt_ := b1.out.lt; (try simp only at h); omega))
    have b2 := Hd.mk (show Blk W (p) #[.int .i64 n, .slice (some ⟨w2.heap.size, 0, none⟩) 7 7, .int .i64 v.kind, .int .i64 v.n, .string v.s, .slice V3 v.list.length k3, .slice V4 v.names.length k4] 38 by rw [hW]; exact ((b2.out.set 1 (Value.slice (some ⟨w2.heap.size, 0, none⟩) 7 7)).alloc _))
    have hOV := Hd.mk (Ty.O_fr hOV.out eF (fun k hk hl h => by have hk_ := hk.1; have hN_ := HN1.out; (try simp only [rng] at hk); (try simp only at hk); (try simp only at h); omega))
    clear hW eF
    have z3 := Hd.mk hz_; clear hz_
    refine ⟨⟨n, [⟨#[97]⟩, ⟨#[97]⟩, ⟨#[97]⟩, ⟨#[97]⟩, ⟨#[97]⟩, ⟨#[97]⟩, ⟨#[97]⟩], v⟩, _, _, _, _, _, _, ⟨Nat.le_refl 7⟩, ⟨fun s hs => by have hs : s ∈ ([⟨#[97]⟩, ⟨#[97]⟩, ⟨#[97]⟩, ⟨#[97]⟩, ⟨#[97]⟩, ⟨#[97]⟩, ⟨#[97]⟩] : List ByteArray) := hs; have h1 := (show ∀ s ∈ ([⟨#[97]⟩, ⟨#[97]⟩, ⟨#[97]⟩, ⟨#[97]⟩, ⟨#[97]⟩, ⟨#[97]⟩, ⟨#[97]⟩] : List ByteArray), s.size ≤ 60 by decide) s hs; omega⟩, HBV, b1, b2, ⟨tOp_O.2 ⟨_, _, (fun q => q = w2.heap.size), (fun q => N1 ≤ q ∧ q < w2.heap.size), rfl, hE0.out, hOV.out, fun q h => ?_, fun q h => ?_, fun q h h2 => ?_⟩⟩, hC, hB, ⟨by have hzp_ := hzp.out; have hzw_ := hzw.out; have z2_ := z2.out; have z3_ := z3.out; omega⟩⟩
    all_goals (have hN_ := HN1.out; have hzp_ := hzp.out; have hzw_ := hzw.out; have z2_ := z2.out; have z3_ := z3.out; (try simp only [rng] at h); (try simp only [rng] at h2); (try simp only at h); (try simp only at h2); (try omega))
   have hzp_ := hzp.out; have hzw_ := hzw.out; have z2_ := z2.out
   have hlt_ : p < w2.heap.size := by omega
   have hne_ : ¬ p = w2.heap.size := by omega
   have hne2_ : ¬ w2.heap.size = p := by omega
   obtain ⟨v00, v01, v02, v03, v04, v0z⟩ := blk5 b0.out
   obtain ⟨v10, v11, v12, v13, v14, v15, v16, v1z⟩ := blk7 b1.out
   obtain ⟨v20, v21, v22, v23, v24, v25, v26, v2z⟩ := blk7 b2.out
   go_wp2_with fail
   clear v00 v01 v02 v03 v04 v0z v10 v11 v12 v13 v14 v15 v16 v1z v20 v21 v22 v23 v24 v25 v26 v2z
   go_meet
   exact key _ rfl
  ·have e0 : (y == 0) = false := by simp; omega
   have d0 : decide (y = 0) = false := decide_eq_false (by omega)
   have e1 : (y == 1) = false := by simp; omega
   have d1 : decide (y = 1) = false := decide_eq_false (by omega)
   have e2 : (y == 2) = false := by simp; omega
   have d2 : decide (y = 2) = false := decide_eq_false (by omega)
   have e3 : (y == 3) = false := by simp; omega
   have d3 : decide (y = 3) = false := decide_eq_false (by omega)
   obtain ⟨v00, v01, v02, v03, v04, v0z⟩ := blk5 b0.out
   obtain ⟨v10, v11, v12, v13, v14, v15, v16, v1z⟩ := blk7 b1.out
   obtain ⟨v20, v21, v22, v23, v24, v25, v26, v2z⟩ := blk7 b2.out
   go_wp2_with fail
   clear v00 v01 v02 v03 v04 v0z v10 v11 v12 v13 v14 v15 v16 v1z v20 v21 v22 v23 v24 v25 v26 v2z
   go_meet
   refine ⟨⟨n, way, v⟩, _, _, _, _, _, _, ⟨by have := hwl.out; simp only; omega⟩, ⟨hws.out⟩, HBV, b1, b2, ⟨tOp_O.2 ⟨_, _, (fun q => w.heap.size + 2 ≤ q ∧ q ≠ p ∧ q < N1), (fun q => N1 ≤ q), rfl, hWy.out, hOV.out, fun q h => ?_, fun q h => ?_, fun q h h2 => ?_⟩⟩, hC, hB, ⟨by have hzp_ := hzp.out; have hzw_ := hzw.out; have z2_ := z2.out; omega⟩⟩
   all_goals (have hN_ := HN1.out; have hzp_ := hzp.out; have hzw_ := hzw.out; have z2_ := z2.out; (try simp only [rng] at h); (try simp only [rng] at h2); (try simp only at h); (try simp only at h2); (try omega))
 case rest =>
 clear b0 b1 b2 hO hWy hOV hC hB hzw HBV
 obtain ⟨o, A6, V3, V4, c6, k3, k4, hwl2, hws2, HBV, b1, b2, hOO, hC, hB, hzw⟩ := hcut
 obtain ⟨v10, v11, v12, v13, v14, v15, v16, v1z⟩ := blk7 b1.out
 obtain ⟨v20, v21, v22, v23, v24, v25, v26, v2z⟩ := blk7 b2.out
 go_wp2_with (refine store_blk rfl 38 _ _ rfl (w.heap.size + 1) #[.int .i64 o.kind, .slice A6 o.way.length c6, .int .i64 o.value.kind, .int .i64 o.value.n, .string o.value.s, .slice V3 o.value.list.length k3, .slice V4 o.value.names.length k4] rfl rfl b1.out info7 rfl (by simp [Value.oneCell']) (fun W5 b5 hf5 hz5 => ?_); have y0 : W5.cell? ⟨(w.heap.size + 1), 0, none⟩ = some (.int .i64 o.kind) := b5.cell 0 rfl; have y1 : W5.cell? ⟨(w.heap.size + 1), 1, none⟩ = some (.slice A6 o.way.length c6) := b5.cell 1 rfl; have y2 : W5.cell? ⟨(w.heap.size + 1), 2, none⟩ = some (.int .i64 o.value.kind) := b5.cell 2 rfl; have y3 : W5.cell? ⟨(w.heap.size + 1), 3, none⟩ = some (.int .i64 o.value.n) := b5.cell 3 rfl; have y4 : W5.cell? ⟨(w.heap.size + 1), 4, none⟩ = some (.string o.value.s) := b5.cell 4 rfl; have y5 : W5.cell? ⟨(w.heap.size + 1), 5, none⟩ = some (.slice V3 o.value.list.length k3) := b5.cell 5 rfl; have y6 : W5.cell? ⟨(w.heap.size + 1), 6, none⟩ = some (.slice V4 o.value.names.length k4) := b5.cell 6 rfl)
 refine bodyPost_retW (v := .agg #[.int .i64 o.kind, .slice A6 o.way.length c6, .int .i64 o.value.kind, .int .i64 o.value.n, .string o.value.s, .slice V3 o.value.list.length k3, .slice V4 o.value.names.length k4]) (by simp [results, Try.results81, go_sem, y0, y1, y2, y3, y4, y5, y6]) rfl ?_
 intro W hW
 subst hW
 clear v10 v11 v12 v13 v14 v15 v16 v1z v20 v21 v22 v23 v24 v25 v26 v2z
 have hzp_ := hzp.out; have hzw_ := hzw.out
 exact ⟨o, [Value.int IntKind.i64 o.kind, .slice A6 o.way.length c6, .int .i64 o.value.kind, .int .i64 o.value.n, .string o.value.s, .slice V3 o.value.list.length k3, .slice V4 o.value.names.length k4], rfl, Ty.O_mono _ (fun q h => by have h1 := h.1; omega) (Ty.O_fr hOO.out hf5 (fun q hq _ h => by have h : q = (w.heap.size + 1) := h; have h1 := hq.1; omega)), hwl2.out, hws2.out, HBV.out, hC.out.fr hf5 (fun h => by have hg_ := hg.out; (try simp only at h); omega) (fun k h => by have hg_ := hg.out; have hge_ := hC.out.ge; (try simp only at h); omega), hB.out.then_ hf5 (fun k h hl => by (try simp only at h); omega)⟩
theorem flat5 : ∀ (ys : List (List Value)), (∀ y ∈ ys, y.length = 5) → ys.flatten.length = ys.length * 5 ∧ ∀ i y, ys[i]? = some y → (ys.flatten.drop (i * 5)).take 5 = y
 | [], _ => ⟨rfl, by simp⟩
 | y :: ys, h => by
  obtain ⟨h1, h2⟩ := flat5 ys (fun z hz => h z (by simp [hz]))
  have hy := h y (by simp)
  refine ⟨by simp [h1, hy]; omega, fun i z hz => ?_⟩
  rcases i with _ | i
  ·simp at hz
   subst hz
   rw [List.flatten_cons, Nat.zero_mul, List.drop_zero, List.take_append_of_le_length (by omega), List.take_of_length_le (by omega)]
  ·simp at hz
   rw [List.flatten_cons, List.drop_append, List.drop_eq_nil_of_le (by rw [hy]; omega), List.nil_append, hy, show (i + 1) * 5 - 5 = i * 5 by omega]
   exact h2 i z hz
theorem append_rw {P : Program} (hP : P = Try.prog) {ops : Array Oper} {rest : List Oper} {o : Oper} {a : Act} {Q : Exit → Act → World → Prop} {W : World} (hgd : o.guard = none) (s x : Operand)
  (ho : o.op = .call { callee := .builtin .append, args := #[s, x], argTypes := #[24, 24] }) {v : Value} {A : Option Addr} {m c : Nat} {l ys : List (List Value)} {S S' : Nat → Prop}
  (hs : a.eval s = v) (hx : a.eval x = .slice A m c) (hm : ys.length = m) (HR : (raw 5).R 27 W S v l) (HC : (raw 5).C W A ys) (hS : ∀ k, S k → S' k) (hnew : ∀ k, W.heap.size ≤ k → S' k) (hlen : (l.length + m) * 80 ≤ 140737488355328)
  (h : ∀ v1 w1, (raw 5).R 27 w1 S' v1 (l ++ ys) → Fr W w1 S → wpList P ops Q rest (a.put o.dst v1) w1) :
  wpList P ops Q (o :: rest) a W := by
 subst hP
 have h5 : ∀ y ∈ ys, y.length = 5 ∧ ∀ u ∈ y, u.oneCell' = true := fun y hy => by
  obtain ⟨i, hi, rfl⟩ := List.getElem_of_mem hy
  obtain ⟨ad, cs, _, hk, _⟩ := HC.2 i _ (List.getElem?_eq_getElem hi)
  exact hk.2
 obtain ⟨hf1, hf2⟩ := flat5 ys (fun y hy => (h5 y hy).1)
 refine append_gen (raw 5) (S := S) (S' := S') (v := v) (xs := l) (ys := ys) hgd s x 24 27 (.agg #[.int .i64 0, .int .i64 0, .string ByteArray.empty, .slice none 0 0, .slice none 0 0]) 80 ho Try.underlying24 info_JsonS rfl (by show 0 < 5; omega) (by decide) (fun _ _ => False) A m c ys.flatten hs hx HR hm (by rw [hf1, hm]; rfl) (fun j u hu => ?_) (fun u hu => ?_) (fun i y hi => ?_)
  (fun i j k h1 h2 => h1.elim) (fun i k hk => hk.elim) hS (fun i k hk => hk.elim) hnew hlen h
 ·have hj : j < ys.length * 5 := by rw [← hf1]; exact (List.getElem?_eq_some_iff.1 hu).1
  have hq : j / 5 < ys.length := by omega
  have hy := hf2 (j / 5) _ (List.getElem?_eq_getElem hq)
  obtain ⟨ad, cs, hA, hk, hc⟩ := HC.2 (j / 5) _ (List.getElem?_eq_getElem hq)
  refine ⟨ad, hA, ?_⟩
  have h2 := hc (j % 5) u (by
   rw [hk.1, ← hy, List.getElem?_take, if_pos (by omega), List.getElem?_drop, show j / 5 * 5 + j % 5 = j by omega]; exact hu)
  rw [show j / 5 * (raw 5).sz + j % 5 = j by show j / 5 * 5 + j % 5 = j; omega] at h2
  exact h2
 ·obtain ⟨y, hy, hu⟩ := List.mem_flatten.1 hu
  exact (h5 y hy).2 u hu
 ·have hil := (List.getElem?_eq_some_iff.1 hi).1
  have hy : y ∈ ys := by rw [← (List.getElem?_eq_some_iff.1 hi).2]; exact List.getElem_mem _
  exact ⟨hf2 i y hi, (h5 y hy).1, (h5 y hy).2⟩
theorem C_take {α : Type} {d : Ty α} {w : World} {A : Option Addr} {xs : List α} (h : d.C w A xs) (q : Nat) : d.C w A (xs.take q) :=
 ⟨by have := h.1; rw [List.length_take]; omega, fun i x hx => h.2 i x (by
  rw [List.getElem?_take] at hx
  split at hx
  ·exact hx
  ·cases hx)⟩
theorem C_drop {α : Type} {d : Ty α} {w : World} {A A' : Option Addr} {xs : List α} (h : d.C w A xs) (q : Nat) (hA : xs.length ≤ q ∨ ∃ ad, A = some ad ∧ A' = some (ad.add (q * d.sz))) : d.C w A' (xs.drop q) := by
 rcases hA with hA | ⟨ad, rfl, rfl⟩
 ·rw [List.drop_eq_nil_of_le hA]; exact C_nil _
 ·refine ⟨by have := h.1; rw [List.length_drop]; omega, fun i x hx => ?_⟩
  obtain ⟨ad2, cs, h1, h2, h3⟩ := h.2 (q + i) x (by rw [List.getElem?_drop] at hx; exact hx)
  injection h1 with h1
  subst h1
  refine ⟨ad.add (q * d.sz), cs, rfl, h2, fun j u hu => ?_⟩
  have h4 := h3 j u hu
  rw [Addr.add_add, show q * d.sz + (i * d.sz + j) = (q + i) * d.sz + j by rw [Nat.add_mul]; omega]
  exact h4
theorem C_dropIf {n : Nat} {w : World} {g c q : Nat} {xs : List (List Value)} (h : (raw n).C w (some ⟨g, 0, none⟩) xs) (hl : xs.length ≤ c) : (raw n).C w (if c = q then some ⟨g, 0, none⟩ else some ⟨g, q * n, none⟩) (xs.drop q) := by
 split
 ·exact C_drop h q (.inl (by omega))
 ·exact C_drop h q (.inr ⟨_, rfl, by rw [Addr.add_lit, Nat.zero_add]; rfl⟩)
theorem C_dropIfS {w : World} {g c q : Nat} {xs : List ByteArray} (h : str.C w (some ⟨g, 0, none⟩) xs) (hl : xs.length ≤ c) : str.C w (if c = q then some ⟨g, 0, none⟩ else some ⟨g, q, none⟩) (xs.drop q) := by
 split
 ·exact C_drop h q (.inl (by omega))
 ·exact C_drop h q (.inr ⟨_, rfl, by rw [Addr.add_lit, Nat.zero_add]; show some _ = some (Addr.mk g (q * 1) none); rw [Nat.mul_one]⟩)
theorem R_rawC {α : Type} (d : Ty α) {e : TypeId} {w : World} {S : Nat → Prop} {A : Option Addr} {n c : Nat} {xs : List α} (h : d.R e w S (.slice A n c) xs) : ∃ (C : Nat → List Value) (T : Nat → Nat → Prop),
  (∀ i x, xs[i]? = some x → d.O w (T i) x (C i)) ∧ (∀ i b, T i b → S b ∧ b < w.heap.size) ∧ (∀ i j b, T i b → T j b → i = j) ∧ (raw d.sz).C w A ((List.range xs.length).map C) := by
 obtain ⟨A', c', he, hc, hC⟩ := R_C h
 by_cases h0 : xs.length = 0
 ·obtain rfl := List.eq_nil_of_length_eq_zero h0
  exact ⟨fun _ => [], fun _ _ => False, by simp, by simp, by simp, C_nil _⟩
 ·obtain ⟨g, cap, hv, _, _⟩ := R_form h (by omega)
  injection hv with h1 h2 h3
  subst h1; subst h2; subst h3
  obtain ⟨cur, T, hb, hg, _, hle, _, hcs, hTS, hTT, hO⟩ := R_parts h
  refine ⟨fun i => (cur.toList.drop (i * d.sz)).take d.sz, T, hO, fun i b hb => ⟨(hTS i b hb).1, (hTS i b hb).2.2⟩, hTT, ?_⟩
  refine ⟨by rw [List.length_map, List.length_range]; exact hC.1, fun i x hx => ?_⟩
  rw [List.getElem?_map] at hx
  obtain ⟨i', hi', rfl⟩ := Option.map_eq_some_iff.1 hx
  obtain ⟨hil, hie⟩ := List.getElem?_eq_some_iff.1 hi'
  simp at hil hie
  subst hie
  have hOi := hO i _ (List.getElem?_eq_getElem hil)
  refine ⟨⟨g, 0, none⟩, _, rfl, ⟨rfl, d.K_len (d.O_K hOi), d.K_one (d.O_K hOi)⟩, fun j u hu => ?_⟩
  have hj : j < d.sz := by
   have := (List.getElem?_eq_some_iff.1 hu).1
   rw [List.length_take] at this
   omega
  rw [List.getElem?_take, if_pos hj, List.getElem?_drop] at hu
  show w.cell? ((⟨g, 0, none⟩ : Addr).add (i * d.sz + j)) = some u
  rw [Addr.add_lit, Nat.zero_add]
  unfold World.cell?
  rw [show w.heap[(⟨g, i * d.sz + j, none⟩ : Addr).block]? = some (.cells cur e (0, 0)) from hb]
  simpa using hu
theorem R_cut {α : Type} (d : Ty α) {e : TypeId} {w : World} {S S' : Nat → Prop} {v : Value} {xs : List α} {C : Nat → List Value} {T : Nat → Nat → Prop} {q : Nat} (h : (raw d.sz).R e w S v (((List.range xs.length).map C).take q ++ ((List.range xs.length).map C).drop (q + 1)))
  (hO : ∀ i x, xs[i]? = some x → d.O w (T i) x (C i)) (hTT : ∀ i j b, T i b → T j b → i = j) (hT : ∀ i b, T i b → S' b ∧ ¬ S b) (hS : ∀ k, S k → S' k) : d.R e w S' v (xs.eraseIdx q) := by
 rw [← List.eraseIdx_eq_take_drop_succ] at h
 refine R_of_raw d h (by simp only [List.length_eraseIdx, List.length_map, List.length_range]) (fun i => T (if i < q then i else i + 1)) (fun i x cs hx hc => ?_) (fun i j b h1 h2 => ?_) (fun i b hb => hT _ b hb) hS
 ·rw [List.getElem?_eraseIdx] at hx hc
  have key : ∀ k, xs[k]? = some x → ((List.range xs.length).map C)[k]? = some cs → d.O w (T k) x cs := fun k h1 h2 => by
   have hk := (List.getElem?_eq_some_iff.1 h1).1
   rw [List.getElem?_map, List.getElem?_range hk] at h2
   simp at h2
   subst h2
   exact hO k x h1
  by_cases hi : i < q
  ·rw [if_pos hi] at hx hc ⊢; exact key _ hx hc
  ·rw [if_neg hi] at hx hc ⊢; exact key _ hx hc
 ·have h3 := hTT _ _ b h1 h2
  split at h3 <;> split at h3 <;> omega
theorem ins_at {β : Type} (l : List β) (y : β) (q i : Nat) (hq : q ≤ l.length) : (l.take q ++ y :: l.drop q)[i]? = if i < q then l[i]? else if i = q then some y else l[i - 1]? := by
 rw [List.getElem?_append, List.length_take, Nat.min_eq_left hq]
 by_cases hi : i < q
 ·rw [if_pos hi, if_pos hi, List.getElem?_take, if_pos hi]
 ·rw [if_neg hi, if_neg hi]
  by_cases he : i = q
  ·subst he; simp
  ·rw [if_neg he, show i - q = (i - q - 1) + 1 by omega, List.getElem?_cons_succ, List.getElem?_drop, show q + (i - q - 1) = i - 1 by omega]
theorem R_ins {α : Type} (d : Ty α) {e : TypeId} {w : World} {S S' Tv : Nat → Prop} {v : Value} {xs : List α} {C : Nat → List Value} {T : Nat → Nat → Prop} {q : Nat} {y : α} {cy : List Value} (hq : q ≤ xs.length) (h : (raw d.sz).R e w S v (((List.range xs.length).map C).take q ++ cy :: ((List.range xs.length).map C).drop q))
  (hO : ∀ i x, xs[i]? = some x → d.O w (T i) x (C i)) (hy : d.O w Tv y cy) (hTT : ∀ i j b, T i b → T j b → i = j) (hTv : ∀ i b, T i b → ¬ Tv b) (hT : ∀ i b, T i b → S' b ∧ ¬ S b) (hTv2 : ∀ b, Tv b → S' b ∧ ¬ S b) (hS : ∀ k, S k → S' k) : d.R e w S' v (xs.take q ++ y :: xs.drop q) := by
 refine R_of_raw d h (by simp) (fun i => if i < q then T i else if i = q then Tv else T (i - 1)) (fun i x cs hx hc => ?_) (fun i j b h1 h2 => ?_) (fun i b hb => ?_) hS
 ·rw [ins_at _ _ _ _ (by simpa using hq)] at hc
  rw [ins_at _ _ _ _ hq] at hx
  have key : ∀ k, xs[k]? = some x → ((List.range xs.length).map C)[k]? = some cs → d.O w (T k) x cs := fun k h1 h2 => by
   have hk := (List.getElem?_eq_some_iff.1 h1).1
   rw [List.getElem?_map, List.getElem?_range hk] at h2
   simp at h2
   subst h2
   exact hO k x h1
  show d.O w (if i < q then T i else if i = q then Tv else T (i - 1)) x cs
  by_cases hi : i < q
  ·rw [if_pos hi] at hx hc ⊢; exact key _ hx hc
  ·rw [if_neg hi] at hx hc ⊢
   by_cases he : i = q
   ·rw [if_pos he] at hx hc ⊢
    injection hx with hx; injection hc with hc
    subst hx; subst hc
    exact hy
   ·rw [if_neg he] at hx hc ⊢; exact key _ hx hc
 ·(try simp only at h1 h2)
  by_cases hi : i < q <;> by_cases hj : j < q <;> by_cases hi2 : i = q <;> by_cases hj2 : j = q <;> simp only [hi, hj, hi2, hj2, if_true, if_false, Nat.lt_irrefl] at h1 h2 <;> first
   | omega
   | (exact absurd h1 (hTv _ _ h2))
   | (exact absurd h2 (hTv _ _ h1))
   | (have h3 := hTT _ _ _ h1 h2; omega)
 ·(try simp only at hb)
  split at hb
  ·exact hT _ _ hb
  ·split at hb
   ·exact hTv2 _ hb
   ·exact hT _ _ hb
theorem R_cutS {w : World} {e : TypeId} {S : Nat → Prop} {v : Value} {xs : List ByteArray} {q : Nat} (h : str.R e w S v (xs.take q ++ xs.drop (q + 1))) : str.R e w S v (xs.eraseIdx q) := by rw [List.eraseIdx_eq_take_drop_succ]; exact h
end Go.Proofs.Ytlkjpnlpankhpaa.X
