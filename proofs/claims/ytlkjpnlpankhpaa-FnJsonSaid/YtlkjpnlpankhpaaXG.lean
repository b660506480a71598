/- What is proved here: contracts of the functions that look at values. Conditions: none. -/
import Derived.Test.YtlkjpnlpankhpaaXJ
import Derived.Test.YtlkjpnlpankhpaaXFb
namespace Go.Proofs.Ytlkjpnlpankhpaa.X
open Go.RowKit Go.Sort
set_option linter.unusedVariables false
set_option linter.unusedSimpArgs false
open Ty
def byteB (b : UInt8) : Bool := inB (b.toNat : Int) 32 126
def textB (s : ByteArray) : Bool := s.data.toList.all byteB && decide ((s.size : Int) ≤ 60)
theorem wrap64_byte (b : UInt8) : wrap64 ((b.toNat : Nat) : Int) = b.toNat := by
  have := b.toNat_lt
  unfold wrap64
  omega
set_option maxRecDepth 100000 in
theorem impl_textOk (s : ByteArray) (w : World) (hs : s.size ≤ 9223372036854775807) :
    Calls Try.prog 106 #[.string s] w fun e w' => e = .returned (.bool (textB s)) ∧ w = w' := by
  go_enter Try.func106, Try.ntmps106
  go_wp2
  go_loop [6] (fun i => ∃ k : Nat, k ≤ s.size ∧ i = .int .i64 k ∧ Hd ((s.data.toList.take k).all byteB = true)) (fun i => s.size - (intOf i).toNat)
  case atStart => exact ⟨0, Nat.zero_le _, rfl, ⟨rfl⟩⟩
  case round =>
    obtain ⟨k, hk, rfl, HA⟩ := hrel
    by_cases hlt : k < s.size
    · have hw : wrap64 ((s[k].toNat : Nat) : Int) = s[k].toNat := wrap64_byte _
      have HA2 := Hd.mk (show (s.data.toList.take (k + 1)).all byteB = byteB s[k] from all_take byteB s.data.toList k (by simpa using hlt) HA.out)
      go_wp2_with fail
      refine (impl_within _ _ _ _).mono ?_
      rintro e w' ⟨rfl, rfl⟩
      cases hb : inB (s[k].toNat : Int) 32 126
      · have HN := Hd.mk (show textB s = false by rw [textB, all_false byteB s.data.toList (k + 1) (by rw [HA2.out]; exact hb)]; rfl)
        go_wp2_with fail
        go_ret
        exact ⟨by rw [HN.out]; rfl, rfl⟩
      · have HN := Hd.mk (show byteB s[k] = true from hb)
        go_wp2_with fail
        go_round
        case rel => exact ⟨k + 1, by omega, by go_num, ⟨by rw [HA2.out]; exact HN.out⟩⟩
        case measure => simp [intOf]; omega
    · obtain rfl : k = s.size := by omega
      have HN := Hd.mk (show textB s = decide ((s.size : Int) ≤ 60) by
        have := HA.out
        rw [show s.size = s.data.toList.length by simp, List.take_length] at this
        rw [textB, this]; rfl)
      go_wp2_with fail
      go_ret
      exact ⟨by rw [HN.out]; rfl, rfl⟩
set_option maxRecDepth 100000 in
theorem spec_l1Text (s : ByteArray) (w : World) (hs : s.size ≤ 9223372036854775807) :
    Calls Try.prog 76 #[.string s] w fun e w' => e = .returned (.bool (textB s)) ∧ w = w' := by
  go_enter Try.func76, Try.ntmps76
  go_wp2
  go_loop [3] (fun i => ∃ k : Nat, k ≤ s.size ∧ i = .int .i64 k ∧ Hd ((s.data.toList.take k).all byteB = true)) (fun i => s.size - (intOf i).toNat)
  case atStart => exact ⟨0, Nat.zero_le _, rfl, ⟨rfl⟩⟩
  case round =>
    obtain ⟨k, hk, rfl, HA⟩ := hrel
    by_cases hlt : k < s.size
    · have HA2 := Hd.mk (show (s.data.toList.take (k + 1)).all byteB = byteB s[k] from all_take byteB s.data.toList k (by simpa using hlt) HA.out)
      by_cases h1 : (s[k].toNat : Int) < 32
      · have HN := Hd.mk (show textB s = false by rw [textB, all_false byteB s.data.toList (k + 1) (by rw [HA2.out]; simp [byteB, inB]; omega)]; rfl)
        go_wp2_with fail
        go_ret
        exact ⟨by rw [HN.out]; rfl, rfl⟩
      by_cases h2 : 126 < (s[k].toNat : Int)
      · have HN := Hd.mk (show textB s = false by rw [textB, all_false byteB s.data.toList (k + 1) (by rw [HA2.out]; simp [byteB, inB]; omega)]; rfl)
        go_wp2_with fail
        go_ret
        exact ⟨by rw [HN.out]; rfl, rfl⟩
      · have HN := Hd.mk (show byteB s[k] = true by simp [byteB, inB]; omega)
        go_wp2_with fail
        go_round
        case rel => exact ⟨k + 1, by omega, by go_num, ⟨by rw [HA2.out]; exact HN.out⟩⟩
        case measure => simp [intOf]; omega
    · obtain rfl : k = s.size := by omega
      have HN := Hd.mk (show textB s = decide ((s.size : Int) ≤ 60) by
        have := HA.out
        rw [show s.size = s.data.toList.length by simp, List.take_length] at this
        rw [textB, this]; rfl)
      go_wp2_with fail
      go_ret
      exact ⟨by rw [HN.out]; rfl, rfl⟩
def ltB (a b : ByteArray) : Bool := Go.Op.bytesLess a.toList b.toList
theorem run_geq (a b : ByteArray) (w : World) : (Go.binOp .geq 9 (.string a) (.string b)).run Try.prog w = .ok (.bool (!ltB a b)) w := by
  rfl
def nameStep (l : List ByteArray) (k : Nat) : Bool := textB (l.getD k ByteArray.empty) && (k == 0 || ltB (l.getD (k - 1) ByteArray.empty) (l.getD k ByteArray.empty))
def namesB (l : List ByteArray) : Bool := (List.range l.length).all (nameStep l)
theorem all_range_ (p : Nat → Bool) (k : Nat) (h : (List.range k).all p = true) : (List.range (k + 1)).all p = p k := by
  rw [List.range_succ, List.all_append, h]; simp
theorem nameStep_at {l : List ByteArray} {k : Nat} (hk : k < l.length) : nameStep l k = (textB l[k] && (k == 0 || ltB (l.getD (k - 1) ByteArray.empty) l[k])) := by
  unfold nameStep
  rw [show l.getD k ByteArray.empty = l[k] by simp [List.getD_eq_getElem?_getD, hk]]
theorem namesB_no {l : List ByteArray} {k : Nat} (hk : k < l.length) (h : nameStep l k = false) : namesB l = false := by
  rw [namesB, List.all_eq_false]
  exact ⟨k, List.mem_range.2 hk, by simp [h]⟩
set_option maxRecDepth 100000 in
theorem impl_namesOk (A : Option Addr) (c : Nat) (l : List ByteArray) (w : World) (hr : str.C w A l) :
    Calls Try.prog 107 #[.slice A l.length c] w fun e w' => e = .returned (.bool (namesB l)) ∧ w = w' := by
  have hm := hr.1
  have HC := Hd.mk hr; clear hr
  go_enter Try.func107, Try.ntmps107
  go_wp2
  go_loop [7] (fun i => ∃ k : Nat, k ≤ l.length ∧ i = .int .i64 k ∧ Hd ((List.range k).all (nameStep l) = true)) (fun i => l.length - (intOf i).toNat)
  case atStart => exact ⟨0, Nat.zero_le _, rfl, ⟨rfl⟩⟩
  case round =>
    obtain ⟨k, hk, rfl, HA⟩ := hrel
    by_cases hlt : k < l.length
    · obtain ⟨ad, rfl, hx, hsz⟩ := C_str_at HC.out (Below.refl _ _) k hlt
      have HP := Hd.mk (show ∀ j, k = j + 1 → ∃ hj : j < l.length, w.cell? (ad.add j) = some (.string l[j]) from fun j e => by
        obtain ⟨ad', e', h, _⟩ := C_str_at HC.out (Below.refl _ _) j (by omega)
        injection e' with e'; subst e'
        exact ⟨by omega, h⟩)
      have HA2 := Hd.mk (all_range_ (nameStep l) k HA.out)
      go_wp2_with fail
      refine (impl_textOk _ _ hsz).mono ?_
      rintro e w' ⟨rfl, rfl⟩
      cases hb : textB l[k]
      · have HE := Hd.mk (show namesB l = false from namesB_no hlt (by rw [nameStep_at hlt, hb]; rfl))
        go_wp2_with fail
        go_ret
        exact ⟨by rw [HE.out]; rfl, rfl⟩
      have HE := Hd.mk (show nameStep l k = (k == 0 || ltB (l.getD (k - 1) ByteArray.empty) l[k]) by rw [nameStep_at hlt, hb]; rfl)
      clear hb
      cases k with
      | zero =>
        go_wp2_with fail
        go_round
        case rel => exact ⟨1, by omega, by go_num, ⟨by rw [HA2.out, HE.out]; rfl⟩⟩
        case measure => simp [intOf]; omega
      | succ j =>
        obtain ⟨hj, hx2⟩ := HP.out j rfl
        have HE2 := Hd.mk (show nameStep l (j + 1) = ltB l[j] l[j + 1] by rw [HE.out]; simp [List.getD_eq_getElem?_getD, hj])
        have hge := run_geq l[j] l[j + 1]
        cases h2 : ltB l[j] l[j + 1]
        all_goals rw [h2] at hge
        · have HN := Hd.mk (show namesB l = false from namesB_no hlt (by rw [HE2.out, h2]))
          clear h2
          go_wp2_with fail
          go_ret
          exact ⟨by rw [HN.out]; rfl, rfl⟩
        · have HN := Hd.mk (show nameStep l (j + 1) = true by rw [HE2.out, h2])
          clear h2
          go_wp2_with fail
          go_round
          case rel => exact ⟨j + 1 + 1, by omega, by go_num, ⟨by rw [HA2.out, HN.out]⟩⟩
          case measure => simp [intOf]; omega
    · obtain rfl : k = l.length := by omega
      go_wp2_with fail
      go_ret
      exact ⟨by rw [namesB, HA.out]; rfl, rfl⟩
end Go.Proofs.Ytlkjpnlpankhpaa.X
