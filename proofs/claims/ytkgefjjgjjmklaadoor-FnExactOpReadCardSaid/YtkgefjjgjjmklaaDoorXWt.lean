/- What is proved here: contracts of WayText. Conditions: none. -/
import Derived.Test.YtkgefjjgjjmklaaDoorXBy
import Derived.Test.YtkgefjjgjjmklaaDoorXEn
import Derived.Test.YtkgefjjgjjmklaaDoorXPt
import Derived.Test.YtkgefjjgjjmklaaDoorShS
import Derived.Test.YtkgefjjgjjmklaaDoorXJ
namespace Go.Proofs.YtkgefjjgjjmklaaDoor.X
open Go.RowKit Go.Sort
set_option linter.unusedVariables false
set_option linter.unusedSimpArgs false
open Ty
def wayB (l : List ByteArray) : List UInt8 := wayT (l.map (·.data.toList))
theorem wayB_cons (x : ByteArray) (l : List ByteArray) : wayB (x :: l) = 47 :: (esc x.data.toList ++ wayB l) := wayT_cons _ _
theorem wayB_append (a b : List ByteArray) : wayB (a ++ b) = wayB a ++ wayB b := by unfold wayB; rw [List.map_append, wayT_append]
theorem wayB_take (l : List ByteArray) (k : Nat) (hk : k < l.length) : wayB (l.take (k + 1)) = wayB (l.take k) ++ 47 :: esc l[k].data.toList := by
  rw [List.take_succ_eq_append_getElem hk, wayB_append, wayB_cons]; simp [wayB, wayT]
theorem wayB_len : ∀ l : List ByteArray, (wayB l).length ≤ 2 * bulkStringS l
  | [] => by simp [wayB, wayT]
  | x :: l => by
    have h1 := wayB_len l
    have h2 := esc_length x.data.toList
    rw [show x.data.toList.length = x.size by simp] at h2
    rw [wayB_cons]
    simp only [bulkStringS, bulkL, List.length_cons, List.length_append] at h1 ⊢
    omega
theorem wayB_len_take (l : List ByteArray) (k : Nat) : (wayB (l.take k)).length ≤ 2 * bulkStringS l := by
  have h1 := wayB_len l
  have h2 := congrArg (fun x => (wayB x).length) (List.take_append_drop k l)
  simp only [wayB_append, List.length_append] at h2
  omega
theorem esc1_a (b : UInt8) (h : (b.toNat : Int) = 126) : esc1 b = [126, 48] := by
  have : b = 126 := UInt8.toNat_inj.1 (by simpa using (by omega : b.toNat = 126))
  rw [this]; rfl
theorem esc1_b (b : UInt8) (h : (b.toNat : Int) = 47) : esc1 b = [126, 49] := by
  have : b = 47 := UInt8.toNat_inj.1 (by simpa using (by omega : b.toNat = 47))
  rw [this]; rfl
theorem esc1_c (b : UInt8) (h : ¬ (b.toNat : Int) = 126) (h2 : ¬ (b.toNat : Int) = 47) : esc1 b = [b] := by
  unfold esc1
  rw [if_neg (fun e => h (by rw [e]; rfl)), if_neg (fun e => h2 (by rw [e]; rfl))]
theorem esc_take (l : List UInt8) (k : Nat) (hk : k < l.length) : esc (l.take (k + 1)) = esc (l.take k) ++ esc1 l[k] := by
  rw [List.take_succ_eq_append_getElem hk, esc_append]; simp [esc]
theorem esc_len_take (l : List UInt8) (k : Nat) : (esc (l.take k)).length ≤ 2 * l.length := by
  have := esc_length (l.take k)
  have : (l.take k).length ≤ l.length := by simp; omega
  omega
theorem strs_size (l : List ByteArray) (k : Nat) (hk : k < l.length) : l[k].size ≤ bulkStringS l := by
  have := bulkL_mem ByteArray.size (List.getElem_mem hk)
  simp only [bulkStringS]; omega
theorem Lib_replaceAll_eq (s old new : List UInt8) (h : old ≠ new) : Lib.replaceAll s old new = repAll old new s := replaceAll_eq s old new h
set_option maxRecDepth 100000 in
theorem impl_WayText (A : Option Addr) (c : Nat) (l : List ByteArray) (w : World) (hr : str.C w A l) (hl : bulkStringS l ≤ 1048576) (hM : EnvM w) :
    Calls Tryd.prog 15 #[.slice A l.length c] w fun e w' => e = .returned (.string ⟨(wayB l).toArray⟩) ∧ Below w.heap.size w w' := by
  have hm := hr.1
  have HC := Hd.mk hr; have HM := Hd.mk hM; have HL := Hd.mk hl; clear hr hM hl
  go_enter Tryd.func15, Tryd.ntmps15
  go_wp2_with fail
  go_loopw [3, 8] (fun o i wr => ∃ (k : Nat) (s : ByteArray), k ≤ l.length ∧ i = .int .i64 k ∧ o = .string s ∧ Hd (s.data.toList = wayB (l.take k)) ∧ Hd (Below w.heap.size w wr)) (fun _ i _ => l.length - (intOf i).toNat)
  case atStart => exact ⟨0, ⟨#[]⟩, Nat.zero_le _, rfl, rfl, ⟨rfl⟩, ⟨Below.refl _ _⟩⟩
  case round =>
    obtain ⟨k, s, hk, rfl, rfl, HS, hB⟩ := hrel
    have hss : s.size ≤ 2097152 := by
      have h1 := wayB_len_take l k
      have h2 := HL.out
      rw [← HS.out, show s.data.toList.length = s.size by simp] at h1
      omega
    by_cases hlt : k < l.length
    · obtain ⟨ad, rfl, x0, hsz⟩ := C_str_at HC.out hB.out k hlt
      have hsx : l[k].size ≤ 1048576 := Nat.le_trans (strs_size l k hlt) HL.out
      go_wp2_with fail
      obtain ⟨m0, hm0⟩ := HM.out.below hB.out
      have hq1 := Lib.countB_le ⟨#[126]⟩ (by decide) _ l[k] (Nat.le_refl _)
      refine (Tryd.strings_ReplaceAll l[k] ⟨#[126]⟩ ⟨#[126, 48]⟩ m0 wr (by omega) hm0 (by decide) (by rw [show (⟨#[126, 48]⟩ : ByteArray).size = 2 from rfl]; omega)).mono ?_
      rintro e w1 ⟨rfl, hX⟩
      replace hB := Hd.mk (below_then hB.out hX); clear hX
      obtain ⟨t1, ht1⟩ : ∃ t : ByteArray, t = ⟨(Lib.replaceAll l[k].data.toList (⟨#[126]⟩ : ByteArray).data.toList (⟨#[126, 48]⟩ : ByteArray).data.toList).toArray⟩ := ⟨_, rfl⟩
      rw [← ht1]
      have HT1 := Hd.mk (show t1.data.toList = rep1 126 [126, 48] l[k].data.toList by
        rw [ht1, ← rep1_eq, ← Lib_replaceAll_eq _ _ _ (by simp)])
      have hs1 : t1.size ≤ 3145728 := by
        have h1 := repAll_length [126] [126, 48] (by simp) l[k].data.toList
        rw [rep1_eq, ← HT1.out, show t1.data.toList.length = t1.size by simp, show l[k].data.toList.length = l[k].size by simp] at h1
        simp only [List.length_cons, List.length_nil] at h1
        omega
      clear ht1 hq1 hm0
      go_wp2_with fail
      obtain ⟨m1, hm1⟩ := HM.out.below hB.out
      have hq1 := Lib.countB_le ⟨#[47]⟩ (by decide) _ t1 (Nat.le_refl _)
      refine (Tryd.strings_ReplaceAll t1 ⟨#[47]⟩ ⟨#[126, 49]⟩ m1 _ (by omega) hm1 (by decide) (by rw [show (⟨#[126, 49]⟩ : ByteArray).size = 2 from rfl]; omega)).mono ?_
      rintro e w2 ⟨rfl, hX⟩
      replace hB := Hd.mk (below_then hB.out hX); clear hX
      obtain ⟨t2, ht2⟩ : ∃ t : ByteArray, t = ⟨(Lib.replaceAll t1.data.toList (⟨#[47]⟩ : ByteArray).data.toList (⟨#[126, 49]⟩ : ByteArray).data.toList).toArray⟩ := ⟨_, rfl⟩
      rw [← ht2]
      have HT2 := Hd.mk (show t2.data.toList = esc l[k].data.toList by
        rw [ht2, ← esc_eq, ← HT1.out, ← rep1_eq, ← Lib_replaceAll_eq _ _ _ (by simp)])
      have hs2 : t2.size ≤ 2097152 := by
        have h1 := esc_length l[k].data.toList
        rw [← HT2.out, show t2.data.toList.length = t2.size by simp, show l[k].data.toList.length = l[k].size by simp] at h1
        omega
      clear ht2 hq1 hm1
      have HS2 := Hd.mk (show (s ++ ((⟨#[47]⟩ : ByteArray) ++ t2)).data.toList = wayB (l.take (k + 1)) by
        rw [wayB_take l k hlt, ← HS.out, ← HT2.out]; simp)
      go_wp2_with fail
      go_roundw
      case rel => exact ⟨k + 1, _, by omega, by go_num, rfl, HS2, hB⟩
      case measure => simp [intOf]; omega
    · obtain rfl : k = l.length := by omega
      go_wp2_with fail
      go_ret
      refine ⟨?_, hB.out⟩
      have := HS.out
      rw [List.take_length] at this
      rw [← this]; rfl
set_option maxRecDepth 100000 in
theorem spec_WayText (A : Option Addr) (c : Nat) (l : List ByteArray) (w : World) (hr : str.C w A l) (hl : bulkStringS l ≤ 1048576) :
    Calls Tryd.prog 13 #[.slice A l.length c] w fun e w' => e = .returned (.string ⟨(wayB l).toArray⟩) ∧ Below w.heap.size w w' := by
  have hm := hr.1
  have HC := Hd.mk hr; have HL := Hd.mk hl; clear hr hl
  have HE := Hd.mk (buf_empty w w.heap.size (Nat.le_refl _))
  go_enter Tryd.func13, Tryd.ntmps13
  go_wp2_with fail
  go_loopw [3, 4] (fun o i wr => ∃ (k : Nat) (v : Value) (b : List UInt8), k ≤ l.length ∧ i = .int .i64 k ∧ o = v ∧ Hd (Buf wr w.heap.size v b) ∧ Hd (b = wayB (l.take k)) ∧ Hd (Below w.heap.size w wr)) (fun _ i _ => l.length - (intOf i).toNat)
  case atStart => exact ⟨0, _, [], Nat.zero_le _, rfl, rfl, HE, ⟨rfl⟩, ⟨below_alloc (Below.refl _ _) _⟩⟩
  case round =>
    obtain ⟨k, v, b, hk, rfl, rfl, HV, HS, hB⟩ := hrel
    have hbl : b.length ≤ 2097152 := by
      have h1 := wayB_len_take l k
      have h2 := HL.out
      rw [← HS.out] at h1
      omega
    by_cases hlt : k < l.length
    · have hsx : l[k].size ≤ 1048576 := Nat.le_trans (strs_size l k hlt) HL.out
      obtain ⟨ad, rfl, x0, hsz⟩ := C_str_at HC.out hB.out k hlt
      have hBz := hB.out.size
      go_wp2_with (at_builtin; refine append_buf rfl rfl [47] _ rfl rfl _ _ rfl rfl rfl HV.out hBz (by simp; omega) (fun v1 w1 hv1 hf1 => ?_))
      have HV1 := Hd.mk hv1; have hB1 := Hd.mk (below_frS hB.out hf1 (fun k h => h)); clear hv1 hf1 HV hB hBz x0
      have HES := Hd.mk (show b ++ [47] = wayB (l.take k) ++ 47 :: esc (l[k].data.toList.take 0) by rw [HS.out]; rfl)
      clear hbl
      go_loopw [3, 5] (fun o i wr2 => ∃ (q : Nat) (v2 : Value) (b2 : List UInt8), q ≤ l[k].size ∧ i = .int .i64 q ∧ o = v2 ∧ Hd (Buf wr2 w.heap.size v2 b2) ∧ Hd (b2 = wayB (l.take k) ++ 47 :: esc (l[k].data.toList.take q)) ∧ Hd (Below w.heap.size w wr2)) (fun _ i _ => l[k].size - (intOf i).toNat)
      case atStart => exact ⟨0, v1, _, Nat.zero_le _, rfl, rfl, HV1, HES, hB1⟩
      case round =>
        obtain ⟨q, v2, b2, hq, rfl, rfl, HV2, HS2, hB2⟩ := hrel
        have hbl2 : b2.length ≤ 6291456 := by
          have h1 := wayB_len_take l k
          have h2 := HL.out
          have h3 := esc_len_take l[k].data.toList q
          rw [show l[k].data.toList.length = l[k].size by simp] at h3
          rw [HS2.out, List.length_append, List.length_cons]
          omega
        obtain ⟨ad2, hA2, x0, hsz⟩ := C_str_at HC.out hB2.out k hlt
        obtain rfl : ad = ad2 := by injection hA2
        have hBz := hB2.out.size
        by_cases hq2 : q < l[k].size
        · have hql : q < l[k].data.toList.length := by simpa using hq2
          have HT := Hd.mk (esc_take l[k].data.toList q hql)
          have e1 : l[k].data.toList[q] = l[k][q] := rfl
          by_cases h126 : (l[k][q].toNat : Int) = 126
          · have HT2 := Hd.mk (esc1_a _ h126)
            go_wp2_with (at_builtin; refine append_buf rfl rfl [126, 48] _ rfl rfl _ _ rfl rfl rfl HV2.out hBz (by simp; omega) (fun v3 w3 hv3 hf3 => ?_))
            have HV3 := Hd.mk hv3; have hB3 := Hd.mk (below_frS hB2.out hf3 (fun k h => h)); clear hv3 hf3
            have HS3 := Hd.mk (show b2 ++ [126, 48] = wayB (l.take k) ++ 47 :: esc (l[k].data.toList.take (q + 1)) by rw [HT.out, e1, HT2.out, HS2.out]; simp)
            go_wp2_with fail
            go_roundw
            case rel => exact ⟨q + 1, v3, _, by omega, by go_num, rfl, HV3, HS3, hB3⟩
            case measure => simp [intOf]; omega
          by_cases h47 : (l[k][q].toNat : Int) = 47
          · have HT2 := Hd.mk (esc1_b _ h47)
            go_wp2_with (at_builtin; refine append_buf rfl rfl [126, 49] _ rfl rfl _ _ rfl rfl rfl HV2.out hBz (by simp; omega) (fun v3 w3 hv3 hf3 => ?_))
            have HV3 := Hd.mk hv3; have hB3 := Hd.mk (below_frS hB2.out hf3 (fun k h => h)); clear hv3 hf3
            have HS3 := Hd.mk (show b2 ++ [126, 49] = wayB (l.take k) ++ 47 :: esc (l[k].data.toList.take (q + 1)) by rw [HT.out, e1, HT2.out, HS2.out]; simp)
            go_wp2_with fail
            go_roundw
            case rel => exact ⟨q + 1, v3, _, by omega, by go_num, rfl, HV3, HS3, hB3⟩
            case measure => simp [intOf]; omega
          · have HT2 := Hd.mk (esc1_c _ h126 h47)
            go_wp2_with (at_builtin; refine append_buf rfl rfl [l[k][q]] _ rfl rfl _ _ rfl rfl rfl HV2.out hBz (by simp; omega) (fun v3 w3 hv3 hf3 => ?_))
            have HV3 := Hd.mk hv3; have hB3 := Hd.mk (below_frS hB2.out hf3 (fun k h => h)); clear hv3 hf3
            have HS3 := Hd.mk (show b2 ++ [l[k][q]] = wayB (l.take k) ++ 47 :: esc (l[k].data.toList.take (q + 1)) by rw [HT.out, e1, HT2.out, HS2.out]; simp)
            go_wp2_with fail
            go_roundw
            case rel => exact ⟨q + 1, v3, _, by omega, by go_num, rfl, HV3, HS3, hB3⟩
            case measure => simp [intOf]; omega
        · obtain rfl : q = l[k].size := by omega
          have HS3 := Hd.mk (show b2 = wayB (l.take (k + 1)) by
            rw [wayB_take l k hlt, HS2.out, show l[k].size = l[k].data.toList.length by simp, List.take_length])
          go_wp2_with fail
          go_roundw
          case rel =>
            exact ⟨k + 1, _, b2, by omega, by go_num, rfl, HV2, HS3, hB2⟩
          case measure => simp [intOf]; omega
    · obtain rfl : k = l.length := by omega
      obtain ⟨A2, c2, rfl, hC2⟩ := HV.out.form
      have hcv := conv_buf (c := c2) hC2
      go_wp2_with fail
      go_ret
      refine ⟨?_, hB.out⟩
      have := HS.out
      rw [List.take_length] at this
      rw [this]; rfl
end Go.Proofs.YtkgefjjgjjmklaaDoor.X
