/- What is proved here: contracts of a text in marks. Conditions: none. -/
import Derived.Test.YtkgefjjgjjmklaaDoorXBy
import Derived.Test.YtkgefjjgjjmklaaDoorXPe
namespace Go.Proofs.YtkgefjjgjjmklaaDoor.X
open Go.RowKit Go.Sort
set_option linter.unusedVariables false
set_option linter.unusedSimpArgs false
open Ty
theorem buf_new (W : World) (B n : Nat) (hn : W.heap.size = n) (hB : B ≤ n) (vs : List UInt8) (C : Array Value) (hC : C = (vs.map (fun b => Value.int .u8 (byI b))).toArray) (hl : vs.length ≤ 9223372036854775807) (m : Nat) (hm : m = vs.length) : Buf (W.alloc (.cells C 5)) B (.slice (some ⟨n, 0, none⟩) m m) vs := by
  subst hn; subst hC; subst hm
  have := R_block (d := u8) (e := 5) (w := W.alloc (.cells (vs.map (fun b => Value.int .u8 (byI b))).toArray 5)) (S := fun q => B ≤ q) (g := W.heap.size) (cap := vs.length) (xs := vs.map byI) (heap_alloc_new W _) hB (by simp) hl (by simp [u8, scal]) (fun b => 0 + 0) (fun i x hx => ?_)
  · rw [List.length_map] at this; exact this
  · rw [List.getElem?_map] at hx
    obtain ⟨y, hy, rfl⟩ := Option.map_eq_some_iff.1 hx
    show (((vs.map (fun b => Value.int .u8 (byI b))).toArray.toList.drop (i * 1)).take 1) = [.int .u8 (byI y)]
    have hil := (List.getElem?_eq_some_iff.1 hy).1
    rw [Nat.mul_one, List.toList_toArray, ← List.map_drop, ← List.map_take, List.drop_eq_getElem_cons hil]
    simp [(List.getElem?_eq_some_iff.1 hy).2]
def qP (s : ByteArray) (k : Nat) : List UInt8 := 34 :: (s.data.toList.take k).flatMap q1
theorem qP_succ (s : ByteArray) (k : Nat) (hk : k < s.data.toList.length) : qP s (k + 1) = qP s k ++ q1 s.data.toList[k] := by
  unfold qP
  rw [List.take_succ_eq_append_getElem hk, List.flatMap_append]; simp
theorem qP_len (s : ByteArray) (k : Nat) : (qP s k).length ≤ 2 * s.size + 2 := by
  have h := quoteL_length (s.data.toList.take k)
  have h2 : (s.data.toList.take k).length ≤ s.size := by rw [List.length_take]; simp; omega
  unfold quoteL at h
  unfold qP
  simp only [List.length_cons, List.length_append, List.length_nil] at h ⊢
  omega
theorem q1_a (b : UInt8) (h : (b.toNat : Int) = 34) : q1 b = [92, 34] := by
  have : b = 34 := UInt8.toNat_inj.1 (by simpa using (by omega : b.toNat = 34))
  rw [this]; rfl
theorem q1_b (b : UInt8) (h : (b.toNat : Int) = 92) : q1 b = [92, 92] := by
  have : b = 92 := UInt8.toNat_inj.1 (by simpa using (by omega : b.toNat = 92))
  rw [this]; rfl
theorem q1_c (b : UInt8) (h : ¬ (b.toNat : Int) = 34) (h2 : ¬ (b.toNat : Int) = 92) : q1 b = [b] := by
  unfold q1
  rw [if_neg]
  rintro (e | e)
  · exact h (by rw [e]; rfl)
  · exact h2 (by rw [e]; rfl)
theorem conv_buf' {w : World} {A : Option Addr} {c n : Nat} {l : List UInt8} (hn : n = l.length) (hC : u8.C w A (l.map byI)) : (convert 73 9 (.slice A n c)).run Tryd.prog w = .ok (.string ⟨l.toArray⟩) w := by
  subst hn; exact conv_buf hC
set_option maxRecDepth 100000 in
theorem spec_l2Quote (s : ByteArray) (w : World) (hs : s.size ≤ 1073741824) :
    Calls Tryd.prog 98 #[.string s] w fun e w' => e = .returned (.string ⟨(quoteL s.data.toList).toArray⟩) ∧ Below w.heap.size w w' := by
  have HE := Hd.mk (buf_new w w.heap.size w.heap.size rfl (Nat.le_refl _) [34] #[.int .u8 34] rfl (by simp) 1 rfl)
  go_enter Tryd.func98, Tryd.ntmps98
  go_wp2_with fail
  go_loopw [3, 4] (fun o i wr => ∃ (k : Nat) (v : Value) (b : List UInt8), k ≤ s.size ∧ i = .int .i64 k ∧ o = v ∧ Hd (Buf wr w.heap.size v b) ∧ Hd (b = qP s k) ∧ Hd (Below w.heap.size w wr)) (fun _ i _ => s.size - (intOf i).toNat)
  case atStart => exact ⟨0, _, [34], Nat.zero_le _, rfl, rfl, HE, ⟨rfl⟩, ⟨below_alloc (Below.refl _ _) _⟩⟩
  case round =>
    obtain ⟨k, v, b, hk, rfl, rfl, HV, HS, hB⟩ := hrel
    have hbl : b.length ≤ 2147483650 := by
      have h1 := qP_len s k
      rw [← HS.out] at h1
      omega
    have hBz := hB.out.size
    by_cases hlt : k < s.size
    · have hkl : k < s.data.toList.length := by simpa using hlt
      have e1 : s.data.toList[k] = s[k] := rfl
      by_cases h34 : (s[k].toNat : Int) = 34
      · have HQ := Hd.mk (q1_a _ h34)
        go_wp2_with (first
        | (at_builtin; refine append_buf rfl rfl [92] _ rfl rfl _ _ rfl rfl rfl HV.out hBz (by simp; omega) (fun v3 w3 hv3 hf3 => ?_); have HV3 := Hd.mk hv3; have hB3 := Hd.mk (below_frS hB.out hf3 (fun k h => h)); have hBz3 := hB3.out.size; clear hv3 hf3 HV hB hBz)
        | (at_builtin; refine append_buf rfl rfl [34] _ rfl rfl _ _ rfl rfl rfl HV3.out hBz3 (by simp; omega) (fun v4 w4 hv4 hf4 => ?_)))
        have HV4 := Hd.mk hv4; have hB4 := Hd.mk (below_frS hB3.out hf4 (fun k h => h)); clear hv4 hf4
        have HS4 := Hd.mk (show (b ++ [92]) ++ [34] = qP s (k + 1) by rw [qP_succ s k hkl, e1, HQ.out, HS.out]; simp)
        go_wp2_with fail
        go_roundw
        case rel => exact ⟨k + 1, _, _, by omega, by go_num, rfl, HV4, HS4, hB4⟩
        case measure => simp [intOf]; omega
      by_cases h92 : (s[k].toNat : Int) = 92
      · have HQ := Hd.mk (q1_b _ h92)
        go_wp2_with (first
        | (at_builtin; refine append_buf rfl rfl [92] _ rfl rfl _ _ rfl rfl rfl HV.out hBz (by simp; omega) (fun v3 w3 hv3 hf3 => ?_); have HV3 := Hd.mk hv3; have hB3 := Hd.mk (below_frS hB.out hf3 (fun k h => h)); have hBz3 := hB3.out.size; clear hv3 hf3 HV hB hBz)
        | (at_builtin; refine append_buf rfl rfl [92] _ rfl rfl _ _ rfl rfl rfl HV3.out hBz3 (by simp; omega) (fun v4 w4 hv4 hf4 => ?_)))
        have HV4 := Hd.mk hv4; have hB4 := Hd.mk (below_frS hB3.out hf4 (fun k h => h)); clear hv4 hf4
        have HS4 := Hd.mk (show (b ++ [92]) ++ [92] = qP s (k + 1) by rw [qP_succ s k hkl, e1, HQ.out, HS.out]; simp)
        go_wp2_with fail
        go_roundw
        case rel => exact ⟨k + 1, _, _, by omega, by go_num, rfl, HV4, HS4, hB4⟩
        case measure => simp [intOf]; omega
      · have HQ := Hd.mk (q1_c _ h34 h92)
        have hb34 : ((s[k].toNat : Int) == 34) = false := beq_eq_false_iff_ne.2 h34
        have hb92 : ((s[k].toNat : Int) == 92) = false := beq_eq_false_iff_ne.2 h92
        go_wp2_with (at_builtin; refine append_buf rfl rfl [s[k]] _ rfl rfl _ _ rfl rfl rfl HV.out hBz (by simp; omega) (fun v3 w3 hv3 hf3 => ?_))
        have HV3 := Hd.mk hv3; have hB3 := Hd.mk (below_frS hB.out hf3 (fun k h => h)); clear hv3 hf3
        have HS3 := Hd.mk (show b ++ [s[k]] = qP s (k + 1) by rw [qP_succ s k hkl, e1, HQ.out, HS.out])
        go_wp2_with fail
        go_roundw
        case rel => exact ⟨k + 1, _, _, by omega, by go_num, rfl, HV3, HS3, hB3⟩
        case measure => simp [intOf]; omega
    · obtain rfl : k = s.size := by omega
      have HF := Hd.mk (show b ++ [34] = quoteL s.data.toList by
        rw [HS.out]
        unfold qP quoteL
        rw [show s.size = s.data.toList.length by simp, List.take_length]; rfl)
      go_wp2_with (at_builtin; refine append_buf rfl rfl [34] _ rfl rfl _ _ rfl rfl rfl HV.out hBz (by simp; omega) (fun v3 w3 hv3 hf3 => ?_); obtain ⟨A3, c3, hve, hC3⟩ := hv3.form; subst hve; have hcv := conv_buf' (c := c3) (n := b.length + 1) (by simp) hC3)
      have hB3 := Hd.mk (below_frS hB.out hf3 (fun k h => h))
      go_ret
      exact ⟨by rw [← HF.out]; rfl, hB3.out⟩
set_option maxRecDepth 100000 in
theorem impl_quoted (s : ByteArray) (w : World) (hs : s.size ≤ 1073741824) :
    Calls Tryd.prog 100 #[.string s] w fun e w' => e = .returned (.string ⟨(quoteL s.data.toList).toArray⟩) ∧ Below w.heap.size w w' := by
  have HE := Hd.mk (buf_new w w.heap.size w.heap.size rfl (Nat.le_refl _) [34] #[.int .u8 34] rfl (by simp) 1 rfl)
  go_enter Tryd.func100, Tryd.ntmps100
  go_wp2_with fail
  go_loopw [3, 4, 8] (fun o j i wr => ∃ (k : Nat) (v : Value) (b : List UInt8), k ≤ s.size ∧ i = .int .i64 k ∧ o = v ∧ Hd (Buf wr w.heap.size v b) ∧ Hd (b = qP s k) ∧ Hd (Below w.heap.size w wr)) (fun _ _ i _ => s.size - (intOf i).toNat)
  case atStart => exact ⟨0, _, [34], Nat.zero_le _, rfl, rfl, HE, ⟨rfl⟩, ⟨below_alloc (Below.refl _ _) _⟩⟩
  case round =>
    obtain ⟨k, v, b, hk, rfl, rfl, HV, HS, hB⟩ := hrel
    have hbl : b.length ≤ 2147483650 := by
      have h1 := qP_len s k
      rw [← HS.out] at h1
      omega
    have hBz := hB.out.size
    by_cases hlt : k < s.size
    · have hkl : k < s.data.toList.length := by simpa using hlt
      have e1 : s.data.toList[k] = s[k] := rfl
      by_cases h34 : (s[k].toNat : Int) = 34
      · have HQ := Hd.mk (q1_a _ h34)
        go_wp2_with (first
        | (at_builtin; refine append_buf rfl rfl [92] _ rfl rfl _ _ rfl rfl rfl HV.out hBz (by simp; omega) (fun v3 w3 hv3 hf3 => ?_); have HV3 := Hd.mk hv3; have hB3 := Hd.mk (below_frS hB.out hf3 (fun k h => h)); have hBz3 := hB3.out.size; clear hv3 hf3 HV hB hBz)
        | (at_builtin; refine append_buf rfl rfl [34] _ rfl rfl _ _ rfl rfl rfl HV3.out hBz3 (by simp; omega) (fun v4 w4 hv4 hf4 => ?_)))
        have HV4 := Hd.mk hv4; have hB4 := Hd.mk (below_frS hB3.out hf4 (fun k h => h)); clear hv4 hf4
        have HS4 := Hd.mk (show (b ++ [92]) ++ [34] = qP s (k + 1) by rw [qP_succ s k hkl, e1, HQ.out, HS.out]; simp)
        go_wp2_with fail
        go_roundw
        case rel => exact ⟨k + 1, _, _, by omega, by go_num, rfl, HV4, HS4, hB4⟩
        case measure => simp [intOf]; omega
      by_cases h92 : (s[k].toNat : Int) = 92
      · have HQ := Hd.mk (q1_b _ h92)
        go_wp2_with (first
        | (at_builtin; refine append_buf rfl rfl [92] _ rfl rfl _ _ rfl rfl rfl HV.out hBz (by simp; omega) (fun v3 w3 hv3 hf3 => ?_); have HV3 := Hd.mk hv3; have hB3 := Hd.mk (below_frS hB.out hf3 (fun k h => h)); have hBz3 := hB3.out.size; clear hv3 hf3 HV hB hBz)
        | (at_builtin; refine append_buf rfl rfl [92] _ rfl rfl _ _ rfl rfl rfl HV3.out hBz3 (by simp; omega) (fun v4 w4 hv4 hf4 => ?_)))
        have HV4 := Hd.mk hv4; have hB4 := Hd.mk (below_frS hB3.out hf4 (fun k h => h)); clear hv4 hf4
        have HS4 := Hd.mk (show (b ++ [92]) ++ [92] = qP s (k + 1) by rw [qP_succ s k hkl, e1, HQ.out, HS.out]; simp)
        go_wp2_with fail
        go_roundw
        case rel => exact ⟨k + 1, _, _, by omega, by go_num, rfl, HV4, HS4, hB4⟩
        case measure => simp [intOf]; omega
      · have HQ := Hd.mk (q1_c _ h34 h92)
        have hb34 : ((s[k].toNat : Int) == 34) = false := beq_eq_false_iff_ne.2 h34
        have hb92 : ((s[k].toNat : Int) == 92) = false := beq_eq_false_iff_ne.2 h92
        go_wp2_with (at_builtin; refine append_buf rfl rfl [s[k]] _ rfl rfl _ _ rfl rfl rfl HV.out hBz (by simp; omega) (fun v3 w3 hv3 hf3 => ?_))
        have HV3 := Hd.mk hv3; have hB3 := Hd.mk (below_frS hB.out hf3 (fun k h => h)); clear hv3 hf3
        have HS3 := Hd.mk (show b ++ [s[k]] = qP s (k + 1) by rw [qP_succ s k hkl, e1, HQ.out, HS.out])
        go_wp2_with fail
        go_roundw
        case rel => exact ⟨k + 1, _, _, by omega, by go_num, rfl, HV3, HS3, hB3⟩
        case measure => simp [intOf]; omega
    · obtain rfl : k = s.size := by omega
      have HF := Hd.mk (show b ++ [34] = quoteL s.data.toList by
        rw [HS.out]
        unfold qP quoteL
        rw [show s.size = s.data.toList.length by simp, List.take_length]; rfl)
      go_wp2_with (at_builtin; refine append_buf rfl rfl [34] _ rfl rfl _ _ rfl rfl rfl HV.out hBz (by simp; omega) (fun v3 w3 hv3 hf3 => ?_); obtain ⟨A3, c3, hve, hC3⟩ := hv3.form; subst hve; have hcv := conv_buf' (c := c3) (n := b.length + 1) (by simp) hC3)
      have hB3 := Hd.mk (below_frS hB.out hf3 (fun k h => h))
      go_ret
      exact ⟨by rw [← HF.out]; rfl, hB3.out⟩
end Go.Proofs.YtkgefjjgjjmklaaDoor.X
