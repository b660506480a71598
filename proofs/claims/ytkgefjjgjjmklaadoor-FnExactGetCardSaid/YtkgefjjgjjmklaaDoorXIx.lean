/- What is proved here: contracts of the texts of numbers: the reference's digits, IndexOf. Conditions: none. -/
import Derived.Test.YtkgefjjgjjmklaaDoorXEn
import Derived.Test.YtkgefjjgjjmklaaDoorXPn
import Derived.Test.YtkgefjjgjjmklaaDoorShN
import Derived.Test.YtkgefjjgjjmklaaDoorXA
import Derived.Laws.IdiomStrings
import Derived.Lib.AtoiErrMem
import Derived.Lib.AppendIntMem
namespace Go.Proofs.YtkgefjjgjjmklaaDoor.X
open Go.RowKit Go.Sort
open Go.Lib (itoa decDigits atoiAll)
set_option linter.unusedVariables false
set_option linter.unusedSimpArgs false
open Ty
theorem itoa_zero : (⟨(itoa 0).toArray⟩ : ByteArray) = ⟨#[48]⟩ := by
  unfold itoa
  rw [if_neg (by omega), decDigits, dif_pos (by simp)]
  rfl
theorem ddig_len (u : Nat) (h : u ≤ 1000000000) : (ddig u).length ≤ 10 := by
  unfold ddig
  split
  · simp
  · exact decDigits_len u 9 (by omega)
theorem conv_one (W : World) (b : Int) (B : UInt8) (h : (B.toNat : Int) = b) : (convert 73 9 (.slice (some ⟨W.heap.size, 0, none⟩) 1 1)).run Tryd.prog (W.alloc (.cells #[.int .u8 b] 5)) = .ok (.string ⟨#[B]⟩) (W.alloc (.cells #[.int .u8 b] 5)) := by
  subst h
  refine run_convert_bytes_back (P := Tryd.prog) (W.alloc (.cells #[.int .u8 (B.toNat : Int)] 5)) 73 9 5 ⟨W.heap.size, 0, none⟩ 1 [B] (by kernel_rfl) (by kernel_rfl) (by kernel_rfl) (fun j hj => ?_)
  obtain rfl : j = 0 := by simpa using hj
  exact (Blk.new W #[.int .u8 (B.toNat : Int)] 5).cell 0 rfl
theorem dig_wrap (d : Nat) (h : d < 10) : wrap64 (48 + (d : Int)) % 256 = 48 + (d : Int) := by
  unfold wrap64; omega
theorem itoa_neg_ (n : Int) (h : n < 0) : (⟨(itoa n).toArray⟩ : ByteArray) = ⟨#[45]⟩ ++ ⟨(ddig n.natAbs).toArray⟩ := by
  unfold itoa ddig
  rw [if_pos h, if_neg (by omega)]
  apply ByteArray.ext
  simp
theorem itoa_pos_ (n : Int) (h : 0 < n) : itoa n = ddig n.natAbs := by
  unfold itoa ddig
  rw [if_neg (by omega), if_neg (by omega)]
  congr 1
  omega
theorem app_dig (u : Nat) (h : u ≠ 0) (s : ByteArray) (l : List UInt8) (hl : l = ddig u ++ s.data.toList) : l = ddig (u / 10) ++ ((⟨#[UInt8.ofNat (48 + u % 10)]⟩ : ByteArray) ++ s).data.toList := by
  rw [hl, ddig_step u h]; simp
/-- What a round takes off a number that is not above 0. -/
theorem dig_neg (m : Int) (s : ByteArray) (l : List UInt8) (hm : m ≠ 0) (h : -1000000000 ≤ m ∧ m ≤ 0 ∧ l = ddig m.natAbs ++ s.data.toList) : ∃ (q r t b : Int) (B : UInt8), m.tdiv 10 = q ∧ m.tmod 10 = r ∧ ((r < 0 → wrap64 (-r) = t) ∧ (¬ r < 0 → r = t)) ∧ wrap64 q = q ∧ wrap64 (48 + t) % 256 = b ∧ (B.toNat : Int) = b ∧
    Hd ((-1000000000 ≤ q ∧ q ≤ 0 ∧ l = ddig q.natAbs ++ ((⟨#[B]⟩ : ByteArray) ++ s).data.toList) ∧ q.natAbs < m.natAbs) := by
  obtain ⟨h0, h1, h2⟩ := h
  obtain ⟨u, rfl⟩ : ∃ u : Nat, m = -(u : Int) := ⟨m.natAbs, by omega⟩
  have hqt : (-(u : Int)).tdiv 10 = -((u / 10 : Nat) : Int) := by rw [Int.neg_tdiv, Int.tdiv_eq_ediv_of_nonneg (by omega)]; omega
  have hrt : (-(u : Int)).tmod 10 = -((u % 10 : Nat) : Int) := by rw [Int.neg_tmod, Int.tmod_eq_emod_of_nonneg (by omega)]; omega
  have hU := app_dig u (by omega) s l (by rw [h2]; simp)
  refine ⟨_, _, ((u % 10 : Nat) : Int), _, UInt8.ofNat (48 + u % 10), hqt, hrt, ⟨fun h => by unfold wrap64; omega, fun h => by omega⟩, by unfold wrap64; omega, rfl, ?_, ⟨⟨by omega, by omega, ?_⟩, by omega⟩⟩
  · rw [dig_wrap _ (by omega), ofNat_dig _ (by omega)]; omega
  · rw [hU]; congr 2; omega
/-- What a round takes off a number that is not below 0. -/
theorem dig_pos (m : Int) (s : ByteArray) (l : List UInt8) (hm : m ≠ 0) (h : 0 ≤ m ∧ m ≤ 1000000000 ∧ l = ddig m.natAbs ++ s.data.toList) : ∃ (q r b : Int) (B : UInt8), m.tdiv 10 = q ∧ m.tmod 10 = r ∧ ¬ r < 0 ∧ wrap64 q = q ∧ wrap64 (48 + r) % 256 = b ∧ (B.toNat : Int) = b ∧
    Hd ((0 ≤ q ∧ q ≤ 1000000000 ∧ l = ddig q.natAbs ++ ((⟨#[B]⟩ : ByteArray) ++ s).data.toList) ∧ q.natAbs < m.natAbs) := by
  obtain ⟨h0, h1, h2⟩ := h
  obtain ⟨u, rfl⟩ := Int.eq_ofNat_of_zero_le h0
  have hqt : (u : Int).tdiv 10 = ((u / 10 : Nat) : Int) := by rw [Int.tdiv_eq_ediv_of_nonneg (by omega)]; omega
  have hrt : (u : Int).tmod 10 = ((u % 10 : Nat) : Int) := by rw [Int.tmod_eq_emod_of_nonneg (by omega)]; omega
  have hU := app_dig u (by omega) s l (by rw [h2]; simp)
  refine ⟨_, _, _, UInt8.ofNat (48 + u % 10), hqt, hrt, by omega, by unfold wrap64; omega, rfl, ?_, ⟨⟨by omega, by omega, ?_⟩, by omega⟩⟩
  · rw [dig_wrap _ (by omega), ofNat_dig _ (by omega)]; omega
  · rw [hU]; rfl
set_option maxRecDepth 100000 in
theorem spec_l2Digits (n : Int) (w : World) (h0 : -1000000000 ≤ n) (h1 : n ≤ 1000000000) :
    Calls Tryd.prog 60 #[.int .i64 n] w fun e w' => e = .returned (.string ⟨(itoa n).toArray⟩) ∧ Below w.heap.size w w' := by
  go_enter Tryd.func60, Tryd.ntmps60
  by_cases hz : n = 0
  · subst hz
    go_wp2_with fail
    go_ret
    exact ⟨by rw [itoa_zero]; rfl, Below.refl _ _⟩
  have HL := Hd.mk (ddig_len n.natAbs (by omega))
  have HI := Hd.mk (And.intro h0 h1); clear h0 h1
  by_cases hn : n < 0
  · have HN := Hd.mk hn
    go_wp2_with fail
    go_loopw [0, 4, 5] (fun a o d wr => ∃ (m : Int) (s : ByteArray), a = .int .i64 m ∧ o = .string s ∧ Hd (-1000000000 ≤ m ∧ m ≤ 0 ∧ ddig n.natAbs = ddig m.natAbs ++ s.data.toList) ∧ Hd (Below w.heap.size w wr)) (fun a _ _ _ => (intOf a).natAbs)
    case atStart => exact ⟨n, ⟨#[]⟩, rfl, rfl, ⟨HI.out.1, by omega, by simp⟩, ⟨Below.refl _ _⟩⟩
    case round =>
      obtain ⟨m, s, rfl, rfl, HD, hB⟩ := hrel
      have hs : s.size ≤ 10 := by
        have h2 := congrArg List.length HD.out.2.2
        have h3 := HL.out
        rw [List.length_append, show s.data.toList.length = s.size by simp] at h2
        omega
      by_cases hm : m = 0
      · subst hm
        go_wp2_with fail
        go_ret
        refine ⟨?_, hB.out⟩
        rw [itoa_neg_ n HN.out, HD.out.2.2]
        simp [ddig]
      · obtain ⟨q, r, t, b, B, hqt, hrt, hw1, hw3, hw4, hb, HU⟩ := dig_neg m s _ hm HD.out
        have hc := conv_one wr b B hb; clear hb
        by_cases hr0 : r < 0
        · have hw1 := hw1.1 hr0
          go_wp2_with fail
          rw [hw3]
          go_roundw
          case rel => exact ⟨q, _, rfl, rfl, ⟨HU.out.1⟩, ⟨below_alloc hB.out _⟩⟩
          case measure => simp only [intOf]; exact HU.out.2
        · obtain rfl := hw1.2 hr0
          clear hw1
          go_wp2_with fail
          rw [hw3]
          go_roundw
          case rel => exact ⟨q, _, rfl, rfl, ⟨HU.out.1⟩, ⟨below_alloc hB.out _⟩⟩
          case measure => simp only [intOf]; exact HU.out.2
  · have HN := Hd.mk hn
    go_wp2_with fail
    go_loopw [0, 4, 5] (fun a o d wr => ∃ (m : Int) (s : ByteArray), a = .int .i64 m ∧ o = .string s ∧ Hd (0 ≤ m ∧ m ≤ 1000000000 ∧ ddig n.natAbs = ddig m.natAbs ++ s.data.toList) ∧ Hd (Below w.heap.size w wr)) (fun a _ _ _ => (intOf a).natAbs)
    case atStart => exact ⟨n, ⟨#[]⟩, rfl, rfl, ⟨by omega, HI.out.2, by simp⟩, ⟨Below.refl _ _⟩⟩
    case round =>
      obtain ⟨m, s, rfl, rfl, HD, hB⟩ := hrel
      have hs : s.size ≤ 10 := by
        have h2 := congrArg List.length HD.out.2.2
        have h3 := HL.out
        rw [List.length_append, show s.data.toList.length = s.size by simp] at h2
        omega
      by_cases hm : m = 0
      · subst hm
        go_wp2_with fail
        go_ret
        refine ⟨?_, hB.out⟩
        rw [itoa_pos_ n (by omega), HD.out.2.2]
        simp [ddig]
      · obtain ⟨q, r, b, B, hqt, hrt, hr0, hw3, hw4, hb, HU⟩ := dig_pos m s _ hm HD.out
        have hc := conv_one wr b B hb; clear hb
        go_wp2_with fail
        rw [hw3]
        go_roundw
        case rel => exact ⟨q, _, rfl, rfl, ⟨HU.out.1⟩, ⟨below_alloc hB.out _⟩⟩
        case measure => simp only [intOf]; exact HU.out.2
theorem valD_take (l : List UInt8) (k : Nat) (hk : k < l.length) : valD (l.take (k + 1)) = valD (l.take k) * 10 + (l[k].toNat - 48) := by
  unfold valD
  rw [List.take_succ_eq_append_getElem hk, List.foldl_append]; rfl
theorem valD_le3 (l : List UInt8) (h : l.all isDig = true) (h3 : l.length ≤ 3) : valD l ≤ 999 := by
  have := valD_lt l 0 h
  have hp : 10 ^ l.length ≤ 10 ^ 3 := Nat.pow_le_pow_right (by omega) h3
  have e : List.foldl stepD 0 l = valD l := rfl
  omega
set_option maxRecDepth 100000 in
theorem spec_IndexOf (s : ByteArray) (w : World) (hs : s.size ≤ 9223372036854775807) :
    Calls Tryd.prog 23 #[.string s] w fun e w' => e = .returned (.int .i64 (idxS s.data.toList)) ∧ Below w.heap.size w w' := by
  go_enter Tryd.func23, Tryd.ntmps23
  have HE : s.toList = s.data.toList := by rw [ByteArray.toList_eq]
  cases he : (s.toList == [])
  case true =>
    have HX := Hd.mk (show idxS s.data.toList = -1 by unfold idxS; rw [if_pos (.inl (by rw [← HE]; simpa using he))])
    clear HE
    go_wp2_with fail
    go_ret
    exact ⟨by rw [HX.out]; rfl, Below.refl _ _⟩
  by_cases hl : (3 : Int) < (s.size : Int)
  · have HX := Hd.mk (show idxS s.data.toList = -1 by unfold idxS; rw [if_pos (.inr (by rw [show s.data.toList.length = s.size by simp]; omega))])
    clear HE
    go_wp2_with fail
    go_ret
    exact ⟨by rw [HX.out]; rfl, Below.refl _ _⟩
  · have HX := Hd.mk (show idxS s.data.toList = if s.data.toList.all isDig then (if decDigits (valD s.data.toList) = s.data.toList then (valD s.data.toList : Int) else -1) else -1 by
      unfold idxS
      rw [if_neg (fun h => ?_)]
      rcases h with h | h
      · rw [HE, h] at he; simp at he
      · simp at h; omega)
    clear HE
    go_wp2_with fail
    have HL := Hd.mk (show s.data.toList.length ≤ 3 by rw [show s.data.toList.length = s.size by simp]; omega)
    go_loopw [3, 4] (fun x i wr => ∃ (k : Nat) (v : Int), k ≤ s.size ∧ i = .int .i64 k ∧ x = .int .i64 v ∧ Hd ((s.data.toList.take k).all isDig = true ∧ v = valD (s.data.toList.take k)) ∧ Hd (Below w.heap.size w wr)) (fun _ i _ => s.size - (intOf i).toNat)
    case atStart => exact ⟨0, 0, Nat.zero_le _, rfl, rfl, ⟨rfl, rfl⟩, ⟨Below.refl _ _⟩⟩
    case round =>
      obtain ⟨k, v, hk, rfl, rfl, HA, hB⟩ := hrel
      have hv : 0 ≤ v ∧ v ≤ 999 := by
        have h1 := valD_le3 (s.data.toList.take k) HA.out.1 (by have := HL.out; simp; omega)
        have h2 := HA.out.2
        omega
      have hv0 := hv.1; have hv1 := hv.2; clear hv
      by_cases hlt : k < s.size
      · have hkl : k < s.data.toList.length := by simpa using hlt
        have hT := Hd.mk (valD_take s.data.toList k hkl)
        have HA2 := Hd.mk (show (s.data.toList.take (k + 1)).all isDig = isDig s[k] from all_take isDig s.data.toList k hkl HA.out.1)
        have hno := Hd.mk (fun (h : isDig s[k] = false) => show idxS s.data.toList = -1 by rw [HX.out, all_false isDig s.data.toList (k + 1) (by rw [HA2.out, h])]; rfl)
        by_cases h1 : (s[k].toNat : Int) < 48
        · have HN := Hd.mk (hno.out (by unfold isDig; simp; omega))
          go_wp2_with fail
          go_ret
          exact ⟨by rw [HN.out]; rfl, hB.out⟩
        by_cases h2 : 57 < (s[k].toNat : Int)
        · have HN := Hd.mk (hno.out (by unfold isDig; simp; omega))
          go_wp2_with fail
          go_ret
          exact ⟨by rw [HN.out]; rfl, hB.out⟩
        · have hw : wrap64 ((s[k].toNat : Nat) : Int) = s[k].toNat := by unfold wrap64; omega
          go_wp2_with fail
          go_roundw
          case rel =>
            refine ⟨k + 1, _, by omega, by go_num, rfl, ⟨?_, ?_⟩, hB⟩
            · rw [HA2.out]; unfold isDig; simp; omega
            · rw [hT.out, HA.out.2]
              show 10 * ((valD (s.data.toList.take k) : Nat) : Int) + (s[k].toNat : Int) - 48 = _
              have e : s.data.toList[k] = s[k] := rfl
              rw [e]; omega
          case measure => simp [intOf]; omega
      · obtain rfl : k = s.size := by omega
        have HE2 := Hd.mk (show s.data.toList.all isDig = true ∧ v = valD s.data.toList by
          have := HA.out
          rwa [show s.size = s.data.toList.length by simp, List.take_length] at this)
        go_wp2_with fail
        refine (spec_l2Digits v wr (by omega) (by omega)).mono ?_
        rintro e w1 ⟨rfl, hX1⟩
        have hB1 := Hd.mk (below_then hB.out hX1); clear hX1
        obtain ⟨t, ht⟩ : ∃ t : ByteArray, t = ⟨(itoa v).toArray⟩ := ⟨_, rfl⟩
        rw [← ht]
        have HT := Hd.mk (show t.toList = decDigits (valD s.data.toList) by rw [ht, ByteArray.toList_eq, HE2.out.2, Go.Lib.itoa_nonneg]); clear ht
        cases hb : (t.toList == s.toList)
        · have HN := Hd.mk (show idxS s.data.toList = -1 by
            rw [HX.out, if_pos HE2.out.1, if_neg (fun h => ?_)]
            rw [HT.out, h, ByteArray.toList_eq] at hb; simp at hb)
          go_wp2_with fail
          go_ret
          exact ⟨by rw [HN.out]; rfl, hB1.out⟩
        · have HN := Hd.mk (show idxS s.data.toList = v by
            rw [HX.out, if_pos HE2.out.1, if_pos (by rw [HT.out, ByteArray.toList_eq] at hb; simpa using hb)]
            exact HE2.out.2.symm)
          go_wp2_with fail
          go_ret
          exact ⟨by rw [HN.out]; rfl, hB1.out⟩
set_option maxRecDepth 100000 in
theorem impl_IndexOf (s : ByteArray) (w : World) (hs : s.size ≤ 281474976710656) (hT : EnvT w) (hE : EnvE w) :
    Calls Tryd.prog 24 #[.string s] w fun e w' => e = .returned (.int .i64 (idxI s.data.toList)) ∧ Below w.heap.size w w' := by
  obtain ⟨⟨tp, p, hE1⟩, tp2, p2, hE2⟩ := hE
  have HT := Hd.mk hT; clear hT
  have HE1 := Hd.mk hE1; have HE2 := Hd.mk hE2; clear hE1 hE2
  go_enter Tryd.func24, Tryd.ntmps24
  go_wp2_with fail
  cases ha : atoiAll s.data.toList
  · rename_i v
    have HX := Hd.mk (show idxI s.data.toList = if 0 ≤ v ∧ v ≤ 999 ∧ itoa v = s.data.toList then v else -1 by unfold idxI; rw [ha])
    refine (Tryd.strconv_Atoi_ok s (by omega) v ha w).mono ?_
    rintro e w1 ⟨rfl, hX1⟩
    have hB1 := Hd.mk (show Below w.heap.size w w1 by
      rcases hX1 with rfl | ⟨t, rfl⟩
      · exact Below.refl _ _
      · exact Go.Lib.bytesWorld_below w _ t); clear hX1
    go_wp2_with fail
    refine (impl_within _ _ _ _).mono ?_
    rintro e w2 ⟨rfl, rfl⟩
    by_cases hv : 0 ≤ v ∧ v ≤ 999
    · rw [inB_iff.2 hv]
      go_wp2_with fail
      refine (Tryd.strconv_Itoa v (by omega) (by omega) _ (HT.out.below hB1.out)).mono ?_
      rintro e w3 ⟨rfl, hX2⟩
      have hB2 := Hd.mk (show Below w.heap.size w w3 by
        obtain ⟨k, os, rfl⟩ := hX2
        exact below_then hB1.out (Go.Lib.below_grow _ _ (Nat.le_refl _) k os)); clear hX2
      obtain ⟨t, ht⟩ : ∃ t : ByteArray, t = ⟨(itoa v).toArray⟩ := ⟨_, rfl⟩
      rw [← ht]
      have HT2 := Hd.mk (show t.toList = itoa v by rw [ht, ByteArray.toList_eq]); clear ht
      cases hb : (t.toList == s.toList)
      · have HN := Hd.mk (show idxI s.data.toList = -1 by
          rw [HX.out, if_neg (fun h => ?_)]
          rw [HT2.out, h.2.2, ByteArray.toList_eq] at hb; simp at hb)
        go_wp2_with fail
        go_ret
        exact ⟨by rw [HN.out]; rfl, hB2.out⟩
      · have HN := Hd.mk (show idxI s.data.toList = v by
          rw [HX.out, if_pos ⟨hv.1, hv.2, by rw [HT2.out, ByteArray.toList_eq] at hb; simpa using hb⟩])
        go_wp2_with fail
        go_ret
        exact ⟨by rw [HN.out]; rfl, hB2.out⟩
    · rw [show inB v 0 999 = false by simpa [inB] using hv]
      have HN := Hd.mk (show idxI s.data.toList = -1 by rw [HX.out, if_neg (fun h => hv ⟨h.1, h.2.1⟩)])
      go_wp2_with fail
      go_ret
      exact ⟨by rw [HN.out]; rfl, hB1.out⟩
  · have HX := Hd.mk (show idxI s.data.toList = -1 by unfold idxI; rw [ha])
    refine (Tryd.strconv_Atoi_syntax_var s hs (fun v h => by rw [ha] at h; cases h) (fun h => by rw [ha] at h; cases h) tp p w HE1.out).mono ?_
    rintro e w1 ⟨N, rfl, _, _, hX1⟩
    have hB1 := Hd.mk hX1; clear hX1
    go_wp2_with fail
    go_ret
    exact ⟨by rw [HX.out]; rfl, hB1.out⟩
  · have HX := Hd.mk (show idxI s.data.toList = -1 by unfold idxI; rw [ha])
    refine (Tryd.strconv_Atoi_range_var s hs ha tp2 p2 w HE2.out).mono ?_
    rintro e w1 ⟨N, rfl, _, _, hX1⟩
    have hB1 := Hd.mk hX1; clear hX1
    go_wp2_with fail
    go_ret
    exact ⟨by rw [HX.out]; rfl, hB1.out⟩
end Go.Proofs.YtkgefjjgjjmklaaDoor.X
