/- What is proved here: contracts of WayRead. Conditions: none. -/
import Derived.Test.YtkgefjjgjjmklaaDoorXWt
import Derived.Test.YtkgefjjgjjmklaaDoorXO
namespace Go.Proofs.YtkgefjjgjjmklaaDoor.X
open Go.RowKit Go.Sort
set_option linter.unusedVariables false
set_option linter.unusedSimpArgs false
open Ty
def mkB (l : List UInt8) : ByteArray := ⟨l.toArray⟩
def dL (b : ByteArray) : List UInt8 := b.data.toList
theorem dL_mkB (l : List UInt8) : dL (mkB l) = l := by simp [dL, mkB]
theorem mkB_dL (b : ByteArray) : mkB (dL b) = b := by cases b; simp [dL, mkB]
def wayV (s : ByteArray) : List ByteArray := ((wayS s.data.toList).getD []).map mkB
def wayOk (s : ByteArray) : Bool := (wayS s.data.toList).isSome
theorem wayV_none {s : ByteArray} (h : wayS s.data.toList = none) : wayV s = [] ∧ wayOk s = false := by
  unfold wayV wayOk; rw [h]; exact ⟨rfl, rfl⟩
theorem wayV_some {s : ByteArray} {O : List ByteArray} (h : wayS s.data.toList = some (O.map dL)) : wayV s = O ∧ wayOk s = true := by
  unfold wayV wayOk; rw [h]
  refine ⟨?_, rfl⟩
  simp [List.map_map, show mkB ∘ dL = id from funext mkB_dL]

theorem bulkL_one {α : Type} : ∀ l : List α, bulkL one l = l.length
  | [] => rfl
  | x :: l => by
    have ih := bulkL_one l
    simp only [bulkL, one, List.length_cons, ih]; omega
theorem wayV_one (s : ByteArray) : (bulkL one (wayV s) : Int) ≤ 1099511627776 := by
  rw [bulkL_one]
  unfold wayV
  cases h : wayS s.data.toList with
  | none => simp
  | some w =>
    have := (wayS_sound h).2
    simp; omega

/-! The reference's state at place i -/
def St (S : List UInt8) (i : Nat) (O : List (List UInt8)) (nw : List UInt8) : Prop := (i = 0 ∧ O = [] ∧ nw = []) ∨ (0 < i ∧ wayS S = cut6 (dec (S.drop i) O nw))
theorem St_slash0 {S : List UInt8} {i : Nat} {O : List (List UInt8)} {nw : List UInt8} (h : St S i O nw) (h0 : ¬ 0 < i) (hi : i < S.length) (hc : S[i] = 47) : St S (i + 1) O [] := by
  obtain rfl : i = 0 := by omega
  rcases h with h | h
  · rw [h.2.1]
    cases S with
    | nil => simp at hi
    | cons c r =>
      have hc : c = 47 := hc
      exact .inr ⟨by omega, by rw [wayS, if_pos hc]; rfl⟩
  · omega
theorem St_pos {S : List UInt8} {i : Nat} {O : List (List UInt8)} {nw : List UInt8} (h : St S i O nw) (hp : 0 < i) (hi : i < S.length) : wayS S = cut6 (dec (S[i] :: S.drop (i + 1)) O nw) := by
  rcases h with h | h
  · omega
  · rw [h.2, List.drop_eq_getElem_cons hi]
theorem St_slash {S : List UInt8} {i : Nat} {O : List (List UInt8)} {nw : List UInt8} (h : St S i O nw) (hp : 0 < i) (hi : i < S.length) (hc : S[i] = 47) : St S (i + 1) (O ++ [nw]) [] :=
  .inr ⟨by omega, by rw [St_pos h hp hi, dec_cons, if_pos hc]⟩
theorem St_bad0 {S : List UInt8} {i : Nat} (hi : i < S.length) (h0 : i = 0) (hc : S[i] ≠ 47) : wayS S = none := by
  subst h0
  cases S with
  | nil => simp at hi
  | cons c r =>
    have hc : c ≠ 47 := hc
    rw [wayS, if_neg hc]
theorem St_chr {S : List UInt8} {i : Nat} {O : List (List UInt8)} {nw : List UInt8} (h : St S i O nw) (hp : 0 < i) (hi : i < S.length) (hc : S[i] ≠ 47) (hd : S[i] ≠ 126) : St S (i + 1) O (nw ++ [S[i]]) :=
  .inr ⟨by omega, by rw [St_pos h hp hi, dec_cons, if_neg hc, if_neg hd]⟩
theorem St_t {S : List UInt8} {i : Nat} {O : List (List UInt8)} {nw : List UInt8} (h : St S i O nw) (hp : 0 < i) (hi : i + 1 < S.length) (hd : S[i] = 126) : wayS S = cut6 (if S[i + 1] = 48 then dec (S.drop (i + 2)) O (nw ++ [126]) else if S[i + 1] = 49 then dec (S.drop (i + 2)) O (nw ++ [47]) else none) := by
  rw [St_pos h hp (by omega), dec_cons, if_neg (by rw [hd]; decide), if_pos hd, List.drop_eq_getElem_cons hi]
theorem St_end1 {S : List UInt8} {i : Nat} {O : List (List UInt8)} {nw : List UInt8} (h : St S i O nw) (hp : 0 < i) (hi : i < S.length) (hl : i + 1 = S.length) (hd : S[i] = 126) : wayS S = none := by
  rw [St_pos h hp hi, dec_cons, if_neg (by rw [hd]; decide), if_pos hd, List.drop_eq_nil_of_le (by omega)]; rfl
theorem St_48 {S : List UInt8} {i : Nat} {O : List (List UInt8)} {nw : List UInt8} (h : St S i O nw) (hp : 0 < i) (hi : i + 1 < S.length) (hd : S[i] = 126) (he : S[i + 1] = 48) : St S (i + 1 + 1) O (nw ++ [126]) :=
  .inr ⟨by omega, by rw [St_t h hp hi hd, if_pos he]⟩
theorem St_49 {S : List UInt8} {i : Nat} {O : List (List UInt8)} {nw : List UInt8} (h : St S i O nw) (hp : 0 < i) (hi : i + 1 < S.length) (hd : S[i] = 126) (he : S[i + 1] = 49) : St S (i + 1 + 1) O (nw ++ [47]) :=
  .inr ⟨by omega, by rw [St_t h hp hi hd, if_neg (by rw [he]; decide), if_pos he]⟩
theorem St_tbad {S : List UInt8} {i : Nat} {O : List (List UInt8)} {nw : List UInt8} (h : St S i O nw) (hp : 0 < i) (hi : i + 1 < S.length) (hd : S[i] = 126) (he : S[i + 1] ≠ 48) (hf : S[i + 1] ≠ 49) : wayS S = none := by
  rw [St_t h hp hi hd, if_neg he, if_neg hf]; rfl
theorem St_fin {S : List UInt8} {O : List (List UInt8)} {nw : List UInt8} (h : St S S.length O nw) (hp : S ≠ []) : wayS S = if 6 < (O ++ [nw]).length then none else some (O ++ [nw]) := by
  rcases h with h | h
  · exact absurd (List.length_eq_zero_iff.1 h.1) hp
  · rw [h.2, List.drop_eq_nil_of_le (Nat.le_refl _), dec]; rfl
/-- Two rows of one's own, apart, above the first block. -/
def Sets (B n : Nat) (P Q : Nat → Prop) : Prop := B < n ∧ (∀ q, P q → B < q ∧ q < n ∧ ¬ Q q) ∧ ∀ q, Q q → B < q ∧ q < n
theorem Sets.fin {B n n3 n4 : Nat} {P Q : Nat → Prop} (h : Sets B n P Q) (h3 : n ≤ n3) (h4 : n4 = n3 + 1) : Sets B n4 (fun k => (P k ∨ n ≤ k) ∧ k < n3) (fun k => k = n3) := by
  have h0 := h.1
  refine ⟨by omega, fun q hq => ⟨?_, ?_, ?_⟩, fun q hq => ?_⟩
  · rcases hq.1 with h1 | h1
    · exact (h.2.1 q h1).1
    · omega
  · have := hq.2; omega
  · intro e
    have := hq.2
    omega
  · have hq : q = n3 := hq
    omega
theorem Sets.now0 {B n n4 : Nat} {P Q : Nat → Prop} (h : Sets B n P Q) (h4 : n4 = n + 1) : Sets B n4 (fun k => P k ∧ k < n) (fun k => k = n) := by
  have h0 := h.1
  refine ⟨by omega, fun q hq => ⟨(h.2.1 q hq.1).1, by have := hq.2; omega, fun e => by have := hq.2; omega⟩, fun q hq => ?_⟩
  have hq : q = n := hq
  omega
theorem Sets.app {B n n3 : Nat} {P Q : Nat → Prop} (h : Sets B n P Q) (h3 : n ≤ n3) : Sets B n3 P (fun k => (Q k ∨ n ≤ k) ∧ k < n3) := by
  have h0 := h.1
  refine ⟨by omega, fun q hq => ⟨(h.2.1 q hq).1, by have := (h.2.1 q hq).2.1; omega, fun e => ?_⟩, fun q hq => ⟨?_, hq.2⟩⟩
  · have h1 := h.2.1 q hq
    rcases e.1 with e | e
    · exact h1.2.2 e
    · omega
  · rcases hq.1 with h1 | h1
    · exact (h.2.2 q h1).1
    · omega
set_option maxHeartbeats 4000000 in
set_option maxRecDepth 100000 in
theorem spec_WayRead (s : ByteArray) (w : World) (hs : s.size ≤ 1048576) :
    Calls Tryd.prog 17 #[.string s] w fun e w' => ∃ v, e = .returned (.tuple #[v, .bool (wayOk s)]) ∧ str.R 9 w' (fun k => w.heap.size ≤ k) v (wayV s) ∧ Below w.heap.size w w' := by
  have HN0 := R_emptyN str 9 (W := w) rfl
  have HO0 := R_emptyN str 9 (W := w.alloc (.cells #[] 9)) (n := w.heap.size + 1) (by simp)
  have HB0 := R_emptyN u8 5 (W := (w.alloc (.cells #[] 9)).alloc (.cells #[] 9)) (n := w.heap.size + 1 + 1) (by simp)
  have HN := Hd.mk (R_below (R_below HN0 (below_alloc (Below.refl _ _) (.cells #[] 9))) (below_alloc (Below.refl _ _) (.cells #[] 5)))
  have HO := Hd.mk (R_below HO0 (below_alloc (Below.refl _ _) (.cells #[] 5)))
  have HB := Hd.mk HB0; clear HN0 HO0 HB0
  go_enter Tryd.func17, Tryd.ntmps17
  go_wp2_with fail
  go_loopw [5, 6, 7] (fun vo vn vi wr => ∃ (i : Nat) (O : List ByteArray) (nw : List UInt8) (P Q : Nat → Prop), i ≤ s.size ∧ vi = .int .i64 i ∧ Hd (str.R 9 wr P vo O) ∧ Hd (u8.R 5 wr Q vn (nw.map byI)) ∧ Hd (Sets w.heap.size wr.heap.size P Q) ∧ Hd (St s.data.toList i (O.map dL) nw) ∧ Hd (O.length ≤ i ∧ nw.length ≤ i) ∧ Hd (str.R 9 wr (fun k => k = w.heap.size) (.slice (some ⟨w.heap.size, 0, none⟩) 0 0) []) ∧ Hd (Below w.heap.size w wr)) (fun _ _ i _ => s.size - (intOf i).toNat)
  case atStart => exact ⟨0, [], [], _, _, Nat.zero_le _, rfl, HO, HB, ⟨⟨by simp; omega, fun q h => by simp; omega, fun q h => by simp; omega⟩⟩, ⟨.inl ⟨rfl, rfl, rfl⟩⟩, ⟨by simp⟩, HN, ⟨below_alloc (below_alloc (below_alloc (Below.refl _ _) _) _) _⟩⟩
  case round =>
    obtain ⟨i, O, nw, P, Q, hi, rfl, HO, HB, HS, HT, HLn, HN, hB⟩ := hrel
    have hln : nw.length ≤ 1048576 := by have := HLn.out.2; omega
    have hlo : O.length ≤ 1048576 := by have := HLn.out.1; omega
    by_cases hlt : i < s.size
    · have hil : i < s.data.toList.length := by simpa using hlt
      have HC := Hd.mk (fun (x : UInt8) (h : (s[i].toNat : Int) = (x.toNat : Int)) => show s.data.toList[i] = x from UInt8.toNat_inj.1 (show s[i].toNat = x.toNat by omega))
      have HD := Hd.mk (fun (x : UInt8) (h : ¬ (s[i].toNat : Int) = (x.toNat : Int)) => show s.data.toList[i] ≠ x from fun e => h (by rw [← e]; rfl))
      have HBs := Hd.mk hB.out.size
      have hBn := HS.out.1
      by_cases h0 : i = 0
      · subst h0
        by_cases h47 : (s[0].toNat : Int) = 47
        · have HTT := Hd.mk (St_slash0 HT.out (by omega) hil (HC.out 47 h47))
          have HE := Hd.mk (R_emptyN u8 5 (W := wr) rfl)
          have hE := below_alloc (Below.refl wr.heap.size wr) (.cells #[] 5)
          have HO2 := Hd.mk (R_below (R_bound HO.out) hE)
          have HN2 := Hd.mk (R_below HN.out hE)
          have hB2 := Hd.mk (below_then hB.out hE); clear hE
          go_wp2_with fail
          go_roundw
          case rel => exact ⟨1, O, [], _, _, by omega, rfl, HO2, HE, ⟨HS.out.now0 (by simp)⟩, HTT, ⟨⟨by have := HLn.out.1; omega, by simp⟩⟩, HN2, hB2⟩
          case measure => simp [intOf]; omega
        · have HX := Hd.mk (wayV_none (St_bad0 hil rfl (HD.out 47 h47)))
          go_wp2_with fail
          go_ret2
          exact ⟨_, by rw [HX.out.2]; rfl, by rw [HX.out.1]; exact R_mono (fun k h => by omega) HN.out, hB.out⟩
      have h0p : (0 : Int) < (i : Int) := by omega
      have hi0 : ¬ (i : Int) = 0 := by omega
      by_cases h47 : (s[i].toNat : Int) = 47
      · obtain ⟨A2, c2, hvn, _, hC2⟩ := R_C HB.out
        rw [List.length_map] at hvn
        subst hvn
        have hcv := conv_buf (c := c2) hC2
        have HTT := Hd.mk (St_slash HT.out (by omega) hil (HC.out 47 h47))
        go_wp2_with (at_builtin; refine append_s1 rfl rfl ⟨nw.toArray⟩ (by simp [ByteArray.size]; omega) rfl _ _ rfl rfl rfl HO.out (by omega) (fun v3 w3 hv3 hf3 => ?_))
        have HE := Hd.mk (R_emptyN u8 5 (W := w3) rfl)
        have hE := below_alloc (Below.refl w3.heap.size w3) (.cells #[] 5)
        have HO2 := Hd.mk (R_below (R_bound hv3) hE)
        have HN2 := Hd.mk (R_below (R_fr HN.out hf3 (fun k h _ hp => by have := (HS.out.2.1 k hp).1; omega)) hE)
        have hB2 := Hd.mk (below_then (below_frS hB.out hf3 (fun k hp => by have := (HS.out.2.1 k hp).1; omega)) hE)
        have hz3 := hf3.size; clear hE hv3 hf3
        go_roundw
        case rel => exact ⟨i + 1, _, [], _, _, by omega, by go_num, HO2, HE, ⟨HS.out.fin hz3 (by simp)⟩, ⟨by rw [List.map_append]; exact HTT.out⟩, ⟨⟨by have := HLn.out.1; simp; omega, by simp⟩⟩, HN2, hB2⟩
        case measure => simp [intOf]; omega
      by_cases h126 : (s[i].toNat : Int) = 126
      · by_cases hend : ((i : Int) + 1) = (s.size : Int)
        · have HX := Hd.mk (wayV_none (St_end1 HT.out (by omega) hil (by simp; omega) (HC.out 126 h126)))
          go_wp2_with fail
          go_ret2
          exact ⟨_, by rw [HX.out.2]; rfl, by rw [HX.out.1]; exact R_mono (fun k h => by omega) HN.out, hB.out⟩
        · have hlt2 : i + 1 < s.size := by omega
          have hil2 : i + 1 < s.data.toList.length := by simpa using hlt2
          have HC2 := Hd.mk (fun (x : UInt8) (h : (s[i + 1].toNat : Int) = (x.toNat : Int)) => show s.data.toList[i + 1] = x from UInt8.toNat_inj.1 (show s[i + 1].toNat = x.toNat by omega))
          have HD2 := Hd.mk (fun (x : UInt8) (h : ¬ (s[i + 1].toNat : Int) = (x.toNat : Int)) => show s.data.toList[i + 1] ≠ x from fun e => h (by rw [← e]; rfl))
          by_cases h48 : (s[i + 1].toNat : Int) = 48
          · have HTT := Hd.mk (St_48 HT.out (by omega) hil2 (HC.out 126 h126) (HC2.out 48 h48))
            go_wp2_with (at_builtin; refine append_bufS rfl rfl [126] _ rfl rfl _ _ rfl rfl rfl HB.out (by simp; omega) (fun v3 w3 hv3 hf3 => ?_))
            have HO2 := Hd.mk (R_fr HO.out hf3 (fun k hp _ hq => (HS.out.2.1 k hp).2.2 hq))
            have HN2 := Hd.mk (R_fr HN.out hf3 (fun k h _ hp => by have := (HS.out.2.2 k hp).1; omega))
            have hB2 := Hd.mk (below_frS hB.out hf3 (fun k hp => by have := (HS.out.2.2 k hp).1; omega))
            have HB2 := Hd.mk (R_bound hv3)
            have hz3 := hf3.size; clear hv3 hf3
            go_roundw
            case rel => exact ⟨i + 1 + 1, O, _, P, _, by omega, by go_num, HO2, HB2, ⟨HS.out.app hz3⟩, HTT, ⟨⟨by have := HLn.out.1; omega, by have := HLn.out.2; simp; omega⟩⟩, HN2, hB2⟩
            case measure => simp [intOf]; omega
          by_cases h49 : (s[i + 1].toNat : Int) = 49
          · have HTT := Hd.mk (St_49 HT.out (by omega) hil2 (HC.out 126 h126) (HC2.out 49 h49))
            go_wp2_with (at_builtin; refine append_bufS rfl rfl [47] _ rfl rfl _ _ rfl rfl rfl HB.out (by simp; omega) (fun v3 w3 hv3 hf3 => ?_))
            have HO2 := Hd.mk (R_fr HO.out hf3 (fun k hp _ hq => (HS.out.2.1 k hp).2.2 hq))
            have HN2 := Hd.mk (R_fr HN.out hf3 (fun k h _ hp => by have := (HS.out.2.2 k hp).1; omega))
            have hB2 := Hd.mk (below_frS hB.out hf3 (fun k hp => by have := (HS.out.2.2 k hp).1; omega))
            have HB2 := Hd.mk (R_bound hv3)
            have hz3 := hf3.size; clear hv3 hf3
            go_roundw
            case rel => exact ⟨i + 1 + 1, O, _, P, _, by omega, by go_num, HO2, HB2, ⟨HS.out.app hz3⟩, HTT, ⟨⟨by have := HLn.out.1; omega, by have := HLn.out.2; simp; omega⟩⟩, HN2, hB2⟩
            case measure => simp [intOf]; omega
          · have HX := Hd.mk (wayV_none (St_tbad HT.out (by omega) hil2 (HC.out 126 h126) (HD2.out 48 h48) (HD2.out 49 h49)))
            have hb48 : ((s[i + 1].toNat : Int) != 48) = true := bne_iff_ne.2 h48
            have hb49 : ((s[i + 1].toNat : Int) != 49) = true := bne_iff_ne.2 h49
            go_wp2_with fail
            go_ret2
            exact ⟨_, by rw [HX.out.2]; rfl, by rw [HX.out.1]; exact R_mono (fun k h => by omega) HN.out, hB.out⟩
      · have HTT := Hd.mk (St_chr HT.out (by omega) hil (HD.out 47 h47) (HD.out 126 h126))
        go_wp2_with (at_builtin; refine append_bufS rfl rfl [s[i]] _ rfl rfl _ _ rfl rfl rfl HB.out (by simp; omega) (fun v3 w3 hv3 hf3 => ?_))
        have HO2 := Hd.mk (R_fr HO.out hf3 (fun k hp _ hq => (HS.out.2.1 k hp).2.2 hq))
        have HN2 := Hd.mk (R_fr HN.out hf3 (fun k h _ hp => by have := (HS.out.2.2 k hp).1; omega))
        have hB2 := Hd.mk (below_frS hB.out hf3 (fun k hp => by have := (HS.out.2.2 k hp).1; omega))
        have HB2 := Hd.mk (R_bound hv3)
        have hz3 := hf3.size; clear hv3 hf3
        go_roundw
        case rel => exact ⟨i + 1, O, _, P, _, by omega, by go_num, HO2, HB2, ⟨HS.out.app hz3⟩, HTT, ⟨⟨by have := HLn.out.1; omega, by have := HLn.out.2; simp; omega⟩⟩, HN2, hB2⟩
        case measure => simp [intOf]; omega
    · obtain rfl : i = s.size := by omega
      have HTs := Hd.mk (show St s.data.toList s.data.toList.length (O.map dL) nw by rw [show s.data.toList.length = s.size by simp]; exact HT.out)
      cases he : (s.toList == [])
      · obtain ⟨A2, c2, hvn, _, hC2⟩ := R_C HB.out
        rw [List.length_map] at hvn
        subst hvn
        have hcv := conv_buf (c := c2) hC2
        have HF := Hd.mk (show wayS s.data.toList = if 6 < O.length + 1 then none else some ((O ++ [(⟨nw.toArray⟩ : ByteArray)]).map dL) by
          rw [St_fin HTs.out (fun e => by rw [ByteArray.toList_eq, e] at he; simp at he)]
          simp [dL])
        have hBz := Hd.mk hB.out.size
        by_cases h6 : (6 : Int) < (O.length : Int) + 1
        · have HX := Hd.mk (wayV_none (show wayS s.data.toList = none by rw [HF.out, if_pos (by omega)]))
          go_wp2_with (at_builtin; refine append_s1 rfl rfl ⟨nw.toArray⟩ (by simp [ByteArray.size]; omega) rfl _ _ rfl rfl rfl HO.out (by omega) (fun v3 w3 hv3 hf3 => ?_); obtain ⟨A3, c3, hv3e, _, _⟩ := R_C hv3; subst hv3e)
          have HN2 := Hd.mk (R_fr HN.out hf3 (fun k h _ hp => by have := (HS.out.2.1 k hp).1; omega))
          have hB2 := Hd.mk (below_frS hB.out hf3 (fun k hp => by have := (HS.out.2.1 k hp).1; omega))
          rw [List.length_append] at hv3
          have HO2 := Hd.mk hv3; clear hv3 hf3
          go_ret2
          exact ⟨_, by rw [HX.out.2]; rfl, by rw [HX.out.1]; exact R_mono (fun k h => by omega) HN2.out, hB2.out⟩
        · have HX := Hd.mk (wayV_some (show wayS s.data.toList = some ((O ++ [(⟨nw.toArray⟩ : ByteArray)]).map dL) by rw [HF.out, if_neg (by omega)]))
          go_wp2_with (at_builtin; refine append_s1 rfl rfl ⟨nw.toArray⟩ (by simp [ByteArray.size]; omega) rfl _ _ rfl rfl rfl HO.out (by omega) (fun v3 w3 hv3 hf3 => ?_); obtain ⟨A3, c3, hv3e, _, _⟩ := R_C hv3; subst hv3e)
          have HN2 := Hd.mk (R_fr HN.out hf3 (fun k h _ hp => by have := (HS.out.2.1 k hp).1; omega))
          have hB2 := Hd.mk (below_frS hB.out hf3 (fun k hp => by have := (HS.out.2.1 k hp).1; omega))
          rw [List.length_append] at hv3
          have HO2 := Hd.mk hv3; clear hv3 hf3
          have hmono : ∀ k, (P k ∨ wr.heap.size ≤ k) → w.heap.size ≤ k := fun k h => by
            have := hBz.out
            rcases h with h | h
            · have := (HS.out.2.1 k h).1; omega
            · omega
          go_ret2
          exact ⟨_, by rw [HX.out.2]; rfl, by rw [HX.out.1]; exact R_mono hmono HO2.out, hB2.out⟩
      · have hse : s.data.toList = [] := by rw [ByteArray.toList_eq] at he; simpa using he
        have hO0 : O = [] := by
          have h1 := HLn.out.1
          have h2 : s.size = 0 := by rw [← show s.data.toList.length = s.size by simp, hse]; rfl
          exact List.length_eq_zero_iff.1 (by omega)
        subst hO0
        obtain ⟨A3, c3, hv3e, _, _⟩ := R_C HO.out
        subst hv3e
        have HX := Hd.mk (wayV_some (O := []) (show wayS s.data.toList = some ([].map dL) by rw [hse]; rfl))
        clear hse
        go_wp2_with fail
        go_ret2
        exact ⟨_, by rw [HX.out.2]; rfl, by rw [HX.out.1]; exact R_mono (fun k h => by have := (HS.out.2.1 k h).1; omega) HO.out, hB.out⟩
theorem spl_sum (c : UInt8) : ∀ s : List UInt8, ((spl c s).map (fun x => x.length + 1)).sum = s.length + 1
  | [] => rfl
  | b :: l => by
    have ih := spl_sum c l
    rw [spl]
    split
    · simp only [List.map_cons, List.sum_cons, ih, List.length_nil, List.length_cons]; omega
    · split
      · rename_i h t he
        rw [he] at ih
        simp only [List.map_cons, List.sum_cons, List.length_cons] at ih ⊢
        omega
      · rename_i he
        rw [he] at ih; simp at ih
theorem bulk_sum : ∀ l : List ByteArray, bulkStringS l = ((l.map dL).map (fun x => x.length + 1)).sum
  | [] => rfl
  | x :: l => by
    have ih := bulk_sum l
    simp only [bulkStringS, bulkL, List.length_cons, List.map_cons, List.sum_cons] at ih ⊢
    have : (dL x).length = x.size := by simp [dL]
    omega
/-- The pieces behind the first. -/
def piecesW (s : ByteArray) : List ByteArray := (Lib.splitB ⟨#[47]⟩ 0 (Lib.countB s ⟨#[47]⟩) s).tail
theorem piecesW_dL (s : ByteArray) : (piecesW s).map dL = (Lib.split s.data.toList [47]).tail := by
  unfold piecesW
  rw [List.map_tail, show dL = (fun x : ByteArray => x.data.toList) from rfl, Lib.splitB_data]; rfl
theorem piecesW_len (s : ByteArray) : (piecesW s).length = Lib.countB s ⟨#[47]⟩ := by
  unfold piecesW
  rw [List.length_tail, Lib.splitB_all ⟨#[47]⟩ (by decide) 0 _ s rfl]; rfl
theorem piecesW_bulk (s : ByteArray) : bulkStringS (piecesW s) ≤ s.size := by
  have h := spl_sum 47 s.data.toList
  rw [bulk_sum, piecesW_dL, split_one]
  rw [show s.data.toList.length = s.size by simp] at h
  cases hs : spl 47 s.data.toList with
  | nil => simp
  | cons x r =>
    rw [hs] at h
    simp only [List.map_cons, List.sum_cons] at h
    simp only [List.tail_cons]
    omega
theorem pieces_C (W : World) (l : List ByteArray) (n : Nat) (hb : Blk W n (l.map Value.string).toArray 9) (h : ∀ x ∈ l.tail, x.size ≤ 9223372036854775807) (hl : l.tail.length ≤ 9223372036854775807) : str.C W (some ⟨n, 1, none⟩) l.tail := by
  refine ⟨hl, fun i x hx => ⟨⟨n, 1, none⟩, [.string x], rfl, ⟨rfl, h x (List.mem_of_getElem? hx)⟩, fun j u hu => ?_⟩⟩
  obtain ⟨rfl, rfl⟩ : j = 0 ∧ u = .string x := by
    cases j with
    | zero => simpa using hu.symm
    | succ j => simp at hu
  have e : (⟨n, 1, none⟩ : Addr).add (i * str.sz + 0) = ⟨n, 1 + i, none⟩ := by
    show (⟨n, 1, none⟩ : Addr).add (i * 1 + 0) = _
    unfold Addr.add; split <;> simp_all
  rw [e]
  refine hb.cell (1 + i) ?_
  rw [List.getElem?_toArray, List.getElem?_map, Nat.add_comm 1 i]
  rw [List.getElem?_tail] at hx
  rw [hx]; rfl
theorem rep2_len (a b c : UInt8) : ∀ s, (rep2 a b c s).length ≤ s.length
  | [] => Nat.le_refl _
  | [x] => Nat.le_refl _
  | x :: y :: r => by
    rw [rep2_cons2]
    split
    · have := rep2_len a b c r
      simp only [List.length_cons]; omega
    · have := rep2_len a b c (y :: r)
      simp only [List.length_cons] at this ⊢; omega
theorem unesc_len (t : List UInt8) : (unesc t).length ≤ t.length := Nat.le_trans (rep2_len _ _ _ _) (rep2_len _ _ _ _)
def unescB (t : ByteArray) : ByteArray := mkB (unesc t.data.toList)
theorem unescB_bulk : ∀ l : List ByteArray, bulkStringS (l.map unescB) ≤ bulkStringS l
  | [] => Nat.le_refl _
  | x :: l => by
    have ih := unescB_bulk l
    have h := unesc_len x.data.toList
    rw [show x.data.toList.length = x.size by simp] at h
    have h2 : (unescB x).size = (unesc x.data.toList).length := by simp [unescB, mkB, ByteArray.size]
    simp only [List.map_cons, bulkStringS, bulkL, List.length_cons] at ih ⊢
    omega
theorem wayI_pieces (s : ByteArray) (h : s.data.toList ≠ []) : wayS s.data.toList = if 6 < ((piecesW s).map unescB).length ∨ wayB ((piecesW s).map unescB) ≠ s.data.toList then none else some (((piecesW s).map unescB).map dL) := by
  have e : (Lib.split s.data.toList [47]).tail.map unesc = ((piecesW s).map unescB).map dL := by
    rw [← piecesW_dL, List.map_map, List.map_map]
    rw [show unesc ∘ dL = dL ∘ unescB from funext fun x => (dL_mkB _).symm]
  rw [← way_eq]
  unfold wayI
  rw [if_neg h]
  simp only [e]
  rw [List.length_map]
  rfl
set_option maxHeartbeats 4000000 in
set_option maxRecDepth 100000 in
theorem impl_WayRead (s : ByteArray) (w : World) (hs : s.size ≤ 1048576) (hM : EnvM w) :
    Calls Tryd.prog 18 #[.string s] w fun e w' => ∃ v, e = .returned (.tuple #[v, .bool (wayOk s)]) ∧ str.R 9 w' (fun k => w.heap.size ≤ k) v (wayV s) ∧ Below w.heap.size w w' := by
  have HN := Hd.mk (R_emptyN str 9 (W := w) rfl)
  have hE := below_alloc (Below.refl w.heap.size w) (.cells #[] 9)
  have HM := Hd.mk (EnvM.below hM hE); have HMw := Hd.mk hM; clear hM
  have hB := Hd.mk hE; clear hE
  go_enter Tryd.func18, Tryd.ntmps18
  cases he : (s.toList == [])
  case true =>
    have HX := Hd.mk (wayV_some (s := s) (O := []) (show wayS s.data.toList = some ([].map dL) by
      rw [ByteArray.toList_eq] at he
      rw [show s.data.toList = [] by simpa using he]; rfl))
    go_wp2_with fail
    go_ret2
    exact ⟨_, by rw [HX.out.2]; rfl, by rw [HX.out.1]; exact R_mono (fun k h => by omega) HN.out, hB.out⟩
  go_wp2_with fail
  obtain ⟨m0, hm0⟩ := HM.out
  have HP := Hd.mk (piecesW_len s)
  have hq1 := Lib.countB_le ⟨#[47]⟩ (by decide) _ s (Nat.le_refl _)
  refine (Tryd.strings_Split s ⟨#[47]⟩ m0 _ (by omega) hm0 (by decide)).mono ?_
  rintro e w1 ⟨rfl, hX⟩
  have HSe := Hd.mk (show s.data.toList ≠ [] from fun e => by rw [ByteArray.toList_eq, e] at he; simp at he)
  have HPC := Hd.mk (fun (W : World) (hb : Blk W (w.heap.size + 1) ((Lib.splitB ⟨#[47]⟩ 0 (Lib.countB s ⟨#[47]⟩) s).map Value.string).toArray 9) => show str.C W (some ⟨w.heap.size + 1, 1, none⟩) (piecesW s) from by
    have hbk := piecesW_bulk s
    have hbl := piecesW_len s
    exact pieces_C W _ _ hb (fun x hx => by
      have h1 := bulkL_mem ByteArray.size (show x ∈ piecesW s from hx)
      simp only [bulkStringS] at hbk; omega) (by show (piecesW s).length ≤ _; omega))
  have HBl := Hd.mk (show Blk w1 (w.heap.size + 1) ((Lib.splitB ⟨#[47]⟩ 0 (Lib.countB s ⟨#[47]⟩) s).map Value.string).toArray 9 by
    rw [hX]; simpa using Blk.new (w.alloc (.cells #[] 9)) ((Lib.splitB ⟨#[47]⟩ 0 (Lib.countB s ⟨#[47]⟩) s).map Value.string).toArray 9)
  obtain ⟨PB, hPB⟩ : ∃ PB, PB = ((Lib.splitB ⟨#[47]⟩ 0 (Lib.countB s ⟨#[47]⟩) s).map Value.string).toArray := ⟨_, rfl⟩
  rw [← hPB] at HPC HBl; clear hPB
  have hB1 := Hd.mk (show Below w.heap.size w w1 by rw [hX]; exact below_alloc hB.out _)
  have HN1 := Hd.mk (show str.R 9 w1 (fun k => k = w.heap.size) (.slice (some ⟨w.heap.size, 0, none⟩) 0 0) [] by rw [hX]; exact R_below HN.out (below_alloc (Below.refl _ _) _))
  have hz1 := Hd.mk (show w.heap.size + 2 ≤ w1.heap.size by rw [hX]; simp)
  obtain ⟨q, hq⟩ : ∃ q, q = Lib.countB s ⟨#[47]⟩ := ⟨_, rfl⟩
  rw [← hq] at HP hq1 ⊢
  clear hq hX hm0 HN hB HM
  by_cases hq0 : q = 0
  · subst hq0
    go_wp2_with fail
    go_loopw [4, 6, 15] (fun vw vp vi wr => ∃ (k : Nat) (O : List ByteArray), k ≤ 0 ∧ vi = .int .i64 k ∧ Hd (O.length = k ∧ O = ((piecesW s).take k).map unescB) ∧ Hd (str.R 9 wr (fun j => w.heap.size ≤ j ∧ j ≠ w.heap.size + 1) vw O) ∧ Hd (Blk wr (w.heap.size + 1) PB 9) ∧ Hd (Below w.heap.size w wr)) (fun _ _ i _ => 0 - (intOf i).toNat)
    case atStart => exact ⟨0, [], Nat.zero_le _, rfl, ⟨rfl, rfl⟩, ⟨R_mono (fun k hk => by omega) HN1.out⟩, HBl, hB1⟩
    case round =>
      obtain ⟨k, O, hk, rfl, HO, HV, hBl, hB⟩ := hrel
      obtain rfl : k = 0 := by omega
      replace HO := Hd.mk (show O = (piecesW s).map unescB by
        rw [List.length_eq_zero_iff.1 HO.out.1, List.length_eq_zero_iff.1 HP.out]; rfl)
      have HW := Hd.mk (wayI_pieces s HSe.out)
      have HBk := Hd.mk (show bulkStringS O ≤ 1048576 by
        rw [HO.out]; exact Nat.le_trans (unescB_bulk _) (Nat.le_trans (piecesW_bulk s) hs))
      rw [← HO.out] at HW
      obtain ⟨A3, c3, hve, hc3, hC3⟩ := R_C HV.out
      subst hve
      have hmO := hC3.1
      have HC3 := Hd.mk hC3; clear hC3
      by_cases h6 : (6 : Int) < (O.length : Int)
      · have HX := Hd.mk (wayV_none (show wayS s.data.toList = none by rw [HW.out, if_pos (.inl (by omega))]))
        go_wp2_with fail
        go_ret2
        exact ⟨_, by rw [HX.out.2]; rfl, by rw [HX.out.1]; exact R_nil, hB.out⟩
      · go_wp2_with fail
        refine (impl_WayText _ _ O _ HC3.out HBk.out (HMw.out.below hB.out)).mono ?_
        rintro e w2 ⟨rfl, hX⟩
        have hB2 := Hd.mk (below_then hB.out hX)
        have HV2 := Hd.mk (R_below HV.out hX); clear hX HV HC3
        obtain ⟨t, ht⟩ : ∃ t : ByteArray, t = ⟨(wayB O).toArray⟩ := ⟨_, rfl⟩
        rw [← ht]
        have HT := Hd.mk (show t.toList = wayB O by rw [ht, ByteArray.toList_eq]); clear ht
        cases hb : (t.toList == s.toList)
        · have HX := Hd.mk (wayV_none (show wayS s.data.toList = none by
            have hne : wayB O ≠ s.data.toList := fun e => by
              rw [HT.out, e, ByteArray.toList_eq] at hb; simp at hb
            rw [HW.out, if_pos (.inr hne)]))
          go_wp2_with fail
          go_ret2
          exact ⟨_, by rw [HX.out.2]; rfl, by rw [HX.out.1]; exact R_nil, hB2.out⟩
        · have HX := Hd.mk (wayV_some (show wayS s.data.toList = some (O.map dL) by
            rw [HW.out, if_neg (fun e => ?_)]
            rcases e with e | e
            · omega
            · rw [HT.out, ByteArray.toList_eq] at hb
              exact e (by simpa using hb)))
          go_wp2_with fail
          go_ret2
          exact ⟨_, by rw [HX.out.2]; rfl, by rw [HX.out.1]; exact R_mono (fun k hk => hk.1) HV2.out, hB2.out⟩
  · go_wp2_with fail
    go_loopw [4, 6, 15] (fun vw vp vi wr => ∃ (k : Nat) (O : List ByteArray), k ≤ q ∧ vi = .int .i64 k ∧ Hd (O.length = k ∧ O = ((piecesW s).take k).map unescB) ∧ Hd (str.R 9 wr (fun j => w.heap.size ≤ j ∧ j ≠ w.heap.size + 1) vw O) ∧ Hd (Blk wr (w.heap.size + 1) PB 9) ∧ Hd (Below w.heap.size w wr)) (fun _ _ i _ => q - (intOf i).toNat)
    case atStart => exact ⟨0, [], Nat.zero_le _, rfl, ⟨rfl, rfl⟩, ⟨R_mono (fun k hk => by omega) HN1.out⟩, HBl, hB1⟩
    case round =>
      obtain ⟨k, O, hk, rfl, HO, HV, hBl, hB⟩ := hrel
      by_cases hlt : k < q
      · have hkP : k < (piecesW s).length := by rw [HP.out]; exact hlt
        obtain ⟨ad, hA, x0, hsz⟩ := C_str_at (HPC.out _ hBl.out) (Below.refl _ _) k hkP
        obtain rfl : (⟨w.heap.size + 1, 1, none⟩ : Addr) = ad := by injection hA
        have hsx : (piecesW s)[k].size ≤ 1048576 := Nat.le_trans (Nat.le_trans (strs_size _ k hkP) (piecesW_bulk s)) hs
        obtain ⟨x, hx⟩ : ∃ x, x = (piecesW s)[k] := ⟨_, rfl⟩
        rw [← hx] at x0 hsx
        have HXk := Hd.mk hx; clear hx hsz
        rw [Go.Lib.add_plain] at x0
        have hkO : O.length ≤ 1048576 := by have := HO.out.1; omega
        have hBz := hB.out.size
        have hz1_ := hz1.out
        go_wp2_with fail
        obtain ⟨m2, hm2⟩ := HMw.out.below hB.out
        have hq1 := Lib.countB_le ⟨#[126, 49]⟩ (by decide) _ x (Nat.le_refl _)
        refine (Tryd.strings_ReplaceAll x ⟨#[126, 49]⟩ ⟨#[47]⟩ m2 wr (by omega) hm2 (by decide) (by rw [show (⟨#[47]⟩ : ByteArray).size = 1 from rfl]; omega)).mono ?_
        rintro e w2 ⟨rfl, hX⟩
        have hB2 := Hd.mk (below_then hB.out hX); have hBl2 := Hd.mk (hBl.out.below hX); have HV2 := Hd.mk (R_below HV.out hX); clear hX
        obtain ⟨t1, ht1⟩ : ∃ t : ByteArray, t = ⟨(Lib.replaceAll x.data.toList (⟨#[126, 49]⟩ : ByteArray).data.toList (⟨#[47]⟩ : ByteArray).data.toList).toArray⟩ := ⟨_, rfl⟩
        rw [← ht1]
        have HT1 := Hd.mk (show t1.data.toList = rep2 126 49 47 x.data.toList by
          rw [ht1, ← rep2_eq, ← Lib_replaceAll_eq _ _ _ (by simp)])
        have hs1 : t1.size ≤ 1048576 := by
          have h1 := rep2_len 126 49 47 x.data.toList
          rw [← HT1.out, show t1.data.toList.length = t1.size by simp, show x.data.toList.length = x.size by simp] at h1
          omega
        clear ht1 hq1 hm2
        go_wp2_with fail
        obtain ⟨m3, hm3⟩ := HMw.out.below hB2.out
        have hq1 := Lib.countB_le ⟨#[126, 48]⟩ (by decide) _ t1 (Nat.le_refl _)
        refine (Tryd.strings_ReplaceAll t1 ⟨#[126, 48]⟩ ⟨#[126]⟩ m3 _ (by omega) hm3 (by decide) (by rw [show (⟨#[126]⟩ : ByteArray).size = 1 from rfl]; omega)).mono ?_
        rintro e w3 ⟨rfl, hX⟩
        have hB3 := Hd.mk (below_then hB2.out hX); have hBl3 := Hd.mk (hBl2.out.below hX); have HV3 := Hd.mk (R_below HV2.out hX); clear hX
        obtain ⟨t2, ht2⟩ : ∃ t : ByteArray, t = ⟨(Lib.replaceAll t1.data.toList (⟨#[126, 48]⟩ : ByteArray).data.toList (⟨#[126]⟩ : ByteArray).data.toList).toArray⟩ := ⟨_, rfl⟩
        rw [← ht2]
        have HT2 := Hd.mk (show t2.data.toList = unesc x.data.toList by
          rw [ht2]
          unfold unesc
          rw [← HT1.out, ← rep2_eq, ← Lib_replaceAll_eq _ _ _ (by simp)])
        have hs2 : t2.size ≤ 1048576 := by
          have h1 := unesc_len x.data.toList
          rw [← HT2.out, show t2.data.toList.length = t2.size by simp, show x.data.toList.length = x.size by simp] at h1
          omega
        clear ht2 hq1 hm3 HV HV2
        have HO2 := Hd.mk (show (O ++ [t2]).length = k + 1 ∧ O ++ [t2] = ((piecesW s).take (k + 1)).map unescB by
          refine ⟨by simp [HO.out.1], ?_⟩
          rw [List.take_succ_eq_append_getElem hkP, List.map_append, ← HO.out.2]
          congr 1
          rw [← HXk.out]
          show [t2] = [unescB x]
          congr 1
          unfold unescB
          rw [← HT2.out]
          exact (mkB_dL t2).symm)
        go_wp2_with (at_builtin; refine append_s1 rfl rfl t2 (by omega) rfl _ _ rfl rfl rfl HV3.out (by omega) (fun v4 w4 hv4 hf4 => ?_))
        have hBl4 := Hd.mk (hBl3.out.fr hf4 (fun h => h.2 rfl))
        have hB4 := Hd.mk (below_frS hB3.out hf4 (fun k h => h.1))
        have HV4 := Hd.mk (R_mono (fun k h => by
          rcases h with h | h
          · exact h
          · have h1 := hB3.out.size; have h2 := hBl3.out.lt; exact ⟨by omega, by omega⟩) hv4)
        clear hv4 hf4
        go_roundw
        case rel => exact ⟨k + 1, _, by omega, by go_num, HO2, HV4, hBl4, hB4⟩
        case measure => simp [intOf]; omega
      · obtain rfl : k = q := by omega
        replace HO := Hd.mk (show O = (piecesW s).map unescB by
          rw [HO.out.2, List.take_of_length_le (by rw [HP.out]; exact Nat.le_refl _)])
        have HW := Hd.mk (wayI_pieces s HSe.out)
        have HBk := Hd.mk (show bulkStringS O ≤ 1048576 by
          rw [HO.out]; exact Nat.le_trans (unescB_bulk _) (Nat.le_trans (piecesW_bulk s) hs))
        rw [← HO.out] at HW
        obtain ⟨A3, c3, hve, hc3, hC3⟩ := R_C HV.out
        subst hve
        have hmO := hC3.1
        have HC3 := Hd.mk hC3; clear hC3
        by_cases h6 : (6 : Int) < (O.length : Int)
        · have HX := Hd.mk (wayV_none (show wayS s.data.toList = none by rw [HW.out, if_pos (.inl (by omega))]))
          go_wp2_with fail
          go_ret2
          exact ⟨_, by rw [HX.out.2]; rfl, by rw [HX.out.1]; exact R_nil, hB.out⟩
        · go_wp2_with fail
          refine (impl_WayText _ _ O _ HC3.out HBk.out (HMw.out.below hB.out)).mono ?_
          rintro e w2 ⟨rfl, hX⟩
          have hB2 := Hd.mk (below_then hB.out hX)
          have HV2 := Hd.mk (R_below HV.out hX); clear hX HV HC3
          obtain ⟨t, ht⟩ : ∃ t : ByteArray, t = ⟨(wayB O).toArray⟩ := ⟨_, rfl⟩
          rw [← ht]
          have HT := Hd.mk (show t.toList = wayB O by rw [ht, ByteArray.toList_eq]); clear ht
          cases hb : (t.toList == s.toList)
          · have HX := Hd.mk (wayV_none (show wayS s.data.toList = none by
              have hne : wayB O ≠ s.data.toList := fun e => by
                rw [HT.out, e, ByteArray.toList_eq] at hb; simp at hb
              rw [HW.out, if_pos (.inr hne)]))
            go_wp2_with fail
            go_ret2
            exact ⟨_, by rw [HX.out.2]; rfl, by rw [HX.out.1]; exact R_nil, hB2.out⟩
          · have HX := Hd.mk (wayV_some (show wayS s.data.toList = some (O.map dL) by
              rw [HW.out, if_neg (fun e => ?_)]
              rcases e with e | e
              · omega
              · rw [HT.out, ByteArray.toList_eq] at hb
                exact e (by simpa using hb)))
            go_wp2_with fail
            go_ret2
            exact ⟨_, by rw [HX.out.2]; rfl, by rw [HX.out.1]; exact R_mono (fun k hk => hk.1) HV2.out, hB2.out⟩
end Go.Proofs.YtkgefjjgjjmklaaDoor.X
