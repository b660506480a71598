/- What is proved here: contracts of Encode and Quote. Conditions: none. -/
import Derived.Test.YtkgefjjgjjmklaaDoorXQt
import Derived.Test.YtkgefjjgjjmklaaDoorXR
import Derived.Test.YtkgefjjgjjmklaaDoorXIx
import Derived.Test.YtkgefjjgjjmklaaDoorShS
namespace Go.Proofs.YtkgefjjgjjmklaaDoor.X
open Go.RowKit Go.Sort
open Go.Lib (itoa)
set_option linter.unusedVariables false
set_option linter.unusedSimpArgs false
open Ty
def EncS (m : Nat) : Prop := ∀ (x : J) (cs : List Value) (k : Nat) (w : World), (tJ m).K w x cs → sizeN k x ≤ 400 →
  Calls Tryd.prog 65 #[.agg cs.toArray] w fun e w' => e = .returned (.string ⟨(encJ k x).toArray⟩) ∧ Below w.heap.size w w'
def EncI (m : Nat) : Prop := ∀ (x : J) (cs : List Value) (k : Nat) (w : World), (tJ m).K w x cs → sizeN k x ≤ 400 → EnvT w →
  Calls Tryd.prog 67 #[.agg cs.toArray] w fun e w' => e = .returned (.string ⟨(encJ k x).toArray⟩) ∧ Below w.heap.size w w'
theorem encJ_size {k : Nat} {x : J} (h : sizeN k x ≤ 400) : (⟨(encJ k x).toArray⟩ : ByteArray).size ≤ 98400 := by
  have := encJ_length k x h
  simp only [ByteArray.size, List.size_toArray]; omega
theorem join_part {k : Nat} {j : J} (h : sizeN (k + 1) j ≤ 400) (i : Nat) (hi : i ≤ j.list.length) : (Lib.join ((piecesE (encJ k) j).take i) [44]).length ≤ 98400 := by
  have h1 := lenE_pieces h (fun x hx => encJ_length k x hx) i hi
  have h2 := join_le ((piecesE (encJ k) j).take i)
  have h3 := sumZ_le (sizeN k) (sizeN_pos k) j.list i
  have h4 := (sizeN_own h).2
  omega
theorem sumZ_len (d : Nat) (l : List J) : (l.length : Int) ≤ sumZ (sizeN d) l := by
  induction l with
  | nil => simp [sumZ]
  | cons x l ih =>
    have := (sizeN_bound d x).1
    simp only [sumZ, List.length_cons]; omega
theorem encJ_4 {k : Nat} {x : J} (h : x.kind = 4) : encJ (k + 1) x = 91 :: (Lib.join (piecesE (encJ k) x) [44] ++ [93]) := by
  unfold encJ; rw [if_neg (by omega), if_neg (by omega), if_neg (by omega), if_neg (by omega), if_pos h]
theorem encJ_5 {k : Nat} {x : J} (h : x.kind = 5) : encJ (k + 1) x = 123 :: (Lib.join (piecesE (encJ k) x) [44] ++ [125]) := by
  unfold encJ; rw [if_neg (by omega), if_neg (by omega), if_neg (by omega), if_neg (by omega), if_neg (by omega)]
theorem join_step (k : Nat) (x : J) (q : Nat) (hq : q < x.list.length) : Lib.join ((piecesE (encJ k) x).take (q + 1)) [44] = Lib.join ((piecesE (encJ k) x).take q) [44] ++ ((if q = 0 then [] else [44]) ++ pieceE (x.kind == 5) (x.names.getD q ByteArray.empty) (encJ k x.list[q])) := by
  rw [piecesE_take _ _ q hq, join_snoc]
  by_cases h : q = 0
  · subst h; simp [Lib.join_nil]
  · rw [if_neg h, if_neg (fun e => ?_)]
    · simp
    · have h1 := congrArg List.length e
      have h2 : ((piecesE (encJ k) x).take q).length = q := by rw [List.length_take, piecesE_length]; omega
      rw [h2] at h1
      exact h h1
theorem pieceE_no (b : Bool) (h : b = false) (n : ByteArray) (t : List UInt8) : pieceE b n t = t := by subst h; rfl
theorem pieceE_yes (b : Bool) (h : b = true) (n : ByteArray) (t : List UInt8) : pieceE b n t = quoteL n.data.toList ++ 58 :: t := by subst h; rfl
set_option maxHeartbeats 4000000 in
set_option maxRecDepth 100000 in
theorem spec_l2Encode_of {m : Nat} (ih : EncS m) : EncS (m + 1) := by
  intro x cs k w hk hsz
  obtain ⟨d, rfl⟩ : ∃ d, k = d + 1 := by
    cases k with
    | zero => simp [sizeN] at hsz
    | succ d => exact ⟨d, rfl⟩
  have HO := Hd.mk (own_names (sizeN_own hsz).1)
  have HSZ := Hd.mk hsz; clear hsz
  obtain ⟨A1, c1, A2, c2, rfl, hs, ⟨hc1, hr1⟩, hc2, hr2⟩ := tJ_K.1 hk
  have hm1 := hr1.1; have hm2 := hr2.1
  have HR1 := Hd.mk hr1; have HR2 := Hd.mk hr2; clear hr1 hr2 hk
  have HIH := Hd.mk ih; clear ih
  have b0 := Hd.mk (Blk.new w #[Value.int IntKind.i64 x.kind, Value.int IntKind.i64 x.n, Value.string x.s, Value.slice A1 x.list.length c1, Value.slice A2 x.names.length c2] 40)
  have hB := Hd.mk (below_alloc (Below.refl w.heap.size w) (.cells #[Value.int IntKind.i64 x.kind, Value.int IntKind.i64 x.n, Value.string x.s, Value.slice A1 x.list.length c1, Value.slice A2 x.names.length c2] 40))
  go_enter Tryd.func65, Tryd.ntmps65
  by_cases e0 : x.kind = 0
  · have HX := Hd.mk (show encJ (d + 1) x = [110, 117, 108, 108] by unfold encJ; rw [if_pos e0])
    rw [e0] at hB
    go_wp2_with fail
    go_ret
    exact ⟨by rw [HX.out]; rfl, hB.out⟩
  by_cases e1 : x.kind = 1
  · by_cases hn : x.n = 1
    · have HX := Hd.mk (show encJ (d + 1) x = [116, 114, 117, 101] by unfold encJ; rw [if_neg e0, if_pos e1, if_pos hn])
      rw [e1, hn] at hB
      go_wp2_with fail
      go_ret
      exact ⟨by rw [HX.out]; rfl, hB.out⟩
    · have HX := Hd.mk (show encJ (d + 1) x = [102, 97, 108, 115, 101] by unfold encJ; rw [if_neg e0, if_pos e1, if_neg hn])
      rw [e1] at hB
      go_wp2_with fail
      go_ret
      exact ⟨by rw [HX.out]; rfl, hB.out⟩
  by_cases e2 : x.kind = 2
  · have HX := Hd.mk (show encJ (d + 1) x = itoa x.n by unfold encJ; rw [if_neg e0, if_neg e1, if_pos e2])
    have hn := HO.out.2.2.2.2.2.2.2.1 e2
    rw [e2] at hB
    go_wp2_with fail
    refine (spec_l2Digits x.n _ hn.1 hn.2).mono ?_
    rintro e w1 ⟨rfl, hX⟩
    have hB2 := Hd.mk (below_then hB.out hX); clear hX
    go_wp2_with fail
    go_ret
    exact ⟨by rw [HX.out]; rfl, hB2.out⟩
  by_cases e3 : x.kind = 3
  · have HX := Hd.mk (show encJ (d + 1) x = quoteL x.s.data.toList by unfold encJ; rw [if_neg e0, if_neg e1, if_neg e2, if_pos e3])
    have hn := HO.out.2.2.2.2.2.2.2.2 e3
    rw [e3] at hB
    go_wp2_with fail
    refine (spec_l2Quote x.s _ (by omega)).mono ?_
    rintro e w1 ⟨rfl, hX⟩
    have hB2 := Hd.mk (below_then hB.out hX); clear hX
    go_wp2_with fail
    go_ret
    exact ⟨by rw [HX.out]; rfl, hB2.out⟩
  have hb0 : (x.kind == 0) = false := beq_eq_false_iff_ne.2 e0
  have hb1 : (x.kind == 1) = false := beq_eq_false_iff_ne.2 e1
  have hb2 : (x.kind == 2) = false := beq_eq_false_iff_ne.2 e2
  have hb3 : (x.kind == 3) = false := beq_eq_false_iff_ne.2 e3
  go_wp2_with fail
  go_loopw [3, 4] (fun o i wr => ∃ (q : Nat) (s : ByteArray), q ≤ x.list.length ∧ i = .int .i64 q ∧ o = .string s ∧ Hd (s.data.toList = Lib.join ((piecesE (encJ d) x).take q) [44]) ∧ Hd (Blk wr w.heap.size #[Value.int IntKind.i64 x.kind, Value.int IntKind.i64 x.n, Value.string x.s, Value.slice A1 x.list.length c1, Value.slice A2 x.names.length c2] 40) ∧ Hd (Below w.heap.size w wr)) (fun _ i _ => x.list.length - (intOf i).toNat)
  case atStart => exact ⟨0, ⟨#[]⟩, Nat.zero_le _, rfl, rfl, ⟨rfl⟩, b0, hB⟩
  case round =>
    clear b0 hB
    obtain ⟨q, s, hq, rfl, rfl, HS, b0, hB⟩ := hrel
    have hsl : s.size ≤ 98400 := by
      have h1 := join_part HSZ.out q hq
      rw [← HS.out, show s.data.toList.length = s.size by simp] at h1
      omega
    have f0 : wr.cell? ⟨w.heap.size, 0, none⟩ = some (Value.int IntKind.i64 x.kind) := b0.out.cell 0 rfl
    have f1 : wr.cell? ⟨w.heap.size, 1, none⟩ = some (Value.int IntKind.i64 x.n) := b0.out.cell 1 rfl
    have f2 : wr.cell? ⟨w.heap.size, 2, none⟩ = some (Value.string x.s) := b0.out.cell 2 rfl
    have f3 : wr.cell? ⟨w.heap.size, 3, none⟩ = some (Value.slice A1 x.list.length c1) := b0.out.cell 3 rfl
    have f4 : wr.cell? ⟨w.heap.size, 4, none⟩ = some (Value.slice A2 x.names.length c2) := b0.out.cell 4 rfl
    by_cases hlt : q < x.list.length
    · have HJ := Hd.mk (join_step d x q hlt)
      have HZ := Hd.mk (sizeN_part HSZ.out q hlt)
      obtain ⟨ad, cs0, rfl, hK0, g0, g1⟩ := C_at HR1.out hB.out q hlt
      obtain ⟨m, rfl⟩ : ∃ m1 : Nat, m = m1 + 1 := by cases m with | zero => exact hK0.elim | succ m => exact ⟨m, rfl⟩
      obtain ⟨A3, c3, A4, c4, rfl, hs3, ⟨hc3, hr3⟩, hc4, hr4⟩ := tJ_K.1 hK0
      have HK0 := Hd.mk hK0; clear hK0 hr3 hr4
      have x0 : wr.cell? (ad.add (q * 5)) = some (.int .i64 x.list[q].kind) := g0 _ rfl
      have x1 : wr.cell? ⟨(ad.add (q * 5)).block, (ad.add (q * 5)).off + 1, none⟩ = some (.int .i64 x.list[q].n) := g1 0 _ rfl
      have x2 : wr.cell? ⟨(ad.add (q * 5)).block, (ad.add (q * 5)).off + 2, none⟩ = some (.string x.list[q].s) := g1 1 _ rfl
      have x3 : wr.cell? ⟨(ad.add (q * 5)).block, (ad.add (q * 5)).off + 3, none⟩ = some (.slice A3 x.list[q].list.length c3) := g1 2 _ rfl
      have x4 : wr.cell? ⟨(ad.add (q * 5)).block, (ad.add (q * 5)).off + 4, none⟩ = some (.slice A4 x.list[q].names.length c4) := g1 3 _ rfl
      clear g0 g1
      by_cases hq0 : q = 0
      · have hdq : decide (0 < q) = false := decide_eq_false (by omega)
        have HQ0 := Hd.mk hq0; clear hq0
        cases hb5 : (x.kind == 5)
        case' true =>
          have HE5 := Hd.mk hb5
          have e5 : x.kind = 5 := by simpa using hb5
          have hn5 := HO.out.2.1 e5; clear e5
          have hqn : q < x.names.length := by omega
          have HNm := Hd.mk hn5; clear hn5
          have hs60 := HO.out.1 q hqn
          have HG := Hd.mk (show x.names.getD q ByteArray.empty = x.names[q] by simp [List.getD_eq_getElem?_getD, hqn])
          rw [HG.out] at hs60
          obtain ⟨ad2, rfl, y0, hsz2⟩ := C_str_at HR2.out hB.out q hqn
          go_wp2_with fail
          refine (spec_l2Quote x.names[q] _ (by omega)).mono ?_
          rintro e w2 ⟨rfl, hX⟩
          have hB2 := Hd.mk (below_then hB.out hX)
          have b2 := Hd.mk (b0.out.below hX)
          have HK2 := Hd.mk ((tJ (m + 1)).K_below hX HK0.out)
          replace x0 := cell_below hX x0
          replace x1 := cell_below hX x1
          replace x2 := cell_below hX x2
          replace x3 := cell_below hX x3
          replace x4 := cell_below hX x4
          clear hX y0 f0 f1 f2 f3 f4
          replace HK0 := HK2; clear HK2
          obtain ⟨u, hu⟩ : ∃ u : ByteArray, u = ⟨(quoteL x.names[q].data.toList).toArray⟩ := ⟨_, rfl⟩
          have hul : u.size ≤ 200 := by
            have h1 := quoteL_length x.names[q].data.toList
            rw [show x.names[q].data.toList.length = x.names[q].size by simp] at h1
            rw [hu]; simp only [ByteArray.size, List.size_toArray]; omega
          rw [← hu]
          have HU := Hd.mk (show u.data.toList = quoteL x.names[q].data.toList by rw [hu]); clear hu
          have f0 : w2.cell? ⟨w.heap.size, 0, none⟩ = some (Value.int IntKind.i64 x.kind) := b2.out.cell 0 rfl
          have f1 : w2.cell? ⟨w.heap.size, 1, none⟩ = some (Value.int IntKind.i64 x.n) := b2.out.cell 1 rfl
          have f2 : w2.cell? ⟨w.heap.size, 2, none⟩ = some (Value.string x.s) := b2.out.cell 2 rfl
          have f3 : w2.cell? ⟨w.heap.size, 3, none⟩ = some (Value.slice (some ad) x.list.length c1) := b2.out.cell 3 rfl
          have f4 : w2.cell? ⟨w.heap.size, 4, none⟩ = some (Value.slice (some ad2) x.names.length c2) := b2.out.cell 4 rfl
          go_wp2_with fail
          clear x0 x1 x2 x3 x4 f0 f1 f2 f3 f4
          have HK1 := Hd.mk ((tJ (m + 1)).K_below (Below.refl _ _) HK0.out)
          refine (HIH.out x.list[q] _ d _ HK1.out HZ.out).mono ?_
          rintro e w3 ⟨rfl, hX⟩
          have hB3 := Hd.mk (below_then hB2.out hX)
          have b3 := Hd.mk (b2.out.below hX); clear hX
          obtain ⟨t, ht⟩ : ∃ t : ByteArray, t = ⟨(encJ d x.list[q]).toArray⟩ := ⟨_, rfl⟩
          have htl : t.size ≤ 98400 := by rw [ht]; exact encJ_size HZ.out
          rw [← ht]
          have HT := Hd.mk (show t.data.toList = encJ d x.list[q] by rw [ht]); clear ht
          have HS3 := Hd.mk (show (s ++ u ++ (⟨#[58]⟩ : ByteArray) ++ t).data.toList = Lib.join ((piecesE (encJ d) x).take (q + 1)) [44] by
            rw [HJ.out, ← HS.out, ← HT.out]
            rw [pieceE_yes _ HE5.out, HG.out, ← HU.out]; rw [if_pos HQ0.out]; simp)
          go_wp2_with fail
          go_roundw
          case rel => exact ⟨q + 1, _, by omega, by go_num, rfl, HS3, b3, hB3⟩
          case measure => simp [intOf]; omega
        case' false =>
          go_wp2_with fail
          clear x0 x1 x2 x3 x4 f0 f1 f2 f3 f4
          have HK1 := Hd.mk ((tJ (m + 1)).K_below (Below.refl _ _) HK0.out)
          refine (HIH.out x.list[q] _ d _ HK1.out HZ.out).mono ?_
          rintro e w3 ⟨rfl, hX⟩
          have hB3 := Hd.mk (below_then hB.out hX)
          have b3 := Hd.mk (b0.out.below hX); clear hX
          obtain ⟨t, ht⟩ : ∃ t : ByteArray, t = ⟨(encJ d x.list[q]).toArray⟩ := ⟨_, rfl⟩
          have htl : t.size ≤ 98400 := by rw [ht]; exact encJ_size HZ.out
          rw [← ht]
          have HT := Hd.mk (show t.data.toList = encJ d x.list[q] by rw [ht]); clear ht
          have HS3 := Hd.mk (show (s ++ t).data.toList = Lib.join ((piecesE (encJ d) x).take (q + 1)) [44] by
            rw [HJ.out, ← HS.out, ← HT.out]
            rw [pieceE_no _ hb5]; rw [if_pos HQ0.out]; simp)
          go_wp2_with fail
          go_roundw
          case rel => exact ⟨q + 1, _, by omega, by go_num, rfl, HS3, b3, hB3⟩
          case measure => simp [intOf]; omega
      · have hdq : decide (0 < q) = true := decide_eq_true (by omega)
        have HQ0 := Hd.mk hq0; clear hq0
        cases hb5 : (x.kind == 5)
        case' true =>
          have HE5 := Hd.mk hb5
          have e5 : x.kind = 5 := by simpa using hb5
          have hn5 := HO.out.2.1 e5; clear e5
          have hqn : q < x.names.length := by omega
          have HNm := Hd.mk hn5; clear hn5
          have hs60 := HO.out.1 q hqn
          have HG := Hd.mk (show x.names.getD q ByteArray.empty = x.names[q] by simp [List.getD_eq_getElem?_getD, hqn])
          rw [HG.out] at hs60
          obtain ⟨ad2, rfl, y0, hsz2⟩ := C_str_at HR2.out hB.out q hqn
          go_wp2_with fail
          refine (spec_l2Quote x.names[q] _ (by omega)).mono ?_
          rintro e w2 ⟨rfl, hX⟩
          have hB2 := Hd.mk (below_then hB.out hX)
          have b2 := Hd.mk (b0.out.below hX)
          have HK2 := Hd.mk ((tJ (m + 1)).K_below hX HK0.out)
          replace x0 := cell_below hX x0
          replace x1 := cell_below hX x1
          replace x2 := cell_below hX x2
          replace x3 := cell_below hX x3
          replace x4 := cell_below hX x4
          clear hX y0 f0 f1 f2 f3 f4
          replace HK0 := HK2; clear HK2
          obtain ⟨u, hu⟩ : ∃ u : ByteArray, u = ⟨(quoteL x.names[q].data.toList).toArray⟩ := ⟨_, rfl⟩
          have hul : u.size ≤ 200 := by
            have h1 := quoteL_length x.names[q].data.toList
            rw [show x.names[q].data.toList.length = x.names[q].size by simp] at h1
            rw [hu]; simp only [ByteArray.size, List.size_toArray]; omega
          rw [← hu]
          have HU := Hd.mk (show u.data.toList = quoteL x.names[q].data.toList by rw [hu]); clear hu
          have f0 : w2.cell? ⟨w.heap.size, 0, none⟩ = some (Value.int IntKind.i64 x.kind) := b2.out.cell 0 rfl
          have f1 : w2.cell? ⟨w.heap.size, 1, none⟩ = some (Value.int IntKind.i64 x.n) := b2.out.cell 1 rfl
          have f2 : w2.cell? ⟨w.heap.size, 2, none⟩ = some (Value.string x.s) := b2.out.cell 2 rfl
          have f3 : w2.cell? ⟨w.heap.size, 3, none⟩ = some (Value.slice (some ad) x.list.length c1) := b2.out.cell 3 rfl
          have f4 : w2.cell? ⟨w.heap.size, 4, none⟩ = some (Value.slice (some ad2) x.names.length c2) := b2.out.cell 4 rfl
          go_wp2_with fail
          clear x0 x1 x2 x3 x4 f0 f1 f2 f3 f4
          have HK1 := Hd.mk ((tJ (m + 1)).K_below (Below.refl _ _) HK0.out)
          refine (HIH.out x.list[q] _ d _ HK1.out HZ.out).mono ?_
          rintro e w3 ⟨rfl, hX⟩
          have hB3 := Hd.mk (below_then hB2.out hX)
          have b3 := Hd.mk (b2.out.below hX); clear hX
          obtain ⟨t, ht⟩ : ∃ t : ByteArray, t = ⟨(encJ d x.list[q]).toArray⟩ := ⟨_, rfl⟩
          have htl : t.size ≤ 98400 := by rw [ht]; exact encJ_size HZ.out
          rw [← ht]
          have HT := Hd.mk (show t.data.toList = encJ d x.list[q] by rw [ht]); clear ht
          have HS3 := Hd.mk (show ((s ++ (⟨#[44]⟩ : ByteArray)) ++ u ++ (⟨#[58]⟩ : ByteArray) ++ t).data.toList = Lib.join ((piecesE (encJ d) x).take (q + 1)) [44] by
            rw [HJ.out, ← HS.out, ← HT.out]
            rw [pieceE_yes _ HE5.out, HG.out, ← HU.out]; rw [if_neg HQ0.out]; simp)
          go_wp2_with fail
          go_roundw
          case rel => exact ⟨q + 1, _, by omega, by go_num, rfl, HS3, b3, hB3⟩
          case measure => simp [intOf]; omega
        case' false =>
          go_wp2_with fail
          clear x0 x1 x2 x3 x4 f0 f1 f2 f3 f4
          have HK1 := Hd.mk ((tJ (m + 1)).K_below (Below.refl _ _) HK0.out)
          refine (HIH.out x.list[q] _ d _ HK1.out HZ.out).mono ?_
          rintro e w3 ⟨rfl, hX⟩
          have hB3 := Hd.mk (below_then hB.out hX)
          have b3 := Hd.mk (b0.out.below hX); clear hX
          obtain ⟨t, ht⟩ : ∃ t : ByteArray, t = ⟨(encJ d x.list[q]).toArray⟩ := ⟨_, rfl⟩
          have htl : t.size ≤ 98400 := by rw [ht]; exact encJ_size HZ.out
          rw [← ht]
          have HT := Hd.mk (show t.data.toList = encJ d x.list[q] by rw [ht]); clear ht
          have HS3 := Hd.mk (show ((s ++ (⟨#[44]⟩ : ByteArray)) ++ t).data.toList = Lib.join ((piecesE (encJ d) x).take (q + 1)) [44] by
            rw [HJ.out, ← HS.out, ← HT.out]
            rw [pieceE_no _ hb5]; rw [if_neg HQ0.out]; simp)
          go_wp2_with fail
          go_roundw
          case rel => exact ⟨q + 1, _, by omega, by go_num, rfl, HS3, b3, hB3⟩
          case measure => simp [intOf]; omega
    · obtain rfl : q = x.list.length := by omega
      have HJ2 := Hd.mk (show s.data.toList = Lib.join (piecesE (encJ d) x) [44] by
        rw [HS.out, List.take_of_length_le (by rw [piecesE_length]; exact Nat.le_refl _)])
      by_cases e5 : x.kind = 5
      · have HX := Hd.mk (encJ_5 (k := d) e5)
        go_wp2_with fail
        go_ret
        exact ⟨by rw [HX.out, ← HJ2.out]; congr 1, hB.out⟩
      · have HX := Hd.mk (encJ_4 (k := d) (x := x) (by have := HO.out.2.2.2.2.1; have := HO.out.2.2.2.2.2.1; omega))
        have hb5 : (x.kind == 5) = false := beq_eq_false_iff_ne.2 e5
        go_wp2_with fail
        go_ret
        exact ⟨by rw [HX.out, ← HJ2.out]; congr 1, hB.out⟩
theorem spec_l2Encode_all : ∀ m, EncS m
  | 0 => fun x cs k w hk => hk.elim
  | m + 1 => spec_l2Encode_of (spec_l2Encode_all m)
/-- strings.Join of a row that is read. -/
theorem join_any (O : List ByteArray) (w : World) (A : Option Addr) (c : Nat) (hc : O.length ≤ c) (hC : str.C w A O) (hO : O.length ≤ 98400) (hl : (Lib.join (O.map (·.data.toList)) [44]).length ≤ 98400) :
    Calls Tryd.prog 101 #[.slice A O.length c, .string ⟨#[44]⟩] w fun e w' => e = .returned (.string ⟨(Lib.join (O.map (·.data.toList)) [44]).toArray⟩) ∧ Below w.heap.size w w' := by
  cases O with
  | nil =>
    refine (Tryd.strings_Join_none A c ⟨#[44]⟩ w).mono ?_
    rintro e w' ⟨rfl, hw⟩
    exact ⟨rfl, hw ▸ Below.refl _ _⟩
  | cons y l =>
    obtain ⟨ad, cs, hA, hK, hc0⟩ := hC.2 0 y rfl
    subst hA
    have hx0 : w.cell? (ad.add (0 * str.sz + 0)) = some (.string y) := hc0 0 _ (by rw [hK.1]; rfl)
    obtain ⟨bk, o, sp⟩ := ad
    obtain rfl : sp = none := by
      have := World.cell?_spot hx0
      rw [Nat.zero_mul, Nat.add_zero] at this
      simpa [Addr.add] using this
    have hcell : ∀ (j : Nat) z, (y :: l)[j]? = some z → w.cell? ⟨bk, o + j, none⟩ = some (.string z) := fun j z hz => by
      obtain ⟨ad2, cs2, h1, h2, h3⟩ := hC.2 j z hz
      injection h1 with h1
      subst h1
      have h4 := h3 0 (.string z) (by rw [h2.1]; rfl)
      rw [Go.Lib.add_plain] at h4
      have e : o + (j * str.sz + 0) = o + j := by show o + (j * 1 + 0) = _; omega
      rw [e] at h4
      exact h4
    refine Tryd.strings_Join bk o c (y :: l) ⟨#[44]⟩ w hcell (World.block_lt_of_cell? w _ (hcell 0 y rfl)) (by omega) hc (Nat.le_trans hl (by decide))
set_option maxHeartbeats 8000000 in
set_option maxRecDepth 100000 in
theorem impl_written_of {m : Nat} (ih : EncI m) : EncI (m + 1) := by
  intro x cs k w hk hsz hT
  obtain ⟨d, rfl⟩ : ∃ d, k = d + 1 := by
    cases k with
    | zero => simp [sizeN] at hsz
    | succ d => exact ⟨d, rfl⟩
  have HO := Hd.mk (own_names (sizeN_own hsz).1)
  have HSZ := Hd.mk hsz; clear hsz
  obtain ⟨A1, c1, A2, c2, rfl, hs, ⟨hc1, hr1⟩, hc2, hr2⟩ := tJ_K.1 hk
  have hm1 := hr1.1; have hm2 := hr2.1
  have HR1 := Hd.mk hr1; have HR2 := Hd.mk hr2; clear hr1 hr2 hk
  have HIH := Hd.mk ih; have HT := Hd.mk hT; clear ih hT
  have hEw := below_alloc (below_alloc (Below.refl w.heap.size w) (.cells #[Value.int IntKind.i64 x.kind, Value.int IntKind.i64 x.n, Value.string x.s, Value.slice A1 x.list.length c1, Value.slice A2 x.names.length c2] 40)) (.cells #[] 9)
  have b0 := Hd.mk ((Blk.new w #[Value.int IntKind.i64 x.kind, Value.int IntKind.i64 x.n, Value.string x.s, Value.slice A1 x.list.length c1, Value.slice A2 x.names.length c2] 40).alloc (.cells #[] 9))
  have HP0 := Hd.mk (R_emptyN str 9 (W := w.alloc (.cells #[Value.int IntKind.i64 x.kind, Value.int IntKind.i64 x.n, Value.string x.s, Value.slice A1 x.list.length c1, Value.slice A2 x.names.length c2] 40)) (n := w.heap.size + 1) (by simp))
  have hB := Hd.mk hEw; clear hEw
  go_enter Tryd.func67, Tryd.ntmps67
  go_wp2_with fail
  go_loopw [3, 11] (fun o i wr => ∃ (q : Nat) (O : List ByteArray), q ≤ x.list.length ∧ i = .int .i64 q ∧ Hd (O.length = q ∧ O.map (·.data.toList) = (piecesE (encJ d) x).take q) ∧ Hd (str.R 9 wr (fun j => w.heap.size < j) o O) ∧ Hd (Blk wr w.heap.size #[Value.int IntKind.i64 x.kind, Value.int IntKind.i64 x.n, Value.string x.s, Value.slice A1 x.list.length c1, Value.slice A2 x.names.length c2] 40) ∧ Hd (Below w.heap.size w wr)) (fun _ i _ => x.list.length - (intOf i).toNat)
  case atStart => exact ⟨0, [], Nat.zero_le _, rfl, ⟨rfl, rfl⟩, ⟨R_mono (fun k hk => by omega) HP0.out⟩, b0, hB⟩
  case round =>
    clear b0 hB HP0
    obtain ⟨q, O, hq, rfl, HP, HV, b0, hB⟩ := hrel
    have f0 : wr.cell? ⟨w.heap.size, 0, none⟩ = some (Value.int IntKind.i64 x.kind) := b0.out.cell 0 rfl
    have f1 : wr.cell? ⟨w.heap.size, 1, none⟩ = some (Value.int IntKind.i64 x.n) := b0.out.cell 1 rfl
    have f2 : wr.cell? ⟨w.heap.size, 2, none⟩ = some (Value.string x.s) := b0.out.cell 2 rfl
    have f3 : wr.cell? ⟨w.heap.size, 3, none⟩ = some (Value.slice A1 x.list.length c1) := b0.out.cell 3 rfl
    have f4 : wr.cell? ⟨w.heap.size, 4, none⟩ = some (Value.slice A2 x.names.length c2) := b0.out.cell 4 rfl
    by_cases hlt : q < x.list.length
    · have HJ := Hd.mk (piecesE_take (encJ d) x q hlt)
      have HZ := Hd.mk (sizeN_part HSZ.out q hlt)
      have hqs : q ≤ 98400 := by
        have h2 := sumZ_len d x.list
        have h3 := (sizeN_own HSZ.out).2
        have h4 := HSZ.out
        omega
      obtain ⟨ad, cs0, rfl, hK0, g0, g1⟩ := C_at HR1.out hB.out q hlt
      obtain ⟨m, rfl⟩ : ∃ m1 : Nat, m = m1 + 1 := by cases m with | zero => exact hK0.elim | succ m => exact ⟨m, rfl⟩
      obtain ⟨A3, c3, A4, c4, rfl, hs3, ⟨hc3, hr3⟩, hc4, hr4⟩ := tJ_K.1 hK0
      have HK0 := Hd.mk hK0; clear hK0 hr3 hr4
      have x0 : wr.cell? (ad.add (q * 5)) = some (.int .i64 x.list[q].kind) := g0 _ rfl
      have x1 : wr.cell? ⟨(ad.add (q * 5)).block, (ad.add (q * 5)).off + 1, none⟩ = some (.int .i64 x.list[q].n) := g1 0 _ rfl
      have x2 : wr.cell? ⟨(ad.add (q * 5)).block, (ad.add (q * 5)).off + 2, none⟩ = some (.string x.list[q].s) := g1 1 _ rfl
      have x3 : wr.cell? ⟨(ad.add (q * 5)).block, (ad.add (q * 5)).off + 3, none⟩ = some (.slice A3 x.list[q].list.length c3) := g1 2 _ rfl
      have x4 : wr.cell? ⟨(ad.add (q * 5)).block, (ad.add (q * 5)).off + 4, none⟩ = some (.slice A4 x.list[q].names.length c4) := g1 3 _ rfl
      clear g0 g1
      go_wp2_with fail
      clear x0 x1 x2 x3 x4 f0 f1 f2 f3 f4
      apply calls_gen; intro W1 hW
      have hE : Below wr.heap.size wr W1 := by rw [hW]; (repeat (first | with_reducible refine below_alloc ?_ _ | with_reducible refine below_drew ?_)); exact Below.refl _ _
      clear hW
      have b1 := Hd.mk (b0.out.below hE)
      have hB1 := Hd.mk (below_then hB.out hE)
      have HV1 := Hd.mk (R_below HV.out hE)
      have HK1 := Hd.mk ((tJ (m + 1)).K_below hE HK0.out); clear hE
      refine (HIH.out x.list[q] _ d _ HK1.out HZ.out (HT.out.below hB1.out)).mono ?_
      rintro e w2 ⟨rfl, hX⟩
      have hB2 := Hd.mk (below_then hB1.out hX)
      have b2 := Hd.mk (b1.out.below hX)
      have HV2 := Hd.mk (R_below HV1.out hX); clear hX
      obtain ⟨t, ht⟩ : ∃ t : ByteArray, t = ⟨(encJ d x.list[q]).toArray⟩ := ⟨_, rfl⟩
      have htl : t.size ≤ 98400 := by rw [ht]; exact encJ_size HZ.out
      rw [← ht]
      have HTt := Hd.mk (show t.data.toList = encJ d x.list[q] by rw [ht]); clear ht
      have f0 : w2.cell? ⟨w.heap.size, 0, none⟩ = some (Value.int IntKind.i64 x.kind) := b2.out.cell 0 rfl
      have f1 : w2.cell? ⟨w.heap.size, 1, none⟩ = some (Value.int IntKind.i64 x.n) := b2.out.cell 1 rfl
      have f2 : w2.cell? ⟨w.heap.size, 2, none⟩ = some (Value.string x.s) := b2.out.cell 2 rfl
      have f3 : w2.cell? ⟨w.heap.size, 3, none⟩ = some (Value.slice (some ad) x.list.length c1) := b2.out.cell 3 rfl
      have f4 : w2.cell? ⟨w.heap.size, 4, none⟩ = some (Value.slice A2 x.names.length c2) := b2.out.cell 4 rfl
      have hOl : O.length ≤ 98400 := by have := HP.out.1; omega
      cases hb5 : (x.kind == 5)
      case' true =>
        have HE5 := Hd.mk hb5
        have e5 : x.kind = 5 := by simpa using hb5
        have hn5 := HO.out.2.1 e5; clear e5
        have hqn : q < x.names.length := by omega
        have HNm := Hd.mk hn5; clear hn5
        have hs60 := HO.out.1 q hqn
        have HG := Hd.mk (show x.names.getD q ByteArray.empty = x.names[q] by simp [List.getD_eq_getElem?_getD, hqn])
        rw [HG.out] at hs60
        obtain ⟨ad2, rfl, y0, hsz2⟩ := C_str_at HR2.out hB2.out q hqn
        go_wp2_with fail
        clear f0 f1 f2 f3 f4 y0
        refine (impl_quoted x.names[q] _ (by omega)).mono ?_
        rintro e w3 ⟨rfl, hX⟩
        have hB3 := Hd.mk (below_then hB2.out hX)
        have b3 := Hd.mk (b2.out.below hX)
        have HV3 := Hd.mk (R_below HV2.out hX); clear hX
        obtain ⟨u, hu⟩ : ∃ u : ByteArray, u = ⟨(quoteL x.names[q].data.toList).toArray⟩ := ⟨_, rfl⟩
        have hul : u.size ≤ 200 := by
          have h1 := quoteL_length x.names[q].data.toList
          rw [show x.names[q].data.toList.length = x.names[q].size by simp] at h1
          rw [hu]; simp only [ByteArray.size, List.size_toArray]; omega
        rw [← hu]
        have HU := Hd.mk (show u.data.toList = quoteL x.names[q].data.toList by rw [hu]); clear hu
        have hys : (u ++ (⟨#[58]⟩ : ByteArray) ++ t).size ≤ 200000 := by
          try simp only [ByteArray.size_append]
          have h58 : (⟨#[58]⟩ : ByteArray).size = 1 := rfl
          omega
        go_wp2_with (at_builtin; refine append_s1 rfl rfl (u ++ (⟨#[58]⟩ : ByteArray) ++ t) (Nat.le_trans hys (by decide)) rfl _ _ rfl rfl rfl HV3.out (by omega) (fun v4 w4 hv4 hf4 => ?_))
        have HP4 := Hd.mk (show (O ++ [u ++ (⟨#[58]⟩ : ByteArray) ++ t]).length = q + 1 ∧ (O ++ [u ++ (⟨#[58]⟩ : ByteArray) ++ t]).map (·.data.toList) = (piecesE (encJ d) x).take (q + 1) by
          refine ⟨by simp [HP.out.1], ?_⟩
          rw [HJ.out, List.map_append, HP.out.2]
          congr 1
          rw [pieceE_yes _ HE5.out, HG.out, ← HU.out, ← HTt.out]; simp)
        have b4 := Hd.mk (b3.out.fr hf4 (fun h => Nat.lt_irrefl _ h))
        have hB4 := Hd.mk (below_frS hB3.out hf4 (fun k h => Nat.le_of_lt h))
        have HV4 := Hd.mk (R_mono (S' := fun j => w.heap.size < j) (fun k h => by
          rcases h with h | h
          · exact h
          · have := b3.out.lt; omega) hv4)
        clear hv4 hf4
        go_wp2_with fail
        go_roundw
        case rel => exact ⟨q + 1, _, by omega, by go_num, HP4, HV4, b4, hB4⟩
        case measure => simp [intOf]; omega
      case' false =>
        have hys : (t).size ≤ 200000 := by
          try simp only [ByteArray.size_append]
          have h58 : (⟨#[58]⟩ : ByteArray).size = 1 := rfl
          omega
        go_wp2_with (at_builtin; refine append_s1 rfl rfl (t) (Nat.le_trans hys (by decide)) rfl _ _ rfl rfl rfl HV2.out (by omega) (fun v4 w4 hv4 hf4 => ?_))
        have HP4 := Hd.mk (show (O ++ [t]).length = q + 1 ∧ (O ++ [t]).map (·.data.toList) = (piecesE (encJ d) x).take (q + 1) by
          refine ⟨by simp [HP.out.1], ?_⟩
          rw [HJ.out, List.map_append, HP.out.2]
          congr 1
          rw [pieceE_no _ hb5, ← HTt.out]; rfl)
        have b4 := Hd.mk (b2.out.fr hf4 (fun h => Nat.lt_irrefl _ h))
        have hB4 := Hd.mk (below_frS hB2.out hf4 (fun k h => Nat.le_of_lt h))
        have HV4 := Hd.mk (R_mono (S' := fun j => w.heap.size < j) (fun k h => by
          rcases h with h | h
          · exact h
          · have := b2.out.lt; omega) hv4)
        clear hv4 hf4
        go_wp2_with fail
        go_roundw
        case rel => exact ⟨q + 1, _, by omega, by go_num, HP4, HV4, b4, hB4⟩
        case measure => simp [intOf]; omega
    · obtain rfl : q = x.list.length := by omega
      have HP2 := Hd.mk (show O.map (·.data.toList) = piecesE (encJ d) x by
        rw [HP.out.2, List.take_of_length_le (by rw [piecesE_length]; exact Nat.le_refl _)])
      have hOl : O.length ≤ 98400 := by
        have h1 := HP.out.1
        have h2 := sumZ_len d x.list
        have h3 := (sizeN_own HSZ.out).2
        have h4 := HSZ.out
        omega
      cases hb0 : (x.kind == 0)
      case' true =>
        have HX := Hd.mk (show encJ (d + 1) x = [110, 117, 108, 108] by unfold encJ; rw [if_pos (by simpa using hb0)])
        go_wp2_with fail
        go_ret
        exact ⟨by rw [HX.out]; rfl, hB.out⟩
      cases hb1 : (x.kind == 1)
      case' true =>
        have e0 : ¬ x.kind = 0 := by simpa using hb0
        have e1 : x.kind = 1 := by simpa using hb1
        have hn := HO.out.2.2.2.2.2.2.1 e1
        by_cases hn1 : x.n = 1
        · have HX := Hd.mk (show encJ (d + 1) x = [116, 114, 117, 101] by unfold encJ; rw [if_neg e0, if_pos e1, if_pos hn1])
          clear e0 e1 hn
          have l1 := fun o => cell_below (below_alloc (Below.refl _ _) o) f1
          go_wp2_with fail
          go_ret
          exact ⟨by rw [HX.out]; rfl, below_alloc hB.out _⟩
        · have hn0 : x.n = 0 := by omega
          have HX := Hd.mk (show encJ (d + 1) x = [102, 97, 108, 115, 101] by unfold encJ; rw [if_neg e0, if_pos e1, if_neg hn1])
          clear e0 e1 hn hn1
          have l1 := fun o => cell_below (below_alloc (Below.refl _ _) o) f1
          go_wp2_with fail
          go_ret
          exact ⟨by rw [HX.out]; rfl, below_alloc hB.out _⟩
      cases hb2 : (x.kind == 2)
      case' true =>
        have e2 : x.kind = 2 := by simpa using hb2
        have HX := Hd.mk (show encJ (d + 1) x = itoa x.n by unfold encJ; rw [if_neg (by omega), if_neg (by omega), if_pos e2])
        have hn := HO.out.2.2.2.2.2.2.2.1 e2
        clear e2
        go_wp2_with fail
        refine (Tryd.strconv_Itoa x.n (by omega) (by omega) _ (HT.out.below hB.out)).mono ?_
        rintro e w2 ⟨rfl, hX⟩
        have hB2 := Hd.mk (show Below w.heap.size w w2 by
          obtain ⟨k, os, rfl⟩ := hX
          exact below_then hB.out (Go.Lib.below_grow _ _ (Nat.le_refl _) k os)); clear hX
        go_wp2_with fail
        go_ret
        exact ⟨by rw [HX.out]; rfl, hB2.out⟩
      cases hb3 : (x.kind == 3)
      case' true =>
        have e3 : x.kind = 3 := by simpa using hb3
        have HX := Hd.mk (show encJ (d + 1) x = quoteL x.s.data.toList by unfold encJ; rw [if_neg (by omega), if_neg (by omega), if_neg (by omega), if_pos e3])
        have hn := HO.out.2.2.2.2.2.2.2.2 e3
        clear e3
        go_wp2_with fail
        refine (impl_quoted x.s _ (by omega)).mono ?_
        rintro e w2 ⟨rfl, hX⟩
        have hB2 := Hd.mk (below_then hB.out hX); clear hX
        go_wp2_with fail
        go_ret
        exact ⟨by rw [HX.out]; rfl, hB2.out⟩
      cases hb4 : (x.kind == 4)
      case' true =>
        have HX := Hd.mk (encJ_4 (k := d) (x := x) (by simpa using hb4))
        have hjl := join_part HSZ.out x.list.length (Nat.le_refl _)
        rw [List.take_of_length_le (by rw [piecesE_length]; exact Nat.le_refl _), ← HP2.out] at hjl
        obtain ⟨A3, c3, hve, hc3, hC3⟩ := R_C HV.out
        subst hve
        have hmO := hC3.1
        have HC3 := Hd.mk hC3; clear hC3
        go_wp2_with fail
        refine (join_any O wr _ _ hc3 HC3.out hOl hjl).mono ?_
        rintro e w2 ⟨rfl, hX⟩
        have hB2 := Hd.mk (below_then hB.out hX); clear hX
        obtain ⟨t, ht⟩ : ∃ t : ByteArray, t = ⟨(Lib.join (O.map (·.data.toList)) [44]).toArray⟩ := ⟨_, rfl⟩
        have htl : t.size ≤ 98400 := by rw [ht]; simp only [ByteArray.size, List.size_toArray]; exact hjl
        rw [← ht]
        have HTt := Hd.mk (show t.data.toList = Lib.join (piecesE (encJ d) x) [44] by rw [ht, ← HP2.out]); clear ht
        go_wp2_with fail
        go_ret
        exact ⟨by rw [HX.out, ← HTt.out]; congr 1, hB2.out⟩
      have hk5 : x.kind = 5 := by
        have h1 := HO.out.2.2.2.2.1; have h2 := HO.out.2.2.2.2.2.1
        simp at hb0 hb1 hb2 hb3 hb4; omega
      have HX := Hd.mk (encJ_5 (k := d) (x := x) hk5)
      clear hk5
      have hjl := join_part HSZ.out x.list.length (Nat.le_refl _)
      rw [List.take_of_length_le (by rw [piecesE_length]; exact Nat.le_refl _), ← HP2.out] at hjl
      obtain ⟨A3, c3, hve, hc3, hC3⟩ := R_C HV.out
      subst hve
      have hmO := hC3.1
      have HC3 := Hd.mk hC3; clear hC3
      go_wp2_with fail
      refine (join_any O wr _ _ hc3 HC3.out hOl hjl).mono ?_
      rintro e w2 ⟨rfl, hX⟩
      have hB2 := Hd.mk (below_then hB.out hX); clear hX
      obtain ⟨t, ht⟩ : ∃ t : ByteArray, t = ⟨(Lib.join (O.map (·.data.toList)) [44]).toArray⟩ := ⟨_, rfl⟩
      have htl : t.size ≤ 98400 := by rw [ht]; simp only [ByteArray.size, List.size_toArray]; exact hjl
      rw [← ht]
      have HTt := Hd.mk (show t.data.toList = Lib.join (piecesE (encJ d) x) [44] by rw [ht, ← HP2.out]); clear ht
      go_wp2_with fail
      go_ret
      exact ⟨by rw [HX.out, ← HTt.out]; congr 1, hB2.out⟩
theorem impl_written_all : ∀ m, EncI m
  | 0 => fun x cs k w hk => hk.elim
  | m + 1 => impl_written_of (impl_written_all m)
def encode (j : J) : List UInt8 := if jsonOk j then (if 6000 < (encJ 6 j).length then [] else encJ 6 j) else []
set_option maxRecDepth 100000 in
theorem spec_Encode {m : Nat} (x : J) (cs : List Value) (w : World) (hk : (tJ (m + 1)).K w x cs) :
    Calls Tryd.prog 26 #[.agg cs.toArray] w fun e w' => e = .returned (.string ⟨(encode x).toArray⟩) ∧ Below w.heap.size w w' := by
  have HK := Hd.mk hk
  obtain ⟨A1, c1, A2, c2, rfl, hs, ⟨hc1, hr1⟩, hc2, hr2⟩ := tJ_K.1 hk
  clear hr1 hr2 hk
  go_enter Tryd.func26, Tryd.ntmps26
  go_wp2_with fail
  apply calls_gen; intro W1 hW
  have hE : Below w.heap.size w W1 := by rw [hW]; exact below_alloc (Below.refl _ _) _
  have b1 := Hd.mk (show Blk W1 w.heap.size #[Value.int IntKind.i64 x.kind, Value.int IntKind.i64 x.n, Value.string x.s, Value.slice A1 x.list.length c1, Value.slice A2 x.names.length c2] 40 by rw [hW]; exact Blk.new _ _ _)
  clear hW
  have HK1 := Hd.mk ((tJ (m + 1)).K_below hE HK.out)
  have hB1 := Hd.mk hE; clear hE
  refine (spec_JsonOk x _ _ HK1.out).mono ?_
  rintro e w2 ⟨rfl, hX⟩
  have b2 := Hd.mk (b1.out.below hX)
  have HK2 := Hd.mk ((tJ (m + 1)).K_below hX HK1.out)
  have hB2 := Hd.mk (below_then hB1.out hX); clear hX
  have f0 : w2.cell? ⟨w.heap.size, 0, none⟩ = some (Value.int IntKind.i64 x.kind) := b2.out.cell 0 rfl
  have f1 : w2.cell? ⟨w.heap.size, 1, none⟩ = some (Value.int IntKind.i64 x.n) := b2.out.cell 1 rfl
  have f2 : w2.cell? ⟨w.heap.size, 2, none⟩ = some (Value.string x.s) := b2.out.cell 2 rfl
  have f3 : w2.cell? ⟨w.heap.size, 3, none⟩ = some (Value.slice A1 x.list.length c1) := b2.out.cell 3 rfl
  have f4 : w2.cell? ⟨w.heap.size, 4, none⟩ = some (Value.slice A2 x.names.length c2) := b2.out.cell 4 rfl
  cases hb : jsonOk x
  · have HX := Hd.mk (show encode x = [] by unfold encode; rw [hb]; rfl)
    go_wp2_with fail
    go_ret
    exact ⟨by rw [HX.out]; rfl, hB2.out⟩
  · have HZ := Hd.mk (show sizeN 6 x ≤ 400 from of_decide_eq_true hb)
    go_wp2_with fail
    refine (spec_l2Encode_all (m + 1) x _ 6 _ HK2.out HZ.out).mono ?_
    rintro e w3 ⟨rfl, hX⟩
    have hB3 := Hd.mk (below_then hB2.out hX); clear hX
    obtain ⟨t, ht⟩ : ∃ t : ByteArray, t = ⟨(encJ 6 x).toArray⟩ := ⟨_, rfl⟩
    have htl : t.size ≤ 98400 := by rw [ht]; exact encJ_size HZ.out
    rw [← ht]
    have HTl := Hd.mk (show t.data.toList = encJ 6 x by rw [ht]); clear ht
    have HTs := Hd.mk (show (encJ 6 x).length = t.size by rw [← HTl.out]; simp)
    by_cases h6 : (6000 : Int) < (t.size : Int)
    · have HX := Hd.mk (show encode x = [] by unfold encode; rw [hb, if_pos rfl, if_pos (by rw [HTs.out]; omega)])
      go_wp2_with fail
      go_ret
      exact ⟨by rw [HX.out]; rfl, hB3.out⟩
    · have HX := Hd.mk (show encode x = encJ 6 x by unfold encode; rw [hb, if_pos rfl, if_neg (by rw [HTs.out]; omega)])
      go_wp2_with fail
      go_ret
      exact ⟨by rw [HX.out, ← HTl.out]; rfl, hB3.out⟩
set_option maxRecDepth 100000 in
theorem impl_Encode {m : Nat} (x : J) (cs : List Value) (w : World) (hk : (tJ (m + 1)).K w x cs) (hT : EnvT w) :
    Calls Tryd.prog 28 #[.agg cs.toArray] w fun e w' => e = .returned (.string ⟨(encode x).toArray⟩) ∧ Below w.heap.size w w' := by
  have HK := Hd.mk hk
  have HT := Hd.mk hT; clear hT
  obtain ⟨A1, c1, A2, c2, rfl, hs, ⟨hc1, hr1⟩, hc2, hr2⟩ := tJ_K.1 hk
  clear hr1 hr2 hk
  go_enter Tryd.func28, Tryd.ntmps28
  go_wp2_with fail
  apply calls_gen; intro W1 hW
  have hE : Below w.heap.size w W1 := by rw [hW]; exact below_alloc (Below.refl _ _) _
  have b1 := Hd.mk (show Blk W1 w.heap.size #[Value.int IntKind.i64 x.kind, Value.int IntKind.i64 x.n, Value.string x.s, Value.slice A1 x.list.length c1, Value.slice A2 x.names.length c2] 40 by rw [hW]; exact Blk.new _ _ _)
  clear hW
  have HK1 := Hd.mk ((tJ (m + 1)).K_below hE HK.out)
  have hB1 := Hd.mk hE; clear hE
  refine (impl_JsonOk x _ _ HK1.out).mono ?_
  rintro e w2 ⟨rfl, hX⟩
  have b2 := Hd.mk (b1.out.below hX)
  have HK2 := Hd.mk ((tJ (m + 1)).K_below hX HK1.out)
  have hB2 := Hd.mk (below_then hB1.out hX); clear hX
  have f0 : w2.cell? ⟨w.heap.size, 0, none⟩ = some (Value.int IntKind.i64 x.kind) := b2.out.cell 0 rfl
  have f1 : w2.cell? ⟨w.heap.size, 1, none⟩ = some (Value.int IntKind.i64 x.n) := b2.out.cell 1 rfl
  have f2 : w2.cell? ⟨w.heap.size, 2, none⟩ = some (Value.string x.s) := b2.out.cell 2 rfl
  have f3 : w2.cell? ⟨w.heap.size, 3, none⟩ = some (Value.slice A1 x.list.length c1) := b2.out.cell 3 rfl
  have f4 : w2.cell? ⟨w.heap.size, 4, none⟩ = some (Value.slice A2 x.names.length c2) := b2.out.cell 4 rfl
  cases hb : jsonOk x
  · have HX := Hd.mk (show encode x = [] by unfold encode; rw [hb]; rfl)
    go_wp2_with fail
    go_ret
    exact ⟨by rw [HX.out]; rfl, hB2.out⟩
  · have HZ := Hd.mk (show sizeN 6 x ≤ 400 from of_decide_eq_true hb)
    go_wp2_with fail
    refine (impl_written_all (m + 1) x _ 6 _ HK2.out HZ.out (HT.out.below hB2.out)).mono ?_
    rintro e w3 ⟨rfl, hX⟩
    have hB3 := Hd.mk (below_then hB2.out hX); clear hX
    obtain ⟨t, ht⟩ : ∃ t : ByteArray, t = ⟨(encJ 6 x).toArray⟩ := ⟨_, rfl⟩
    have htl : t.size ≤ 98400 := by rw [ht]; exact encJ_size HZ.out
    rw [← ht]
    have HTl := Hd.mk (show t.data.toList = encJ 6 x by rw [ht]); clear ht
    have HTs := Hd.mk (show (encJ 6 x).length = t.size by rw [← HTl.out]; simp)
    by_cases h6 : (6000 : Int) < (t.size : Int)
    · have HX := Hd.mk (show encode x = [] by unfold encode; rw [hb, if_pos rfl, if_pos (by rw [HTs.out]; omega)])
      go_wp2_with fail
      go_ret
      exact ⟨by rw [HX.out]; rfl, hB3.out⟩
    · have HX := Hd.mk (show encode x = encJ 6 x by unfold encode; rw [hb, if_pos rfl, if_neg (by rw [HTs.out]; omega)])
      go_wp2_with fail
      go_ret
      exact ⟨by rw [HX.out, ← HTl.out]; rfl, hB3.out⟩
end Go.Proofs.YtkgefjjgjjmklaaDoor.X
