/- What is proved here: contracts of the laws' own functions over values and ops. Conditions: none. -/
import Derived.Test.YtkgefjjgjjmklaaDoorXA
import Derived.Test.YtkgefjjgjjmklaaDoorX1
import Derived.Test.YtkgefjjgjjmklaaDoorXD
import Derived.Test.YtkgefjjgjjmklaaDoorXB
import Derived.WideShapes
namespace Go.Proofs.YtkgefjjgjjmklaaDoor.X
open Go.RowKit Go.Sort
set_option linter.unusedVariables false
set_option linter.unusedSimpArgs false
open Ty
theorem bytes_eq {a b : ByteArray} : (a.toList == b.toList) = true ↔ a = b := by
  rw [beq_iff_eq, ByteArray.toList_eq, ByteArray.toList_eq]
  exact ⟨fun h => Go.WideShapes.bytes_inj h, fun h => by rw [h]⟩
def bulkStringS (l : List ByteArray) : Nat := l.length + bulkL ByteArray.size l
def bulkJ : Nat → J → Nat
  | 0, _ => 0
  | m + 1, j => j.s.size + (j.list.length + bulkL (bulkJ m) j.list) + bulkStringS j.names
def bulkJS (m : Nat) (l : List J) : Nat := l.length + bulkL (bulkJ m) l
def bulkOp (m : Nat) (o : JOp) : Nat := bulkStringS o.way + bulkJ m o.value
def bulkOpS (m : Nat) (l : List JOp) : Nat := l.length + bulkL (bulkOp m) l
theorem ZJ : ∀ (m : Nat) (w : World) (S : Nat → Prop), (tJ (m + 1)).O w S J.null [.int .i64 0, .int .i64 0, .string ByteArray.empty, .slice none 0 0, .slice none 0 0] :=
  fun _ _ _ => tJ_O.2 ⟨_, _, fun _ => False, fun _ => False, rfl, Nat.zero_le _, R_nil, R_nil, fun _ h => h.elim, fun _ h => h.elim, fun _ h => h.elim⟩
theorem tJ_zero {m : Nat} {w : World} {A : Option Addr} {l : List J} (hr : (tJ m).C w A l) (h : 0 < l.length) (w' : World) (S : Nat → Prop) : (tJ m).O w' S J.null [.int .i64 0, .int .i64 0, .string ByteArray.empty, .slice none 0 0, .slice none 0 0] := by
  obtain ⟨ad, cs0, _, hK0, _⟩ := C_at hr (Below.refl _ _) 0 h
  cases m with
  | zero => exact hK0.elim
  | succ m => exact ZJ m w' S
def SzJ (m : Nat) : Prop := ∀ (x : J) (cs : List Value) (left : Int) (w : World), (tJ m).K w x cs → 0 ≤ left → left ≤ 1048576 →
  Calls Tryd.prog 25 #[.agg cs.toArray, .int .i64 left] w fun e w' => e = .returned (.int .i64 (szR left (bulkJ m x))) ∧ Below w.heap.size w w'
def ToJ (m : Nat) : Prop := ∀ (x : J) (cs : List Value) (w : World), (tJ m).K w x cs → bulkJ m x ≤ 1048576 →
  Calls Tryd.prog 27 #[.agg cs.toArray] w fun e w' => ∃ cs', e = .returned (.agg cs'.toArray) ∧ (tJ m).O w' (fun k => w.heap.size ≤ k) x cs' ∧ Below w.heap.size w w'
def EqJ (m : Nat) : Prop := ∀ (x y : J) (cs cs2 : List Value) (w : World), (tJ m).K w x cs → (tJ m).K w y cs2 →
  Calls Tryd.prog 29 #[.agg cs.toArray, .agg cs2.toArray] w fun e w' => e = .returned (.bool (eqv x y)) ∧ Below w.heap.size w w'
set_option maxRecDepth 100000 in
theorem laws_szStringS (A : Option Addr) (c : Nat) (l : List ByteArray) (left : Int) (w : World) (hr : str.C w A l) (h0 : 0 ≤ left) (h1 : left ≤ 1048576) :
    Calls Tryd.prog 12 #[.slice A l.length c, .int .i64 left] w fun e w' => e = .returned (.int .i64 (szR left (bulkStringS l))) ∧ Below w.heap.size w w' := by
  have hm := hr.1
  have HC := Hd.mk hr; clear hr
  go_enter Tryd.func12, Tryd.ntmps12
  by_cases hz : left - (l.length : Int) < 0
  · have HN := Hd.mk (show szR left (bulkStringS l) = -1 by unfold szR; rw [if_neg (by simp only [bulkStringS]; omega)])
    go_wp2
    go_ret
    exact ⟨by rw [HN.out]; rfl, Below.refl _ _⟩
  · go_wp2
    go_loopw [1, 5] (fun v i wr => ∃ k : Nat, k ≤ l.length ∧ i = .int .i64 k ∧ v = .int .i64 (szR left (l.length + bulkL ByteArray.size (l.take k))) ∧ Hd (0 ≤ szR left (l.length + bulkL ByteArray.size (l.take k))) ∧ Hd (Below w.heap.size w wr)) (fun _ i _ => l.length - (intOf i).toNat)
    case atStart => exact ⟨0, Nat.zero_le _, rfl, by simp [bulkL, szR]; omega, ⟨by simp [bulkL, szR]; omega⟩, ⟨Below.refl _ _⟩⟩
    case round =>
      obtain ⟨k, hk, rfl, rfl, HZ, HB⟩ := hrel
      by_cases hlt : k < l.length
      · obtain ⟨ad, rfl, hx, hsz⟩ := C_str_at HC.out HB.out k hlt
        have hz0 := (szR_le HZ.out h1).2.1
        have hz1 := (szR_le HZ.out h1).2.2.1
        have HA := Hd.mk (show (szR left (l.length + bulkL ByteArray.size (l.take k)) - (l[k].size : Int) < 0 → szR left (bulkStringS l) = -1) ∧ (¬ szR left (l.length + bulkL ByteArray.size (l.take k)) - (l[k].size : Int) < 0 → szR left (l.length + bulkL ByteArray.size (l.take k)) - (l[k].size : Int) = szR left (l.length + bulkL ByteArray.size (l.take (k + 1)))) by
          have e1 := (szR_le HZ.out h1).2.2.2.2
          have e2 := bulkL_take ByteArray.size l k hlt
          have e3 := bulkL_take_le ByteArray.size l (k + 1)
          rw [e1]
          constructor
          · intro h; unfold szR bulkStringS; rw [if_neg (by omega)]
          · intro h; unfold szR; rw [if_pos (by omega)]; omega)
        by_cases hz2 : szR left (l.length + bulkL ByteArray.size (l.take k)) - (l[k].size : Int) < 0
        · have HN := Hd.mk (HA.out.1 hz2)
          go_wp2_with fail
          go_ret
          exact ⟨by rw [HN.out]; rfl, HB.out⟩
        · have HN := Hd.mk (HA.out.2 hz2)
          have HZ2 := Hd.mk (show 0 ≤ szR left (l.length + bulkL ByteArray.size (l.take (k + 1))) by rw [← HN.out]; omega)
          go_wp2_with fail
          go_roundw
          case rel => exact ⟨k + 1, by omega, by go_num, by rw [HN.out], HZ2, HB⟩
          case measure => simp [intOf]; omega
      · obtain rfl : k = l.length := by omega
        go_wp2_with fail
        go_ret
        exact ⟨by simp [bulkStringS], HB.out⟩
set_option maxRecDepth 100000 in
theorem laws_toStringS (A : Option Addr) (c : Nat) (l : List ByteArray) (w : World) (hr : str.C w A l) (hl : bulkStringS l ≤ 1048576) :
    Calls Tryd.prog 14 #[.slice A l.length c] w fun e w' => ∃ v, e = .returned v ∧ str.R 9 w' (fun k => w.heap.size ≤ k) v l ∧ Below w.heap.size w w' := by
  replace hl : l.length ≤ 1048576 := by simp only [bulkStringS] at hl; omega
  have hmk := make_eq (P := Tryd.prog) 22 9 (.string ByteArray.empty) 1 16 Tryd.underlying22 info_str l.length (by omega) (by omega)
  go_enter Tryd.func14, Tryd.ntmps14
  go_wp2
  have hR := R_made (d := str) (e := 9) (W := w) (z := .string ByteArray.empty) (S := fun k => w.heap.size ≤ k) ByteArray.empty l.length (Nat.le_refl 1) (by omega) rfl (fun _ _ _ => ⟨rfl, Nat.zero_le _⟩) (Nat.le_refl _)
  simp only [show str.sz = 1 from rfl, Nat.mul_one, show (Value.string ByteArray.empty).cells = #[.string ByteArray.empty] from rfl] at hR
  have HR := Hd.mk hR; clear hR hmk
  have HC := Hd.mk hr; clear hr
  go_loopw [4] (fun i wr => ∃ k : Nat, k ≤ l.length ∧ i = .int .i64 k ∧ Hd (str.R 9 wr (fun k => w.heap.size ≤ k) (.slice (some ⟨w.heap.size, 0, none⟩) l.length l.length) (l.take k ++ List.replicate (l.length - k) ByteArray.empty)) ∧ Hd (Below w.heap.size w wr)) (fun i _ => l.length - (intOf i).toNat)
  case atStart => exact ⟨0, Nat.zero_le _, rfl, ⟨by simpa using HR.out⟩, ⟨below_alloc (Below.refl _ _) _⟩⟩
  case round =>
    obtain ⟨k, hk, rfl, HK, HB⟩ := hrel
    by_cases hlt : k < l.length
    · obtain ⟨ad, rfl, hx, hsz⟩ := C_str_at HC.out HB.out k hlt
      obtain ⟨hgl, ⟨cur, hcur, hcell⟩, hfz, hg, hst⟩ := R_put (i := k) (T := fun _ => False) (S' := fun k => w.heap.size ≤ k) (cs' := [.string l[k]]) (x' := l[k]) HK.out (by simp; omega) (by decide) ⟨rfl, hsz⟩ (fun _ h => h.elim) (fun _ h => h) (fun _ h => h.elim)
      have k0 := hcell 0 (.string _) (by rw [hcur.1]; rfl)
      have z0 := hfz k
      simp only [show str.sz = 1 from rfl, Nat.mul_one, Nat.add_zero] at k0 hst
      have HST := Hd.mk hst; clear hst hcell hfz hcur
      go_wp2
      go_roundw
      case rel =>
        refine ⟨k + 1, by omega, by go_num, ⟨?_⟩, ⟨?_⟩⟩
        · have := HST.out
          rw [set_rep l _ k hlt] at this
          exact this
        · exact (setAll_fr (S := fun k => w.heap.size ≤ k) (fun _ => Nat.le_refl _) [_] _ _ (Fr.of_below HB.out _)).below (fun k hk => hk)
      case measure => simp [intOf]; omega
    · obtain rfl : k = l.length := by omega
      go_wp2
      go_ret
      have := HK.out
      exact ⟨_, rfl, by simpa using this, HB.out⟩
set_option maxRecDepth 100000 in
theorem laws_eqStringS (A A2 : Option Addr) (c c2 : Nat) (l l2 : List ByteArray) (w : World) (hr : str.C w A l) (hr2 : str.C w A2 l2) :
    Calls Tryd.prog 16 #[.slice A l.length c, .slice A2 l2.length c2] w fun e w' => e = .returned (.bool (eqv l l2)) ∧ Below w.heap.size w w' := by
  have hm := hr.1
  have hm2 := hr2.1
  go_enter Tryd.func16, Tryd.ntmps16
  by_cases hlen : l.length = l2.length
  · have hd : ((l.length : Int) != l2.length) = false := by simp [hlen]
    have HL := Hd.mk hlen
    have HC := Hd.mk hr
    have HC2 := Hd.mk hr2
    clear hr hr2 hlen
    go_wp2
    go_loopw [5] (fun i wr => ∃ k : Nat, k ≤ l.length ∧ i = .int .i64 k ∧ Hd (l.take k = l2.take k) ∧ Hd (Below w.heap.size w wr)) (fun i _ => l.length - (intOf i).toNat)
    case atStart => exact ⟨0, Nat.zero_le _, rfl, ⟨rfl⟩, ⟨Below.refl _ _⟩⟩
    case round =>
      obtain ⟨k, hk, rfl, HK, HB⟩ := hrel
      by_cases hlt : k < l.length
      · obtain ⟨ad, rfl, hx, hsz⟩ := C_str_at HC.out HB.out k hlt
        have hlt2 : k < l2.length := by have := HL.out; omega
        obtain ⟨ad2, rfl, hx2, hsz2⟩ := C_str_at HC2.out HB.out k hlt2
        cases hb : (l[k].toList == l2[k].toList)
        rotate_left
        · go_wp2
          go_quiet (fail)
          go_wp2
          go_roundw
          case rel => 
            refine ⟨k + 1, by omega, by go_num, ⟨?_⟩, ⟨?_⟩⟩
            · have hb : l[k] = l2[k] := bytes_eq.1 hb
              rw [List.take_succ_eq_append_getElem hlt, List.take_succ_eq_append_getElem hlt2, HK.out, hb]
            · exact below_drewN HB.out _
          case measure => simp [intOf]; omega
        · have HN := Hd.mk (eqv_at k hlt hlt2 (fun h => by rw [h] at hb; simp at hb))
          go_wp2
          go_quiet (fail)
          go_wp2
          go_ret
          exact ⟨by rw [HN.out]; rfl, below_drewN HB.out _⟩
      · obtain rfl : k = l.length := by omega
        go_wp2
        go_ret
        have h1 := HK.out
        rw [List.take_length, HL.out, List.take_length] at h1
        exact ⟨by rw [eqv_iff.2 h1]; rfl, HB.out⟩
  · have hd : ((l.length : Int) != l2.length) = true := by simp; omega
    have HN := Hd.mk (eqv_len hlen)
    go_wp2
    go_ret
    exact ⟨by rw [HN.out]; rfl, Below.refl _ _⟩
set_option maxRecDepth 100000 in
theorem laws_szJsonS_of {m : Nat} (ih : SzJ m) (A : Option Addr) (c : Nat) (l : List J) (left : Int) (w : World) (hr : (tJ m).C w A l) (h0 : 0 ≤ left) (h1 : left ≤ 1048576) :
    Calls Tryd.prog 43 #[.slice A l.length c, .int .i64 left] w fun e w' => e = .returned (.int .i64 (szR left (bulkJS m l))) ∧ Below w.heap.size w w' := by
  have hm := hr.1
  have HC := Hd.mk hr; clear hr
  go_enter Tryd.func43, Tryd.ntmps43
  by_cases hz : left - (l.length : Int) < 0
  · have HN := Hd.mk (show szR left (bulkJS m l) = -1 by unfold szR; rw [if_neg (by simp only [bulkJS]; omega)])
    go_wp2
    go_ret
    exact ⟨by rw [HN.out]; rfl, Below.refl _ _⟩
  · go_wp2
    go_loopw [1, 5] (fun v i wr => ∃ k : Nat, k ≤ l.length ∧ i = .int .i64 k ∧ v = .int .i64 (szR left (l.length + bulkL (bulkJ m) (l.take k))) ∧ Hd (0 ≤ szR left (l.length + bulkL (bulkJ m) (l.take k))) ∧ Hd (Below w.heap.size w wr)) (fun _ i _ => l.length - (intOf i).toNat)
    case atStart => exact ⟨0, Nat.zero_le _, rfl, by simp [bulkL, szR]; omega, ⟨by simp [bulkL, szR]; omega⟩, ⟨Below.refl _ _⟩⟩
    case round =>
      obtain ⟨k, hk, rfl, rfl, HZ, HB⟩ := hrel
      by_cases hlt : k < l.length
      · obtain ⟨ad, cs0, rfl, hK0, e0, e1⟩ := C_at HC.out HB.out k hlt
        obtain ⟨m, rfl⟩ : ∃ m1 : Nat, m = m1 + 1 := by cases m with | zero => exact hK0.elim | succ m => exact ⟨m, rfl⟩
        obtain ⟨A1, c1, A2, c2, rfl, hs, ⟨hc1, hr1⟩, hc2, hr2⟩ := tJ_K.1 hK0
        have x0 : wr.cell? (ad.add (k * 5)) = some _ := e0 _ rfl
        have x1 : wr.cell? ⟨(ad.add (k * 5)).block, (ad.add (k * 5)).off + 1, none⟩ = some _ := e1 0 _ rfl
        have x2 : wr.cell? ⟨(ad.add (k * 5)).block, (ad.add (k * 5)).off + 2, none⟩ = some _ := e1 1 _ rfl
        have x3 : wr.cell? ⟨(ad.add (k * 5)).block, (ad.add (k * 5)).off + 3, none⟩ = some _ := e1 2 _ rfl
        have x4 : wr.cell? ⟨(ad.add (k * 5)).block, (ad.add (k * 5)).off + 4, none⟩ = some _ := e1 3 _ rfl
        have HK := Hd.mk hK0
        clear hK0 e0 e1
        clear hr1 hr2
        have hz0 := (szR_le HZ.out h1).2.1
        have hz1 := (szR_le HZ.out h1).2.2.1
        go_wp2_with fail
        refine (ih l[k] _ _ _ HK.out hz0 hz1).mono ?_
        rintro e w1 ⟨rfl, hB1⟩
        have hB2 := below_then HB.out hB1
        rw [szR_add HZ.out, Nat.add_assoc, ← bulkL_take (bulkJ (m + 1)) l k hlt]
        by_cases hz2 : szR left (l.length + bulkL (bulkJ (m + 1)) (l.take (k + 1))) < 0
        · have HN := Hd.mk (show szR left (bulkJS (m + 1) l) = -1 by
            have h3 := szR_lt.1 hz2
            have h4 := bulkL_take_le (bulkJ (m + 1)) l (k + 1)
            unfold szR; rw [if_neg (by simp only [bulkJS]; omega)])
          go_wp2_with fail
          go_ret
          exact ⟨by rw [HN.out]; rfl, hB2⟩
        · have HZ2 := Hd.mk (Int.not_lt.1 hz2)
          go_wp2_with fail
          go_roundw
          case rel => exact ⟨k + 1, by omega, by go_num, rfl, HZ2, ⟨hB2⟩⟩
          case measure => simp [intOf]; omega
      · obtain rfl : k = l.length := by omega
        go_wp2_with fail
        go_ret
        exact ⟨by simp [bulkJS], HB.out⟩
set_option maxRecDepth 100000 in
theorem laws_szJson_of {m : Nat} (ih : SzJ m) (x : J) (cs : List Value) (left : Int) (w : World) (hk : (tJ (m + 1)).K w x cs) (h0 : 0 ≤ left) (h1 : left ≤ 1048576) :
    Calls Tryd.prog 25 #[.agg cs.toArray, .int .i64 left] w fun e w' => e = .returned (.int .i64 (szR left (bulkJ (m + 1) x))) ∧ Below w.heap.size w w' := by
  obtain ⟨A1, c1, A2, c2, rfl, hs, ⟨hc1, hr1⟩, hc2, hr2⟩ := tJ_K.1 hk
  go_enter Tryd.func25, Tryd.ntmps25
  have hm1 := hr1.1
  have HR1 := Hd.mk hr1; clear hr1
  have hm2 := hr2.1
  have HR2 := Hd.mk hr2; clear hr2
  by_cases hz : left - (x.s.size : Int) < 0
  · have HN := Hd.mk (show szR left (bulkJ (m + 1) x) = -1 by unfold szR; rw [if_neg (by simp only [bulkJ, bulkJS]; omega)])
    go_wp2_with fail
    go_ret
    exact ⟨by rw [HN.out]; rfl, by exact below_alloc (Below.refl _ _) _⟩
  have hz := Int.not_lt.1 hz
  go_wp2_with fail
  have b := Blk.new w #[Value.int IntKind.i64 x.kind, Value.int IntKind.i64 x.n, Value.string x.s, Value.slice A1 x.list.length c1, Value.slice A2 x.names.length c2] 35
  have hB := below_alloc (Below.refl w.heap.size w) (Obj.cells #[Value.int IntKind.i64 x.kind, Value.int IntKind.i64 x.n, Value.string x.s, Value.slice A1 x.list.length c1, Value.slice A2 x.names.length c2] 35)
  generalize w.alloc (Obj.cells #[Value.int IntKind.i64 x.kind, Value.int IntKind.i64 x.n, Value.string x.s, Value.slice A1 x.list.length c1, Value.slice A2 x.names.length c2] 35) = W0 at b hB ⊢
  have f0 : W0.cell? ⟨w.heap.size, 0, none⟩ = some (Value.int IntKind.i64 x.kind) := b.cell 0 rfl
  have f1 : W0.cell? ⟨w.heap.size, 1, none⟩ = some (Value.int IntKind.i64 x.n) := b.cell 1 rfl
  have f2 : W0.cell? ⟨w.heap.size, 2, none⟩ = some (Value.string x.s) := b.cell 2 rfl
  have f3 : W0.cell? ⟨w.heap.size, 3, none⟩ = some (Value.slice A1 x.list.length c1) := b.cell 3 rfl
  have f4 : W0.cell? ⟨w.heap.size, 4, none⟩ = some (Value.slice A2 x.names.length c2) := b.cell 4 rfl
  clear b
  refine (laws_szJsonS_of ih _ _ x.list _ _ (C_below HR1.out hB) hz (by omega)).mono ?_
  rintro e w1 ⟨rfl, hB1⟩
  replace f0 := cell_below hB1 f0
  replace f1 := cell_below hB1 f1
  replace f2 := cell_below hB1 f2
  replace f3 := cell_below hB1 f3
  replace f4 := cell_below hB1 f4
  replace hB := below_then hB hB1
  clear hB1
  rw [szR_sub hz]
  by_cases hz0 : szR left (x.s.size + bulkJS m x.list) < 0
  · have HN := Hd.mk (show szR left (bulkJ (m + 1) x) = -1 by have h3 := szR_lt.1 hz0; unfold szR; rw [if_neg (by simp only [bulkJ, bulkJS] at h3 ⊢; omega)])
    go_wp2_with fail
    go_ret
    exact ⟨by rw [HN.out]; rfl, hB⟩
  have HZ := Hd.mk (Int.not_lt.1 hz0)
  have hy0 := (szR_le HZ.out h1).2.1
  have hx0 := (szR_le HZ.out h1).2.2.1
  clear hz0
  go_wp2_with fail
  refine (laws_szStringS _ _ x.names _ _ (C_below HR2.out hB) hy0 hx0).mono ?_
  rintro e w2 ⟨rfl, hB1⟩
  replace f0 := cell_below hB1 f0
  replace f1 := cell_below hB1 f1
  replace f2 := cell_below hB1 f2
  replace f3 := cell_below hB1 f3
  replace f4 := cell_below hB1 f4
  replace hB := below_then hB hB1
  clear hB1
  rw [szR_add HZ.out]
  by_cases hz1 : szR left (x.s.size + bulkJS m x.list + bulkStringS x.names) < 0
  · have HN := Hd.mk (show szR left (bulkJ (m + 1) x) = -1 by have h3 := szR_lt.1 hz1; unfold szR; rw [if_neg (by simp only [bulkJ, bulkJS] at h3 ⊢; omega)])
    go_wp2_with fail
    go_ret
    exact ⟨by rw [HN.out]; rfl, hB⟩
  have HZ := Hd.mk (Int.not_lt.1 hz1)
  have hy1 := (szR_le HZ.out h1).2.1
  have hx1 := (szR_le HZ.out h1).2.2.1
  clear hz1
  go_wp2_with fail
  go_ret
  exact ⟨rfl, hB⟩
theorem szJ_all : ∀ m, SzJ m
  | 0 => fun _ _ _ _ hk => hk.elim
  | m + 1 => fun x cs left w hk h0 h1 => laws_szJson_of (szJ_all m) x cs left w hk h0 h1
theorem laws_szJson {m : Nat} (x : J) (cs : List Value) (left : Int) (w : World) (hk : (tJ (m + 1)).K w x cs) (h0 : 0 ≤ left) (h1 : left ≤ 1048576) :
    Calls Tryd.prog 25 #[.agg cs.toArray, .int .i64 left] w fun e w' => e = .returned (.int .i64 (szR left (bulkJ (m + 1) x))) ∧ Below w.heap.size w w' := szJ_all (m + 1) x cs left w hk h0 h1
set_option maxRecDepth 100000 in
theorem laws_toJsonS_of {m : Nat} (ih : ToJ m) (A : Option Addr) (c : Nat) (l : List J) (w : World) (hr : (tJ m).C w A l) (hl : bulkJS m l ≤ 1048576) :
    Calls Tryd.prog 45 #[.slice A l.length c] w fun e w' => ∃ v, e = .returned v ∧ (tJ m).R 40 w' (fun k => w.heap.size ≤ k) v l ∧ Below w.heap.size w w' := by
  have hl0 : l.length ≤ 1048576 := by simp only [bulkJS] at hl; omega
  have hmk := make_eq (P := Tryd.prog) 38 40 (.agg #[.int .i64 0, .int .i64 0, .string ByteArray.empty, .slice none 0 0, .slice none 0 0]) 5 80 Tryd.underlying38 info_JsonS l.length (by omega) (by omega)
  have HL := Hd.mk hl
  go_enter Tryd.func45, Tryd.ntmps45
  go_wp2
  have hR := R_made (d := (tJ m)) (e := 40) (W := w) (z := (.agg #[.int .i64 0, .int .i64 0, .string ByteArray.empty, .slice none 0 0, .slice none 0 0])) (S := fun k => w.heap.size ≤ k) J.null l.length (by rw [tJ_sz]; omega) (by omega) (tJ_sz _).symm (tJ_zero hr) (Nat.le_refl _)
  simp only [tJ_sz m, show (Value.agg #[.int .i64 0, .int .i64 0, .string ByteArray.empty, .slice none 0 0, .slice none 0 0] : Value).cells = #[.int .i64 0, .int .i64 0, .string ByteArray.empty, .slice none 0 0, .slice none 0 0] from rfl] at hR
  have HR := Hd.mk hR; clear hR hmk hl
  have HC := Hd.mk hr; clear hr
  go_loopw [4] (fun i wr => ∃ k : Nat, k ≤ l.length ∧ i = .int .i64 k ∧ Hd ((tJ m).R 40 wr (fun k => w.heap.size ≤ k) (.slice (some ⟨w.heap.size, 0, none⟩) l.length l.length) (l.take k ++ List.replicate (l.length - k) J.null)) ∧ Hd (Below w.heap.size w wr)) (fun i _ => l.length - (intOf i).toNat)
  case atStart => exact ⟨0, Nat.zero_le _, rfl, ⟨by simpa using HR.out⟩, ⟨below_alloc (Below.refl _ _) _⟩⟩
  case round =>
    obtain ⟨k, hk, rfl, HK1, HB⟩ := hrel
    by_cases hlt : k < l.length
    · obtain ⟨ad, cs0, rfl, hK0, e0, e1⟩ := C_at HC.out HB.out k hlt
      obtain ⟨m, rfl⟩ : ∃ m1 : Nat, m = m1 + 1 := by cases m with | zero => exact hK0.elim | succ m => exact ⟨m, rfl⟩
      obtain ⟨A1, c1, A2, c2, rfl, hs, ⟨hc1, hr1⟩, hc2, hr2⟩ := tJ_K.1 hK0
      have x0 : wr.cell? (ad.add (k * 5)) = some _ := e0 _ rfl
      have x1 : wr.cell? ⟨(ad.add (k * 5)).block, (ad.add (k * 5)).off + 1, none⟩ = some _ := e1 0 _ rfl
      have x2 : wr.cell? ⟨(ad.add (k * 5)).block, (ad.add (k * 5)).off + 2, none⟩ = some _ := e1 1 _ rfl
      have x3 : wr.cell? ⟨(ad.add (k * 5)).block, (ad.add (k * 5)).off + 3, none⟩ = some _ := e1 2 _ rfl
      have x4 : wr.cell? ⟨(ad.add (k * 5)).block, (ad.add (k * 5)).off + 4, none⟩ = some _ := e1 3 _ rfl
      have HK := Hd.mk hK0
      clear hK0 e0 e1
      clear hr1 hr2
      have hb := Nat.le_trans (bulkL_mem (bulkJ (m + 1)) (List.getElem_mem hlt)) (Nat.le_trans (Nat.le_add_left _ _) HL.out)
      go_wp2_with fail
      refine (ih l[k] _ _ HK.out hb).mono ?_
      rintro e w1 ⟨cs', rfl, hO, hB1⟩
      obtain ⟨hgl, ⟨cur, hcur, hcell⟩, hfz, hg, hst⟩ := R_put (i := k) (S' := fun k => w.heap.size ≤ k) (R_mono (fun _ h => h) (R_below (R_bound HK1.out) hB1)) (by simp; omega) (by rw [tJ_sz]; omega) hO (fun k hk hl hs => by have := hs.2; omega) (fun k hk => hk.1) (fun k hk => Nat.le_trans HB.out.size hk)
      obtain ⟨v1, v2, _, _, rfl, hsz, hv1, hv2, _⟩ := tJ_O.1 hO
      obtain ⟨D1, d1, rfl, _, _⟩ := R_C hv1
      obtain ⟨D2, d2, rfl, _, _⟩ := R_C hv2
      obtain ⟨Az1, cz1, Az2, cz2, rfl, hsz, ⟨hcz1, hrz1⟩, hcz2, hrz2⟩ := tJ_K.1 hcur
      clear hrz1 hrz2 hv1 hv2
      have k0 : w1.cell? ⟨w.heap.size, k * 5, none⟩ = some _ := hcell 0 _ rfl
      have z0 := hfz (k * 5)
      have k1 : w1.cell? ⟨w.heap.size, k * 5 + 1, none⟩ = some _ := hcell 1 _ rfl
      have z1 := hfz (k * 5 + 1)
      have k2 : w1.cell? ⟨w.heap.size, k * 5 + 2, none⟩ = some _ := hcell 2 _ rfl
      have z2 := hfz (k * 5 + 2)
      have k3 : w1.cell? ⟨w.heap.size, k * 5 + 3, none⟩ = some _ := hcell 3 _ rfl
      have z3 := hfz (k * 5 + 3)
      have k4 : w1.cell? ⟨w.heap.size, k * 5 + 4, none⟩ = some _ := hcell 4 _ rfl
      have z4 := hfz (k * 5 + 4)
      have HST := Hd.mk hst
      clear hst hcell hfz hcur hO
      go_wp2_with fail
      go_roundw
      case rel =>
        refine ⟨k + 1, by omega, by go_num, ⟨?_⟩, ⟨?_⟩⟩
        · have := HST.out
          rw [set_rep l _ k hlt] at this
          exact this
        · exact (setAll_fr (S := fun k => w.heap.size ≤ k) (fun _ => Nat.le_refl _) [_, _, _, _, _] _ _ (Fr.of_below (below_then HB.out hB1) _)).below (fun k hk => hk)
      case measure => simp [intOf]; omega
    · obtain rfl : k = l.length := by omega
      go_wp2_with fail
      go_ret
      have := HK1.out
      exact ⟨_, rfl, by simpa using this, HB.out⟩
set_option maxRecDepth 100000 in
theorem laws_toJson_of {m : Nat} (ih : ToJ m) (x : J) (cs : List Value) (w : World) (hk : (tJ (m + 1)).K w x cs) (hl : bulkJ (m + 1) x ≤ 1048576) :
    Calls Tryd.prog 27 #[.agg cs.toArray] w fun e w' => ∃ cs', e = .returned (.agg cs'.toArray) ∧ (tJ (m + 1)).O w' (fun k => w.heap.size ≤ k) x cs' ∧ Below w.heap.size w w' := by
  obtain ⟨A1, c1, A2, c2, rfl, hs, ⟨hc1, hr1⟩, hc2, hr2⟩ := tJ_K.1 hk
  replace hl : x.s.size + bulkJS m x.list + bulkStringS x.names ≤ 1048576 := hl
  have HR1 := Hd.mk hr1; clear hr1
  have HR2 := Hd.mk hr2; clear hr2
  have HL := Hd.mk hl; clear hl hk
  go_enter Tryd.func27, Tryd.ntmps27
  go_wp2_with fail
  apply calls_gen; intro W0 hW0
  have hB : Below w.heap.size w W0 := by rw [hW0]; exact below_alloc (below_alloc (below_alloc (Below.refl _ _) _) _) _
  have b0 : Blk W0 w.heap.size #[Value.int IntKind.i64 x.kind, Value.int IntKind.i64 x.n, Value.string x.s, Value.slice A1 x.list.length c1, Value.slice A2 x.names.length c2] 35 := by rw [hW0]; exact ((Blk.new w _ _).alloc _).alloc _
  have b1 : Blk W0 (w.heap.size + 1) #[Value.int IntKind.i64 0, Value.int IntKind.i64 0, Value.string ByteArray.empty, Value.slice none 0 0, Value.slice none 0 0] 40 := by rw [hW0]; exact (Blk.new1 w _ _ _).alloc _
  have b2 : Blk W0 (w.heap.size + 1 + 1) #[Value.int IntKind.i64 x.kind, Value.int IntKind.i64 x.n, Value.string x.s, Value.slice none 0 0, Value.slice none 0 0] 40 := by rw [hW0]; exact Blk.new2 w _ _ _ _
  have s0 : Hd (w.heap.size + 3 ≤ W0.heap.size) := ⟨by rw [hW0]; simp⟩
  clear hW0
  refine (laws_toJsonS_of ih _ _ x.list _ (C_below HR1.out hB) (by have := HL.out; omega)).mono ?_
  rintro e w1 ⟨v0, rfl, hR0, hB1⟩
  have t0 : Hd (W0.heap.size ≤ w1.heap.size) := ⟨hB1.size⟩
  replace hR0 := R_bound hR0
  replace b0 := b0.below hB1
  replace b1 := b1.below hB1
  replace b2 := b2.below hB1
  replace hB := below_then hB hB1
  obtain ⟨D0, d0, rfl, _, _⟩ := R_C hR0
  have H0 := Hd.mk hR0; clear hR0
  have p0 : w1.cell? ⟨w.heap.size, 0, none⟩ = some (Value.int IntKind.i64 x.kind) := b0.cell 0 rfl
  have q0 : w1.cell? ⟨w.heap.size + 1, 0, none⟩ = some (Value.int IntKind.i64 0) := b1.cell 0 rfl
  have r0 : w1.cell? ⟨w.heap.size + 1 + 1, 0, none⟩ = some (Value.int IntKind.i64 x.kind) := b2.cell 0 rfl
  have p1 : w1.cell? ⟨w.heap.size, 1, none⟩ = some (Value.int IntKind.i64 x.n) := b0.cell 1 rfl
  have q1 : w1.cell? ⟨w.heap.size + 1, 1, none⟩ = some (Value.int IntKind.i64 0) := b1.cell 1 rfl
  have r1 : w1.cell? ⟨w.heap.size + 1 + 1, 1, none⟩ = some (Value.int IntKind.i64 x.n) := b2.cell 1 rfl
  have p2 : w1.cell? ⟨w.heap.size, 2, none⟩ = some (Value.string x.s) := b0.cell 2 rfl
  have q2 : w1.cell? ⟨w.heap.size + 1, 2, none⟩ = some (Value.string ByteArray.empty) := b1.cell 2 rfl
  have r2 : w1.cell? ⟨w.heap.size + 1 + 1, 2, none⟩ = some (Value.string x.s) := b2.cell 2 rfl
  have p3 : w1.cell? ⟨w.heap.size, 3, none⟩ = some (Value.slice A1 x.list.length c1) := b0.cell 3 rfl
  have q3 : w1.cell? ⟨w.heap.size + 1, 3, none⟩ = some (Value.slice none 0 0) := b1.cell 3 rfl
  have r3 : w1.cell? ⟨w.heap.size + 1 + 1, 3, none⟩ = some (Value.slice none 0 0) := b2.cell 3 rfl
  have p4 : w1.cell? ⟨w.heap.size, 4, none⟩ = some (Value.slice A2 x.names.length c2) := b0.cell 4 rfl
  have q4 : w1.cell? ⟨w.heap.size + 1, 4, none⟩ = some (Value.slice none 0 0) := b1.cell 4 rfl
  have r4 : w1.cell? ⟨w.heap.size + 1 + 1, 4, none⟩ = some (Value.slice none 0 0) := b2.cell 4 rfl
  have pf := b0.frozen
  have qf := b1.frozen
  have rf := b2.frozen
  clear hB1
  go_wp2_with fail
  clear p0 p1 p2 p3 p4 q0 q1 q2 q3 q4 r0 r1 r2 r3 r4 pf qf rf
  have hR0 := H0.out
  apply calls_gen; intro W1 hW1
  have eF : Fr w1 W1 (fun k => w.heap.size ≤ k ∧ k < w.heap.size + 3) := by rw [hW1]; repeat (first | refine Fr.setCell ?_ _ (fun _ => by constructor <;> (try simp only) <;> omega) _ | exact Fr.refl _ _)
  have hB : Below w.heap.size w W1 := ((Fr.of_below hB (fun k => w.heap.size ≤ k ∧ k < w.heap.size + 3)).then_ eF (fun k hk _ => hk)).below (fun k hk => hk.1)
  have b0 : Blk W1 w.heap.size #[Value.int IntKind.i64 x.kind, Value.int IntKind.i64 x.n, Value.string x.s, Value.slice A1 x.list.length c1, Value.slice A2 x.names.length c2] 35 := by rw [hW1]; repeat (first | refine Blk.other ?_ _ (by simp <;> omega) _ | exact b0)
  have b1 : Blk W1 (w.heap.size + 1) #[Value.int IntKind.i64 0, Value.int IntKind.i64 0, Value.string ByteArray.empty, Value.slice none 0 0, Value.slice none 0 0] 40 := by rw [hW1]; repeat (first | refine Blk.other ?_ _ (by simp <;> omega) _ | exact b1)
  have b2 : Blk W1 (w.heap.size + 1 + 1) #[Value.int IntKind.i64 x.kind, Value.int IntKind.i64 x.n, Value.string x.s, Value.slice D0 x.list.length d0, Value.slice none 0 0] 40 := by rw [hW1]; exact (b2.set 3 _)
  have s1 : Hd (w1.heap.size ≤ W1.heap.size) := ⟨eF.size⟩
  replace hR0 := R_fr hR0 eF (fun k hk hl h => by have := hk.1; have := h.2; have := s0.out; omega)
  clear hW1
  refine (laws_toStringS _ _ x.names _ (C_below HR2.out hB) (by have := HL.out; omega)).mono ?_
  rintro e w2 ⟨v1, rfl, hR1, hB1⟩
  have t1 : Hd (W1.heap.size ≤ w2.heap.size) := ⟨hB1.size⟩
  replace hR0 := R_below hR0 hB1
  replace hR1 := R_bound hR1
  replace b0 := b0.below hB1
  replace b1 := b1.below hB1
  replace b2 := b2.below hB1
  replace hB := below_then hB hB1
  obtain ⟨D1, d1, rfl, _, _⟩ := R_C hR1
  have H0 := Hd.mk hR0; clear hR0
  have H1 := Hd.mk hR1; clear hR1
  have p0 : w2.cell? ⟨w.heap.size, 0, none⟩ = some (Value.int IntKind.i64 x.kind) := b0.cell 0 rfl
  have q0 : w2.cell? ⟨w.heap.size + 1, 0, none⟩ = some (Value.int IntKind.i64 0) := b1.cell 0 rfl
  have r0 : w2.cell? ⟨w.heap.size + 1 + 1, 0, none⟩ = some (Value.int IntKind.i64 x.kind) := b2.cell 0 rfl
  have p1 : w2.cell? ⟨w.heap.size, 1, none⟩ = some (Value.int IntKind.i64 x.n) := b0.cell 1 rfl
  have q1 : w2.cell? ⟨w.heap.size + 1, 1, none⟩ = some (Value.int IntKind.i64 0) := b1.cell 1 rfl
  have r1 : w2.cell? ⟨w.heap.size + 1 + 1, 1, none⟩ = some (Value.int IntKind.i64 x.n) := b2.cell 1 rfl
  have p2 : w2.cell? ⟨w.heap.size, 2, none⟩ = some (Value.string x.s) := b0.cell 2 rfl
  have q2 : w2.cell? ⟨w.heap.size + 1, 2, none⟩ = some (Value.string ByteArray.empty) := b1.cell 2 rfl
  have r2 : w2.cell? ⟨w.heap.size + 1 + 1, 2, none⟩ = some (Value.string x.s) := b2.cell 2 rfl
  have p3 : w2.cell? ⟨w.heap.size, 3, none⟩ = some (Value.slice A1 x.list.length c1) := b0.cell 3 rfl
  have q3 : w2.cell? ⟨w.heap.size + 1, 3, none⟩ = some (Value.slice none 0 0) := b1.cell 3 rfl
  have r3 : w2.cell? ⟨w.heap.size + 1 + 1, 3, none⟩ = some (Value.slice D0 x.list.length d0) := b2.cell 3 rfl
  have p4 : w2.cell? ⟨w.heap.size, 4, none⟩ = some (Value.slice A2 x.names.length c2) := b0.cell 4 rfl
  have q4 : w2.cell? ⟨w.heap.size + 1, 4, none⟩ = some (Value.slice none 0 0) := b1.cell 4 rfl
  have r4 : w2.cell? ⟨w.heap.size + 1 + 1, 4, none⟩ = some (Value.slice none 0 0) := b2.cell 4 rfl
  have pf := b0.frozen
  have qf := b1.frozen
  have rf := b2.frozen
  clear hB1
  go_wp2_with fail
  refine bodyPost_retW (v := .agg #[Value.int IntKind.i64 x.kind, Value.int IntKind.i64 x.n, Value.string x.s, Value.slice D0 x.list.length d0, Value.slice D1 x.names.length d1]) (by simp [results, Tryd.results27, go_sem, q0, q1, q2, q3, q4]) rfl ?_
  intro W hW
  have eF : Fr w2 W (fun k => w.heap.size ≤ k ∧ k < w.heap.size + 3) := by rw [hW]; repeat (first | refine Fr.setCell ?_ _ (fun _ => by constructor <;> (try simp only) <;> omega) _ | exact Fr.refl _ _)
  clear hW
  have hs0 := s0.out
  have ht0 := t0.out
  have hs1 := s1.out
  have ht1 := t1.out
  have hR0 := R_fr H0.out eF (fun k hk hl h => by have := hk.1; have := h.2; omega)
  have hR1 := R_fr H1.out eF (fun k hk hl h => by have := hk.1; have := h.2; omega)
  refine ⟨[Value.int IntKind.i64 x.kind, Value.int IntKind.i64 x.n, Value.string x.s, Value.slice D0 x.list.length d0, Value.slice D1 x.names.length d1], rfl, ?_, ((Fr.of_below hB (fun k => w.heap.size ≤ k ∧ k < w.heap.size + 3)).then_ eF (fun k hk _ => hk)).below (fun k hk => hk.1)⟩
  exact tJ_O.2 ⟨_, _, _, _, rfl, hs, hR0, hR1, fun k hk => by have := hk.1; omega, fun k hk => by have := hk.1; omega, fun k hk hk2 => by have := hk.2; have := hk2.1; omega⟩
theorem toJ_all : ∀ m, ToJ m
  | 0 => fun _ _ _ hk => hk.elim
  | m + 1 => fun x cs w hk hl => laws_toJson_of (toJ_all m) x cs w hk hl
theorem laws_toJson {m : Nat} (x : J) (cs : List Value) (w : World) (hk : (tJ (m + 1)).K w x cs) (hl : bulkJ (m + 1) x ≤ 1048576) :
    Calls Tryd.prog 27 #[.agg cs.toArray] w fun e w' => ∃ cs', e = .returned (.agg cs'.toArray) ∧ (tJ (m + 1)).O w' (fun k => w.heap.size ≤ k) x cs' ∧ Below w.heap.size w w' := toJ_all (m + 1) x cs w hk hl
set_option maxRecDepth 100000 in
theorem laws_eqJsonS_of {m : Nat} (ih : EqJ m) (A A2 : Option Addr) (c c2 : Nat) (l l2 : List J) (w : World) (hr : (tJ m).C w A l) (hr2 : (tJ m).C w A2 l2) :
    Calls Tryd.prog 49 #[.slice A l.length c, .slice A2 l2.length c2] w fun e w' => e = .returned (.bool (eqv l l2)) ∧ Below w.heap.size w w' := by
  have hm := hr.1
  have hm2 := hr2.1
  go_enter Tryd.func49, Tryd.ntmps49
  by_cases hlen : l.length = l2.length
  · have hd : ((l.length : Int) != l2.length) = false := by simp [hlen]
    have HL := Hd.mk hlen
    have HC := Hd.mk hr
    have HC2 := Hd.mk hr2
    clear hr hr2 hlen
    go_wp2
    go_loopw [5] (fun i wr => ∃ k : Nat, k ≤ l.length ∧ i = .int .i64 k ∧ Hd (l.take k = l2.take k) ∧ Hd (Below w.heap.size w wr)) (fun i _ => l.length - (intOf i).toNat)
    case atStart => exact ⟨0, Nat.zero_le _, rfl, ⟨rfl⟩, ⟨Below.refl _ _⟩⟩
    case round =>
      obtain ⟨k, hk, rfl, HK1, HB⟩ := hrel
      by_cases hlt : k < l.length
      · have hlt2 : k < l2.length := by have := HL.out; omega
        obtain ⟨ad, cs0, rfl, hK0, e0, e1⟩ := C_at HC.out HB.out k hlt
        obtain ⟨m, rfl⟩ : ∃ m1 : Nat, m = m1 + 1 := by cases m with | zero => exact hK0.elim | succ m => exact ⟨m, rfl⟩
        obtain ⟨A1, c1, A2, c2, rfl, hs, ⟨hc1, hr1⟩, hc2, hr2⟩ := tJ_K.1 hK0
        have x0 : wr.cell? (ad.add (k * 5)) = some _ := e0 _ rfl
        have x1 : wr.cell? ⟨(ad.add (k * 5)).block, (ad.add (k * 5)).off + 1, none⟩ = some _ := e1 0 _ rfl
        have x2 : wr.cell? ⟨(ad.add (k * 5)).block, (ad.add (k * 5)).off + 2, none⟩ = some _ := e1 1 _ rfl
        have x3 : wr.cell? ⟨(ad.add (k * 5)).block, (ad.add (k * 5)).off + 3, none⟩ = some _ := e1 2 _ rfl
        have x4 : wr.cell? ⟨(ad.add (k * 5)).block, (ad.add (k * 5)).off + 4, none⟩ = some _ := e1 3 _ rfl
        have HK := Hd.mk hK0
        clear hK0 e0 e1
        clear hr1 hr2
        obtain ⟨adb, csb0, rfl, hKb0, e0, e1⟩ := C_at HC2.out HB.out k hlt2
        obtain ⟨Ab1, cb1, Ab2, cb2, rfl, hsb, ⟨hcb1, hrb1⟩, hcb2, hrb2⟩ := tJ_K.1 hKb0
        have xb0 : wr.cell? (adb.add (k * 5)) = some _ := e0 _ rfl
        have xb1 : wr.cell? ⟨(adb.add (k * 5)).block, (adb.add (k * 5)).off + 1, none⟩ = some _ := e1 0 _ rfl
        have xb2 : wr.cell? ⟨(adb.add (k * 5)).block, (adb.add (k * 5)).off + 2, none⟩ = some _ := e1 1 _ rfl
        have xb3 : wr.cell? ⟨(adb.add (k * 5)).block, (adb.add (k * 5)).off + 3, none⟩ = some _ := e1 2 _ rfl
        have xb4 : wr.cell? ⟨(adb.add (k * 5)).block, (adb.add (k * 5)).off + 4, none⟩ = some _ := e1 3 _ rfl
        have HKb := Hd.mk hKb0
        clear hKb0 e0 e1
        clear hrb1 hrb2
        go_wp2_with fail
        have y0 := cell_regrown x0
        have yb0 := cell_regrown xb0
        have y1 := cell_regrown x1
        have yb1 := cell_regrown xb1
        have y2 := cell_regrown x2
        have yb2 := cell_regrown xb2
        have y3 := cell_regrown x3
        have yb3 := cell_regrown xb3
        have y4 := cell_regrown x4
        have yb4 := cell_regrown xb4
        refine region_mix [(true, 0), (true, 1), (true, 2), (true, 3), (true, 4), (true, 5), (true, 6), (true, 7), (false, 8), (true, 9)] (by kernel_rfl) (by kernel_rfl) (fun _ _ _ _ _ h => h) ?_
        repeat (refine mix_q rfl ?_; go_big_quiet_want; go_big_quiet_op; go_big_quiet_on; refine wpQuiet_nil ?_)
        refine mix_b rfl ?_ (by rfl)
        go_wp2_with fail
        refine (ih l[k] l2[k] _ _ _ (Ty.K_below _ (below_drew (Below.refl _ _)) HK.out) (Ty.K_below _ (below_drew (Below.refl _ _)) HKb.out)).mono ?_
        rintro e w1 ⟨rfl, hB1⟩
        have hW1 := Hd.mk (below_then (below_drew (Below.refl wr.heap.size wr)) hB1)
        have hB2 := below_then HB.out hW1.out
        clear hB1
        cases hb : eqv l[k] l2[k]
        · have HN := Hd.mk (eqv_at k hlt hlt2 (fun h => by rw [h, eqv_self] at hb; cases hb))
          go_wp2_with fail
          refine ⟨cls_below hW1.out, ?_⟩
          repeat (refine mix_q rfl ?_; go_big_quiet_want; go_big_quiet_op; go_big_quiet_on; refine wpQuiet_nil ?_)
          refine mix_nil ?_
          go_wp2_with fail
          go_ret
          exact ⟨by rw [HN.out]; rfl, hB2⟩
        · have HE := Hd.mk (eqv_iff.1 hb)
          go_wp2_with fail
          refine ⟨cls_below hW1.out, ?_⟩
          repeat (refine mix_q rfl ?_; go_big_quiet_want; go_big_quiet_op; go_big_quiet_on; refine wpQuiet_nil ?_)
          refine mix_nil ?_
          go_wp2_with fail
          go_roundw
          case rel =>
            refine ⟨k + 1, by omega, by go_num, ⟨?_⟩, ⟨hB2⟩⟩
            rw [List.take_succ_eq_append_getElem hlt, List.take_succ_eq_append_getElem hlt2, HK1.out, HE.out]
          case measure => simp [intOf]; omega
      · obtain rfl : k = l.length := by omega
        go_wp2_with fail
        go_ret
        have h1 := HK1.out
        rw [List.take_length, HL.out, List.take_length] at h1
        exact ⟨by rw [eqv_iff.2 h1]; rfl, HB.out⟩
  · have hd : ((l.length : Int) != l2.length) = true := by simp; omega
    have HN := Hd.mk (eqv_len hlen)
    go_wp2
    go_ret
    exact ⟨by rw [HN.out]; rfl, Below.refl _ _⟩
set_option maxRecDepth 100000 in
theorem laws_eqJson_of {m : Nat} (ih : EqJ m) (x y : J) (cs cs2 : List Value) (w : World) (hk : (tJ (m + 1)).K w x cs) (hk2 : (tJ (m + 1)).K w y cs2) :
    Calls Tryd.prog 29 #[.agg cs.toArray, .agg cs2.toArray] w fun e w' => e = .returned (.bool (eqv x y)) ∧ Below w.heap.size w w' := by
  obtain ⟨A1, c1, A2, c2, rfl, hs, ⟨hc1, hr1⟩, hc2, hr2⟩ := tJ_K.1 hk
  obtain ⟨Ab1, cb1, Ab2, cb2, rfl, hsb, ⟨hcb1, hrb1⟩, hcb2, hrb2⟩ := tJ_K.1 hk2
  have HR1 := Hd.mk hr1; clear hr1
  have HRb1 := Hd.mk hrb1; clear hrb1
  have HR2 := Hd.mk hr2; clear hr2
  have HRb2 := Hd.mk hrb2; clear hrb2
  clear hk hk2
  go_enter Tryd.func29, Tryd.ntmps29
  have hB : Below w.heap.size w ((w.alloc (Obj.cells #[Value.int IntKind.i64 x.kind, Value.int IntKind.i64 x.n, Value.string x.s, Value.slice A1 x.list.length c1, Value.slice A2 x.names.length c2] 40)).alloc (Obj.cells #[Value.int IntKind.i64 y.kind, Value.int IntKind.i64 y.n, Value.string y.s, Value.slice Ab1 y.list.length cb1, Value.slice Ab2 y.names.length cb2] 40)) := below_alloc (below_alloc (Below.refl _ _) _) _
  have b0 : Blk ((w.alloc (Obj.cells #[Value.int IntKind.i64 x.kind, Value.int IntKind.i64 x.n, Value.string x.s, Value.slice A1 x.list.length c1, Value.slice A2 x.names.length c2] 40)).alloc (Obj.cells #[Value.int IntKind.i64 y.kind, Value.int IntKind.i64 y.n, Value.string y.s, Value.slice Ab1 y.list.length cb1, Value.slice Ab2 y.names.length cb2] 40)) w.heap.size #[Value.int IntKind.i64 x.kind, Value.int IntKind.i64 x.n, Value.string x.s, Value.slice A1 x.list.length c1, Value.slice A2 x.names.length c2] 40 := (Blk.new w _ _).alloc _
  have b1 : Blk ((w.alloc (Obj.cells #[Value.int IntKind.i64 x.kind, Value.int IntKind.i64 x.n, Value.string x.s, Value.slice A1 x.list.length c1, Value.slice A2 x.names.length c2] 40)).alloc (Obj.cells #[Value.int IntKind.i64 y.kind, Value.int IntKind.i64 y.n, Value.string y.s, Value.slice Ab1 y.list.length cb1, Value.slice Ab2 y.names.length cb2] 40)) (w.heap.size + 1) #[Value.int IntKind.i64 y.kind, Value.int IntKind.i64 y.n, Value.string y.s, Value.slice Ab1 y.list.length cb1, Value.slice Ab2 y.names.length cb2] 40 := by simpa using Blk.new (w.alloc _) _ _
  cases hb0 : (x.kind != y.kind)
  case true =>
    have HN := Hd.mk (eqv_no (a := x) (b := y) (fun h => by rw [h] at hb0; simp at hb0))
    go_wp2_with fail
    go_ret
    exact ⟨by rw [HN.out]; rfl, by exact hB⟩
  cases hb1 : (x.n != y.n)
  case true =>
    have HN := Hd.mk (eqv_no (a := x) (b := y) (fun h => by rw [h] at hb1; simp at hb1))
    go_wp2_with fail
    go_ret
    exact ⟨by rw [HN.out]; rfl, by exact hB⟩
  cases hb2 : (x.s.toList == y.s.toList)
  case false =>
    have HN := Hd.mk (eqv_no (a := x) (b := y) (fun h => by rw [h] at hb2; simp at hb2))
    go_wp2_with fail
    go_ret
    exact ⟨by rw [HN.out]; rfl, by exact hB⟩
  go_wp2_with fail
  apply calls_gen; intro W0 hW
  replace b0 : Blk W0 w.heap.size #[Value.int IntKind.i64 x.kind, Value.int IntKind.i64 x.n, Value.string x.s, Value.slice A1 x.list.length c1, Value.slice A2 x.names.length c2] 40 := by rw [hW]; exact b0
  replace b1 : Blk W0 (w.heap.size + 1) #[Value.int IntKind.i64 y.kind, Value.int IntKind.i64 y.n, Value.string y.s, Value.slice Ab1 y.list.length cb1, Value.slice Ab2 y.names.length cb2] 40 := by rw [hW]; exact b1
  replace hB : Below w.heap.size w W0 := by rw [hW]; exact hB
  clear hW
  have p0 : W0.cell? ⟨w.heap.size, 0, none⟩ = some (Value.int IntKind.i64 x.kind) := b0.cell 0 rfl
  have q0 : W0.cell? ⟨w.heap.size + 1, 0, none⟩ = some (Value.int IntKind.i64 y.kind) := b1.cell 0 rfl
  have p1 : W0.cell? ⟨w.heap.size, 1, none⟩ = some (Value.int IntKind.i64 x.n) := b0.cell 1 rfl
  have q1 : W0.cell? ⟨w.heap.size + 1, 1, none⟩ = some (Value.int IntKind.i64 y.n) := b1.cell 1 rfl
  have p2 : W0.cell? ⟨w.heap.size, 2, none⟩ = some (Value.string x.s) := b0.cell 2 rfl
  have q2 : W0.cell? ⟨w.heap.size + 1, 2, none⟩ = some (Value.string y.s) := b1.cell 2 rfl
  have p3 : W0.cell? ⟨w.heap.size, 3, none⟩ = some (Value.slice A1 x.list.length c1) := b0.cell 3 rfl
  have q3 : W0.cell? ⟨w.heap.size + 1, 3, none⟩ = some (Value.slice Ab1 y.list.length cb1) := b1.cell 3 rfl
  have p4 : W0.cell? ⟨w.heap.size, 4, none⟩ = some (Value.slice A2 x.names.length c2) := b0.cell 4 rfl
  have q4 : W0.cell? ⟨w.heap.size + 1, 4, none⟩ = some (Value.slice Ab2 y.names.length cb2) := b1.cell 4 rfl
  clear b0 b1
  refine (laws_eqJsonS_of ih _ _ _ _ x.list y.list _ (C_below HR1.out hB) (C_below HRb1.out hB)).mono ?_
  rintro e w4 ⟨rfl, hB1⟩
  replace p0 := cell_below hB1 p0
  replace q0 := cell_below hB1 q0
  replace p1 := cell_below hB1 p1
  replace q1 := cell_below hB1 q1
  replace p2 := cell_below hB1 p2
  replace q2 := cell_below hB1 q2
  replace p3 := cell_below hB1 p3
  replace q3 := cell_below hB1 q3
  replace p4 := cell_below hB1 p4
  replace q4 := cell_below hB1 q4
  replace hB := below_then hB hB1
  clear hB1
  cases hb3 : eqv x.list y.list
  case false =>
    have HN := Hd.mk (eqv_no (a := x) (b := y) (fun h => by rw [h, eqv_self] at hb3; cases hb3))
    go_wp2_with fail
    go_ret
    exact ⟨by rw [HN.out]; rfl, hB⟩
  go_wp2_with fail
  refine (laws_eqStringS _ _ _ _ x.names y.names _ (C_below HR2.out hB) (C_below HRb2.out hB)).mono ?_
  rintro e w5 ⟨rfl, hB1⟩
  replace p0 := cell_below hB1 p0
  replace q0 := cell_below hB1 q0
  replace p1 := cell_below hB1 p1
  replace q1 := cell_below hB1 q1
  replace p2 := cell_below hB1 p2
  replace q2 := cell_below hB1 q2
  replace p3 := cell_below hB1 p3
  replace q3 := cell_below hB1 q3
  replace p4 := cell_below hB1 p4
  replace q4 := cell_below hB1 q4
  replace hB := below_then hB hB1
  clear hB1
  cases hb4 : eqv x.names y.names
  case false =>
    have HN := Hd.mk (eqv_no (a := x) (b := y) (fun h => by rw [h, eqv_self] at hb4; cases hb4))
    go_wp2_with fail
    go_ret
    exact ⟨by rw [HN.out]; rfl, hB⟩
  have HE := Hd.mk (eqv_iff.2 (show x = y from by
    have e0 : x.kind = y.kind := by simpa using hb0
    have e1 : x.n = y.n := by simpa using hb1
    have e2 : x.s = y.s := bytes_eq.1 hb2
    have e3 : x.list = y.list := eqv_iff.1 hb3
    have e4 : x.names = y.names := eqv_iff.1 hb4
    cases x; cases y
    exact J.mk.injEq .. ▸ ⟨e0, e1, e2, e3, e4⟩))
  go_wp2_with fail
  go_ret
  exact ⟨by rw [HE.out]; rfl, by exact hB⟩
theorem eqJ_all : ∀ m, EqJ m
  | 0 => fun _ _ _ _ _ hk => hk.elim
  | m + 1 => fun x y cs cs2 w hk hk2 => laws_eqJson_of (eqJ_all m) x y cs cs2 w hk hk2
theorem laws_eqJson {m : Nat} (x y : J) (cs cs2 : List Value) (w : World) (hk : (tJ (m + 1)).K w x cs) (hk2 : (tJ (m + 1)).K w y cs2) :
    Calls Tryd.prog 29 #[.agg cs.toArray, .agg cs2.toArray] w fun e w' => e = .returned (.bool (eqv x y)) ∧ Below w.heap.size w w' := eqJ_all (m + 1) x y cs cs2 w hk hk2
set_option maxRecDepth 100000 in
theorem laws_eqOp {m : Nat} (x y : JOp) (cs cs2 : List Value) (w : World) (hk : (tOp (m + 1)).K w x cs) (hk2 : (tOp (m + 1)).K w y cs2) :
    Calls Tryd.prog 34 #[.agg cs.toArray, .agg cs2.toArray] w fun e w' => e = .returned (.bool (eqv x y)) ∧ Below w.heap.size w w' := by
  obtain ⟨A1, c1, _, rfl, ⟨hc1, hr1⟩, hj⟩ := tOp_K.1 hk
  obtain ⟨A2, c2, A3, c3, rfl, hs, ⟨hc2, hr2⟩, hc3, hr3⟩ := tJ_K.1 hj
  obtain ⟨Ab1, cb1, _, rfl, ⟨hcb1, hrb1⟩, hjb⟩ := tOp_K.1 hk2
  obtain ⟨Ab2, cb2, Ab3, cb3, rfl, hsb, ⟨hcb2, hrb2⟩, hcb3, hrb3⟩ := tJ_K.1 hjb
  have HR1 := Hd.mk hr1; clear hr1
  have HRb1 := Hd.mk hrb1; clear hrb1
  have HR2 := Hd.mk hr2; clear hr2
  have HRb2 := Hd.mk hrb2; clear hrb2
  have HR3 := Hd.mk hr3; clear hr3
  have HRb3 := Hd.mk hrb3; clear hrb3
  clear hk hk2 hj hjb
  go_enter Tryd.func34, Tryd.ntmps34
  have hB : Below w.heap.size w ((w.alloc (Obj.cells #[Value.int IntKind.i64 x.kind, Value.slice A1 x.way.length c1, Value.int IntKind.i64 x.value.kind, Value.int IntKind.i64 x.value.n, Value.string x.value.s, Value.slice A2 x.value.list.length c2, Value.slice A3 x.value.names.length c3] 49)).alloc (Obj.cells #[Value.int IntKind.i64 y.kind, Value.slice Ab1 y.way.length cb1, Value.int IntKind.i64 y.value.kind, Value.int IntKind.i64 y.value.n, Value.string y.value.s, Value.slice Ab2 y.value.list.length cb2, Value.slice Ab3 y.value.names.length cb3] 49)) := below_alloc (below_alloc (Below.refl _ _) _) _
  have b0 : Blk ((w.alloc (Obj.cells #[Value.int IntKind.i64 x.kind, Value.slice A1 x.way.length c1, Value.int IntKind.i64 x.value.kind, Value.int IntKind.i64 x.value.n, Value.string x.value.s, Value.slice A2 x.value.list.length c2, Value.slice A3 x.value.names.length c3] 49)).alloc (Obj.cells #[Value.int IntKind.i64 y.kind, Value.slice Ab1 y.way.length cb1, Value.int IntKind.i64 y.value.kind, Value.int IntKind.i64 y.value.n, Value.string y.value.s, Value.slice Ab2 y.value.list.length cb2, Value.slice Ab3 y.value.names.length cb3] 49)) w.heap.size #[Value.int IntKind.i64 x.kind, Value.slice A1 x.way.length c1, Value.int IntKind.i64 x.value.kind, Value.int IntKind.i64 x.value.n, Value.string x.value.s, Value.slice A2 x.value.list.length c2, Value.slice A3 x.value.names.length c3] 49 := (Blk.new w _ _).alloc _
  have b1 : Blk ((w.alloc (Obj.cells #[Value.int IntKind.i64 x.kind, Value.slice A1 x.way.length c1, Value.int IntKind.i64 x.value.kind, Value.int IntKind.i64 x.value.n, Value.string x.value.s, Value.slice A2 x.value.list.length c2, Value.slice A3 x.value.names.length c3] 49)).alloc (Obj.cells #[Value.int IntKind.i64 y.kind, Value.slice Ab1 y.way.length cb1, Value.int IntKind.i64 y.value.kind, Value.int IntKind.i64 y.value.n, Value.string y.value.s, Value.slice Ab2 y.value.list.length cb2, Value.slice Ab3 y.value.names.length cb3] 49)) (w.heap.size + 1) #[Value.int IntKind.i64 y.kind, Value.slice Ab1 y.way.length cb1, Value.int IntKind.i64 y.value.kind, Value.int IntKind.i64 y.value.n, Value.string y.value.s, Value.slice Ab2 y.value.list.length cb2, Value.slice Ab3 y.value.names.length cb3] 49 := by simpa using Blk.new (w.alloc _) _ _
  cases hb0 : (x.kind != y.kind)
  case true =>
    have HN := Hd.mk (eqv_no (a := x) (b := y) (fun h => by rw [h] at hb0; simp at hb0))
    go_wp2_with fail
    go_ret
    exact ⟨by rw [HN.out]; rfl, by exact hB⟩
  go_wp2_with fail
  apply calls_gen; intro W0 hW
  replace b0 : Blk W0 w.heap.size #[Value.int IntKind.i64 x.kind, Value.slice A1 x.way.length c1, Value.int IntKind.i64 x.value.kind, Value.int IntKind.i64 x.value.n, Value.string x.value.s, Value.slice A2 x.value.list.length c2, Value.slice A3 x.value.names.length c3] 49 := by rw [hW]; exact b0
  replace b1 : Blk W0 (w.heap.size + 1) #[Value.int IntKind.i64 y.kind, Value.slice Ab1 y.way.length cb1, Value.int IntKind.i64 y.value.kind, Value.int IntKind.i64 y.value.n, Value.string y.value.s, Value.slice Ab2 y.value.list.length cb2, Value.slice Ab3 y.value.names.length cb3] 49 := by rw [hW]; exact b1
  replace hB : Below w.heap.size w W0 := by rw [hW]; exact hB
  clear hW
  have p0 : W0.cell? ⟨w.heap.size, 0, none⟩ = some (Value.int IntKind.i64 x.kind) := b0.cell 0 rfl
  have q0 : W0.cell? ⟨w.heap.size + 1, 0, none⟩ = some (Value.int IntKind.i64 y.kind) := b1.cell 0 rfl
  have p1 : W0.cell? ⟨w.heap.size, 1, none⟩ = some (Value.slice A1 x.way.length c1) := b0.cell 1 rfl
  have q1 : W0.cell? ⟨w.heap.size + 1, 1, none⟩ = some (Value.slice Ab1 y.way.length cb1) := b1.cell 1 rfl
  have p2 : W0.cell? ⟨w.heap.size, 2, none⟩ = some (Value.int IntKind.i64 x.value.kind) := b0.cell 2 rfl
  have q2 : W0.cell? ⟨w.heap.size + 1, 2, none⟩ = some (Value.int IntKind.i64 y.value.kind) := b1.cell 2 rfl
  have p3 : W0.cell? ⟨w.heap.size, 3, none⟩ = some (Value.int IntKind.i64 x.value.n) := b0.cell 3 rfl
  have q3 : W0.cell? ⟨w.heap.size + 1, 3, none⟩ = some (Value.int IntKind.i64 y.value.n) := b1.cell 3 rfl
  have p4 : W0.cell? ⟨w.heap.size, 4, none⟩ = some (Value.string x.value.s) := b0.cell 4 rfl
  have q4 : W0.cell? ⟨w.heap.size + 1, 4, none⟩ = some (Value.string y.value.s) := b1.cell 4 rfl
  have p5 : W0.cell? ⟨w.heap.size, 5, none⟩ = some (Value.slice A2 x.value.list.length c2) := b0.cell 5 rfl
  have q5 : W0.cell? ⟨w.heap.size + 1, 5, none⟩ = some (Value.slice Ab2 y.value.list.length cb2) := b1.cell 5 rfl
  have p6 : W0.cell? ⟨w.heap.size, 6, none⟩ = some (Value.slice A3 x.value.names.length c3) := b0.cell 6 rfl
  have q6 : W0.cell? ⟨w.heap.size + 1, 6, none⟩ = some (Value.slice Ab3 y.value.names.length cb3) := b1.cell 6 rfl
  clear b0 b1
  refine (laws_eqStringS _ _ _ _ x.way y.way _ (C_below HR1.out hB) (C_below HRb1.out hB)).mono ?_
  rintro e w2 ⟨rfl, hB1⟩
  replace p0 := cell_below hB1 p0
  replace q0 := cell_below hB1 q0
  replace p1 := cell_below hB1 p1
  replace q1 := cell_below hB1 q1
  replace p2 := cell_below hB1 p2
  replace q2 := cell_below hB1 q2
  replace p3 := cell_below hB1 p3
  replace q3 := cell_below hB1 q3
  replace p4 := cell_below hB1 p4
  replace q4 := cell_below hB1 q4
  replace p5 := cell_below hB1 p5
  replace q5 := cell_below hB1 q5
  replace p6 := cell_below hB1 p6
  replace q6 := cell_below hB1 q6
  replace hB := below_then hB hB1
  clear hB1
  cases hb1 : eqv x.way y.way
  case false =>
    have HN := Hd.mk (eqv_no (a := x) (b := y) (fun h => by rw [h, eqv_self] at hb1; cases hb1))
    go_wp2_with fail
    go_ret
    exact ⟨by rw [HN.out]; rfl, hB⟩
  go_wp2_with fail
  refine (laws_eqJson x.value y.value _ _ _ (tJ_K.2 ⟨_, _, _, _, rfl, hs, ⟨hc2, (C_below HR2.out hB)⟩, hc3, (C_below HR3.out hB)⟩) (tJ_K.2 ⟨_, _, _, _, rfl, hsb, ⟨hcb2, (C_below HRb2.out hB)⟩, hcb3, (C_below HRb3.out hB)⟩)).mono ?_
  rintro e w3 ⟨rfl, hB1⟩
  replace p0 := cell_below hB1 p0
  replace q0 := cell_below hB1 q0
  replace p1 := cell_below hB1 p1
  replace q1 := cell_below hB1 q1
  replace p2 := cell_below hB1 p2
  replace q2 := cell_below hB1 q2
  replace p3 := cell_below hB1 p3
  replace q3 := cell_below hB1 q3
  replace p4 := cell_below hB1 p4
  replace q4 := cell_below hB1 q4
  replace p5 := cell_below hB1 p5
  replace q5 := cell_below hB1 q5
  replace p6 := cell_below hB1 p6
  replace q6 := cell_below hB1 q6
  replace hB := below_then hB hB1
  clear hB1
  cases hb2 : eqv x.value y.value
  case false =>
    have HN := Hd.mk (eqv_no (a := x) (b := y) (fun h => by rw [h, eqv_self] at hb2; cases hb2))
    go_wp2_with fail
    go_ret
    exact ⟨by rw [HN.out]; rfl, hB⟩
  have HE := Hd.mk (eqv_iff.2 (show x = y from by
    have e0 : x.kind = y.kind := by simpa using hb0
    have e1 : x.way = y.way := eqv_iff.1 hb1
    have e2 : x.value = y.value := eqv_iff.1 hb2
    cases x; cases y
    exact JOp.mk.injEq .. ▸ ⟨e0, e1, e2⟩))
  go_wp2_with fail
  go_ret
  exact ⟨by rw [HE.out]; rfl, by exact hB⟩
end Go.Proofs.YtkgefjjgjjmklaaDoor.X
