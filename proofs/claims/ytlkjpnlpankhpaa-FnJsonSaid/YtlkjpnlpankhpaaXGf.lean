/- What is proved here: contracts of the likeness of values. Conditions: none. -/
import Derived.Test.YtlkjpnlpankhpaaXGd
import Derived.StillTailTactics
import Derived.Deep.RegionWith
namespace Go.Proofs.Ytlkjpnlpankhpaa.X
open Go.RowKit Go.Sort
set_option linter.unusedVariables false
set_option linter.unusedSimpArgs false
open Ty
theorem J_ext {x y : J} (h0 : x.kind = y.kind) (h1 : x.n = y.n) (h2 : x.s = y.s) (h3 : x.list = y.list) (h4 : x.names = y.names) : x = y := by
  cases x; cases y
  exact J.mk.injEq .. ▸ ⟨h0, h1, h2, h3, h4⟩
set_option maxRecDepth 100000 in
theorem slices_Equal_str (A A2 : Option Addr) (c c2 : Nat) (l l2 : List ByteArray) (w : World) (hr : str.C w A l) (hr2 : str.C w A2 l2) :
    Calls Try.prog 73 #[.slice A l.length c, .slice A2 l2.length c2] w fun e w' => e = .returned (.bool (eqv l l2)) ∧ Below w.heap.size w w' := by
  have hm := hr.1
  have hm2 := hr2.1
  go_enter Try.func73, Try.ntmps73
  by_cases hlen : l.length = l2.length
  · have hd : ((l.length : Int) != l2.length) = false := by simp [hlen]
    have HL := Hd.mk hlen
    have HC := Hd.mk hr
    have HC2 := Hd.mk hr2
    clear hr hr2 hlen
    go_wp2
    go_loopw [13] (fun i wr => ∃ k : Nat, k ≤ l.length ∧ i = .int .i64 k ∧ Hd (l.take k = l2.take k) ∧ Hd (Below w.heap.size w wr)) (fun i _ => l.length - (intOf i).toNat)
    case atStart => exact ⟨0, Nat.zero_le _, rfl, ⟨rfl⟩, ⟨Below.refl _ _⟩⟩
    case round =>
      obtain ⟨k, hk, rfl, HK, HB⟩ := hrel
      by_cases hlt : k < l.length
      · obtain ⟨ad, rfl, hx, hsz⟩ := C_str_at HC.out HB.out k hlt
        have hlt2 : k < l2.length := by have := HL.out; omega
        obtain ⟨ad2, rfl, hx2, hsz2⟩ := C_str_at HC2.out HB.out k hlt2
        cases hb : (l[k].toList == l2[k].toList)
        rotate_left
        · go_wp2
          go_quiet (fail)
          go_wp2
          go_roundw
          case rel => 
            refine ⟨k + 1, by omega, by go_num, ⟨?_⟩, ⟨?_⟩⟩
            · have hb : l[k] = l2[k] := bytes_eq.1 hb
              rw [List.take_succ_eq_append_getElem hlt, List.take_succ_eq_append_getElem hlt2, HK.out, hb]
            · exact below_drewN HB.out _
          case measure => simp [intOf]; omega
        · have HN := Hd.mk (eqv_at k hlt hlt2 (fun h => by rw [h] at hb; simp at hb))
          go_wp2
          go_quiet (fail)
          go_wp2
          go_ret
          exact ⟨by rw [HN.out]; rfl, below_drewN HB.out _⟩
      · obtain rfl : k = l.length := by omega
        go_wp2
        go_ret
        have h1 := HK.out
        rw [List.take_length, HL.out, List.take_length] at h1
        exact ⟨by rw [eqv_iff.2 h1]; rfl, HB.out⟩
  · have hd : ((l.length : Int) != l2.length) = true := by simp; omega
    have HN := Hd.mk (eqv_len hlen)
    go_wp2
    go_ret
    exact ⟨by rw [HN.out]; rfl, Below.refl _ _⟩
def AlikeC (m : Nat) : Prop := ∀ (x y : J) (cs cs2 : List Value) (w : World), (tJ m).K w x cs → (tJ m).K w y cs2 →
  Calls Try.prog 36 #[.agg cs.toArray, .agg cs2.toArray] w fun e w' => e = .returned (.bool (eqv x y)) ∧ Below w.heap.size w w'
set_option maxRecDepth 100000 in
theorem slices_EqualFunc_alike {m : Nat} (ih : AlikeC m) (A A2 : Option Addr) (c c2 : Nat) (l l2 : List J) (w : World) (hr : (tJ m).C w A l) (hr2 : (tJ m).C w A2 l2) :
    Calls Try.prog 74 #[.slice A l.length c, .slice A2 l2.length c2, .func (.func 36) #[] #[]] w fun e w' => e = .returned (.bool (eqv l l2)) ∧ Below w.heap.size w w' := by
  have hm := hr.1
  have hm2 := hr2.1
  go_enter Try.func74, Try.ntmps74
  by_cases hlen : l.length = l2.length
  · have hd : ((l.length : Int) != l2.length) = false := by simp [hlen]
    have HL := Hd.mk hlen
    have HC := Hd.mk hr
    have HC2 := Hd.mk hr2
    clear hr hr2 hlen
    go_wp2_with fail
    go_loopw [17] (fun i wr => ∃ k : Nat, k ≤ l.length ∧ i = .int .i64 k ∧ Hd (l.take k = l2.take k) ∧ Hd (Below w.heap.size w wr)) (fun i _ => l.length - (intOf i).toNat)
    case atStart => exact ⟨0, Nat.zero_le _, rfl, ⟨rfl⟩, ⟨Below.refl _ _⟩⟩
    case round =>
      obtain ⟨k, hk, rfl, HK1, HB⟩ := hrel
      by_cases hlt : k < l.length
      · have hlt2 : k < l2.length := by have := HL.out; omega
        obtain ⟨m, rfl⟩ : ∃ m1 : Nat, m = m1 + 1 := by
          cases m with
          | zero => obtain ⟨_, _, _, h, _⟩ := C_at HC.out (Below.refl _ _) k hlt; exact h.elim
          | succ m => exact ⟨m, rfl⟩
        obtain ⟨ad, A3, c3, A4, c4, rfl, x0, x1, x2, x3, x4, hs4, hr3, hr4⟩ := C_J_at HC.out HB.out k hlt
        have HK4 := Hd.mk (tJ_K.2 ⟨A3, c3, A4, c4, rfl, hs4, hr3, hr4⟩ : (tJ (m + 1)).K wr l[k] _)
        obtain ⟨ad2, A5, c5, A6, c6, rfl, y0, y1, y2, y3, y4, hs5, hr5, hr6⟩ := C_J_at HC2.out HB.out k hlt2
        have HK5 := Hd.mk (tJ_K.2 ⟨A5, c5, A6, c6, rfl, hs5, hr5, hr6⟩ : (tJ (m + 1)).K wr l2[k] _)
        clear hr3 hr4 hr5 hr6
        have z0 := fun o => cell_below (below_alloc (Below.refl _ _) o) y0
        have z1 := fun o => cell_below (below_alloc (Below.refl _ _) o) y1
        have z2 := fun o => cell_below (below_alloc (Below.refl _ _) o) y2
        have z3 := fun o => cell_below (below_alloc (Below.refl _ _) o) y3
        have z4 := fun o => cell_below (below_alloc (Below.refl _ _) o) y4
        go_wp2_with fail
        apply calls_gen; intro W hW
        have hX : Below wr.heap.size wr W := by rw [hW]; (repeat (with_reducible refine below_alloc ?_ _)); exact Below.refl _ _
        clear hW
        refine (ih l[k] l2[k] _ _ W ((tJ (m + 1)).K_below hX HK4.out) ((tJ (m + 1)).K_below hX HK5.out)).mono ?_
        rintro e w1 ⟨rfl, hB1⟩
        have hB2 := below_then HB.out (below_then hX hB1)
        clear hX hB1
        cases hb : eqv l[k] l2[k]
        · have HN := Hd.mk (eqv_at k hlt hlt2 (fun h => by rw [h, eqv_self] at hb; cases hb))
          go_wp2_with fail
          go_ret
          exact ⟨by rw [HN.out]; rfl, hB2⟩
        · have HE := Hd.mk (eqv_iff.1 hb)
          go_wp2_with fail
          go_roundw
          case rel =>
            refine ⟨k + 1, by omega, by go_num, ⟨?_⟩, ⟨hB2⟩⟩
            rw [List.take_succ_eq_append_getElem hlt, List.take_succ_eq_append_getElem hlt2, HK1.out, HE.out]
          case measure => simp [intOf]; omega
      · obtain rfl : k = l.length := by omega
        go_wp2_with fail
        go_ret
        have h1 := HK1.out
        rw [List.take_length, HL.out, List.take_length] at h1
        exact ⟨by rw [eqv_iff.2 h1]; rfl, HB.out⟩
  · have hd : ((l.length : Int) != l2.length) = true := by simp; omega
    have HN := Hd.mk (eqv_len hlen)
    go_wp2_with fail
    go_ret
    exact ⟨by rw [HN.out]; rfl, Below.refl _ _⟩
set_option maxRecDepth 100000 in
theorem impl_alike_of {m : Nat} (ih : AlikeC m) : AlikeC (m + 1) := by
  intro x y cs cs2 w hk hk2
  have HK := Hd.mk hk
  have HKb := Hd.mk hk2
  obtain ⟨A1, c1, A2, c2, rfl, hs, ⟨hc1, hr1⟩, hc2, hr2⟩ := tJ_K.1 hk
  obtain ⟨Ab1, cb1, Ab2, cb2, rfl, hsb, ⟨hcb1, hrb1⟩, hcb2, hrb2⟩ := tJ_K.1 hk2
  clear hk hk2
  have hm1 := hr1.1
  have hm2 := hr2.1
  have hmb1 := hrb1.1
  have hmb2 := hrb2.1
  have HR1 := Hd.mk hr1; clear hr1
  have HR2 := Hd.mk hr2; clear hr2
  have HRb1 := Hd.mk hrb1; clear hrb1
  have HRb2 := Hd.mk hrb2; clear hrb2
  have hB := Hd.mk (show Below w.heap.size w ((w.alloc (Obj.cells #[Value.int IntKind.i64 x.kind, Value.int IntKind.i64 x.n, Value.string x.s, Value.slice A1 x.list.length c1, Value.slice A2 x.names.length c2] 27)).alloc (Obj.cells #[Value.int IntKind.i64 y.kind, Value.int IntKind.i64 y.n, Value.string y.s, Value.slice Ab1 y.list.length cb1, Value.slice Ab2 y.names.length cb2] 27)) from below_alloc (below_alloc (Below.refl _ _) _) _)
  have b0 : Blk ((w.alloc (Obj.cells #[Value.int IntKind.i64 x.kind, Value.int IntKind.i64 x.n, Value.string x.s, Value.slice A1 x.list.length c1, Value.slice A2 x.names.length c2] 27)).alloc (Obj.cells #[Value.int IntKind.i64 y.kind, Value.int IntKind.i64 y.n, Value.string y.s, Value.slice Ab1 y.list.length cb1, Value.slice Ab2 y.names.length cb2] 27)) w.heap.size #[Value.int IntKind.i64 x.kind, Value.int IntKind.i64 x.n, Value.string x.s, Value.slice A1 x.list.length c1, Value.slice A2 x.names.length c2] 27 := (Blk.new w _ _).alloc _
  have b1 : Blk ((w.alloc (Obj.cells #[Value.int IntKind.i64 x.kind, Value.int IntKind.i64 x.n, Value.string x.s, Value.slice A1 x.list.length c1, Value.slice A2 x.names.length c2] 27)).alloc (Obj.cells #[Value.int IntKind.i64 y.kind, Value.int IntKind.i64 y.n, Value.string y.s, Value.slice Ab1 y.list.length cb1, Value.slice Ab2 y.names.length cb2] 27)) (w.heap.size + 1) #[Value.int IntKind.i64 y.kind, Value.int IntKind.i64 y.n, Value.string y.s, Value.slice Ab1 y.list.length cb1, Value.slice Ab2 y.names.length cb2] 27 := Blk.new1 w _ _ _
  go_enter Try.func36, Try.ntmps36
  cases h0 : (x.kind == y.kind)
  · have HN := Hd.mk (eqv_no (a := x) (b := y) (fun h => by rw [h] at h0; simp at h0))
    go_wp2_with fail
    go_ret
    exact ⟨by rw [HN.out]; rfl, by exact hB.out⟩
  cases h1 : (x.n == y.n)
  · have HN := Hd.mk (eqv_no (a := x) (b := y) (fun h => by rw [h] at h1; simp at h1))
    go_wp2_with fail
    go_ret
    exact ⟨by rw [HN.out]; rfl, by exact hB.out⟩
  cases h2 : (x.s.toList == y.s.toList)
  · have HN := Hd.mk (eqv_no (a := x) (b := y) (fun h => by rw [h] at h2; simp at h2))
    go_wp2_with fail
    go_ret
    exact ⟨by rw [HN.out]; rfl, by exact hB.out⟩
  go_wp2_with fail
  apply calls_gen; intro W0 hW
  replace b0 : Blk W0 w.heap.size #[Value.int IntKind.i64 x.kind, Value.int IntKind.i64 x.n, Value.string x.s, Value.slice A1 x.list.length c1, Value.slice A2 x.names.length c2] 27 := by rw [hW]; exact b0
  replace b1 : Blk W0 (w.heap.size + 1) #[Value.int IntKind.i64 y.kind, Value.int IntKind.i64 y.n, Value.string y.s, Value.slice Ab1 y.list.length cb1, Value.slice Ab2 y.names.length cb2] 27 := by rw [hW]; exact b1
  replace hB : Hd (Below w.heap.size w W0) := by rw [hW]; exact hB
  clear hW
  refine (slices_Equal_str _ _ _ _ x.names y.names _ (C_below HR2.out hB.out) (C_below HRb2.out hB.out)).mono ?_
  rintro e w1 ⟨rfl, hX⟩
  replace b0 := b0.below hX
  replace b1 := b1.below hX
  replace hB := Hd.mk (below_then hB.out hX)
  clear hX
  have p3 : w1.cell? ⟨w.heap.size, 3, none⟩ = some (Value.slice A1 x.list.length c1) := b0.cell 3 rfl
  have q3 : w1.cell? ⟨w.heap.size + 1, 3, none⟩ = some (Value.slice Ab1 y.list.length cb1) := b1.cell 3 rfl
  cases h4 : eqv x.names y.names
  · have HN := Hd.mk (eqv_no (a := x) (b := y) (fun h => by rw [h, eqv_self] at h4; cases h4))
    go_wp2_with fail
    go_ret
    exact ⟨by rw [HN.out]; rfl, hB.out⟩
  go_wp2_with fail
  refine (slices_EqualFunc_alike ih _ _ _ _ x.list y.list _ (C_below HR1.out hB.out) (C_below HRb1.out hB.out)).mono ?_
  rintro e w2 ⟨rfl, hX⟩
  replace hB := Hd.mk (below_then hB.out hX)
  clear hX
  have HE := Hd.mk (show eqv x y = eqv x.list y.list by
    cases h3 : eqv x.list y.list
    · exact eqv_no (fun h => by rw [h, eqv_self] at h3; cases h3)
    · exact eqv_iff.2 (J_ext (by simpa using h0) (by simpa using h1) (bytes_eq.1 h2) (eqv_iff.1 h3) (eqv_iff.1 h4)))
  go_wp2_with fail
  go_ret
  exact ⟨by rw [HE.out]; rfl, hB.out⟩
theorem alike_all : ∀ m, AlikeC m
  | 0 => fun _ _ _ _ _ hk => hk.elim
  | m + 1 => impl_alike_of (alike_all m)
def SameC (m : Nat) : Prop := ∀ (x y : J) (cs cs2 : List Value) (w : World), (tJ m).K w x cs → (tJ m).K w y cs2 →
  Calls Try.prog 37 #[.agg cs.toArray, .agg cs2.toArray] w fun e w' => e = .returned (.bool (eqv x y)) ∧ Below w.heap.size w w'
set_option maxRecDepth 100000 in
theorem spec_l1Same_of {m : Nat} (ih : SameC m) : SameC (m + 1) := by
  intro x y cs cs2 w hk hk2
  have HK := Hd.mk hk
  have HKb := Hd.mk hk2
  obtain ⟨A1, c1, A2, c2, rfl, hs, ⟨hc1, hr1⟩, hc2, hr2⟩ := tJ_K.1 hk
  obtain ⟨Ab1, cb1, Ab2, cb2, rfl, hsb, ⟨hcb1, hrb1⟩, hcb2, hrb2⟩ := tJ_K.1 hk2
  clear hk hk2
  have hm1 := hr1.1
  have hm2 := hr2.1
  have hmb1 := hrb1.1
  have hmb2 := hrb2.1
  have HR1 := Hd.mk hr1; clear hr1
  have HR2 := Hd.mk hr2; clear hr2
  have HRb1 := Hd.mk hrb1; clear hrb1
  have HRb2 := Hd.mk hrb2; clear hrb2
  have hB := Hd.mk (show Below w.heap.size w ((w.alloc (Obj.cells #[Value.int IntKind.i64 x.kind, Value.int IntKind.i64 x.n, Value.string x.s, Value.slice A1 x.list.length c1, Value.slice A2 x.names.length c2] 27)).alloc (Obj.cells #[Value.int IntKind.i64 y.kind, Value.int IntKind.i64 y.n, Value.string y.s, Value.slice Ab1 y.list.length cb1, Value.slice Ab2 y.names.length cb2] 27)) from below_alloc (below_alloc (Below.refl _ _) _) _)
  have b0 : Blk ((w.alloc (Obj.cells #[Value.int IntKind.i64 x.kind, Value.int IntKind.i64 x.n, Value.string x.s, Value.slice A1 x.list.length c1, Value.slice A2 x.names.length c2] 27)).alloc (Obj.cells #[Value.int IntKind.i64 y.kind, Value.int IntKind.i64 y.n, Value.string y.s, Value.slice Ab1 y.list.length cb1, Value.slice Ab2 y.names.length cb2] 27)) w.heap.size #[Value.int IntKind.i64 x.kind, Value.int IntKind.i64 x.n, Value.string x.s, Value.slice A1 x.list.length c1, Value.slice A2 x.names.length c2] 27 := (Blk.new w _ _).alloc _
  have b1 : Blk ((w.alloc (Obj.cells #[Value.int IntKind.i64 x.kind, Value.int IntKind.i64 x.n, Value.string x.s, Value.slice A1 x.list.length c1, Value.slice A2 x.names.length c2] 27)).alloc (Obj.cells #[Value.int IntKind.i64 y.kind, Value.int IntKind.i64 y.n, Value.string y.s, Value.slice Ab1 y.list.length cb1, Value.slice Ab2 y.names.length cb2] 27)) (w.heap.size + 1) #[Value.int IntKind.i64 y.kind, Value.int IntKind.i64 y.n, Value.string y.s, Value.slice Ab1 y.list.length cb1, Value.slice Ab2 y.names.length cb2] 27 := Blk.new1 w _ _ _
  go_enter Try.func37, Try.ntmps37
  cases h0 : (x.kind != y.kind)
  case true =>
    have HN := Hd.mk (eqv_no (a := x) (b := y) (fun h => by rw [h] at h0; simp at h0))
    go_wp2_with fail
    go_ret
    exact ⟨by rw [HN.out]; rfl, by exact hB.out⟩
  cases h1 : (x.n != y.n)
  case true =>
    have HN := Hd.mk (eqv_no (a := x) (b := y) (fun h => by rw [h] at h1; simp at h1))
    go_wp2_with fail
    go_ret
    exact ⟨by rw [HN.out]; rfl, by exact hB.out⟩
  cases h2 : (x.s.toList == y.s.toList)
  · have HN := Hd.mk (eqv_no (a := x) (b := y) (fun h => by rw [h] at h2; simp at h2))
    go_wp2_with fail
    go_ret
    exact ⟨by rw [HN.out]; rfl, by exact hB.out⟩
  by_cases hl : x.list.length = y.list.length
  rotate_left
  · have hd : ((x.list.length : Int) != y.list.length) = true := by simp; omega
    have HN := Hd.mk (eqv_no (a := x) (b := y) (fun h => by rw [h] at hl; exact hl rfl))
    go_wp2_with fail
    go_ret
    exact ⟨by rw [HN.out]; rfl, by exact hB.out⟩
  have hd : ((x.list.length : Int) != y.list.length) = false := by simp [hl]
  have HL := Hd.mk hl; clear hl
  by_cases hn : x.names.length = y.names.length
  rotate_left
  · have hd2 : ((x.names.length : Int) != y.names.length) = true := by simp; omega
    have HN := Hd.mk (eqv_no (a := x) (b := y) (fun h => by rw [h] at hn; exact hn rfl))
    go_wp2_with fail
    go_ret
    exact ⟨by rw [HN.out]; rfl, by exact hB.out⟩
  have hd2 : ((x.names.length : Int) != y.names.length) = false := by simp [hn]
  have HM := Hd.mk hn; clear hn
  have HE := Hd.mk (show x.list = y.list → x.names = y.names → eqv x y = true from fun e3 e4 => eqv_iff.2 (J_ext (by simpa using h0) (by simpa using h1) (bytes_eq.1 h2) e3 e4))
  go_wp2_with fail
  clear h0 h1 h2 hd hd2
  go_loopw [5] (fun i wr => ∃ k : Nat, k ≤ x.list.length ∧ i = .int .i64 k ∧ Hd (x.list.take k = y.list.take k) ∧ Hd (Below w.heap.size w wr) ∧ Blk wr w.heap.size #[Value.int IntKind.i64 x.kind, Value.int IntKind.i64 x.n, Value.string x.s, Value.slice A1 x.list.length c1, Value.slice A2 x.names.length c2] 27 ∧ Blk wr (w.heap.size + 1) #[Value.int IntKind.i64 y.kind, Value.int IntKind.i64 y.n, Value.string y.s, Value.slice Ab1 y.list.length cb1, Value.slice Ab2 y.names.length cb2] 27) (fun i _ => x.list.length - (intOf i).toNat)
  case atStart => exact ⟨0, Nat.zero_le _, rfl, ⟨rfl⟩, hB, b0, b1⟩
  case round =>
    clear hB b0 b1
    obtain ⟨k, hk, rfl, HK1, hB, b0, b1⟩ := hrel
    have p3 : wr.cell? ⟨w.heap.size, 3, none⟩ = some (Value.slice A1 x.list.length c1) := b0.cell 3 rfl
    have q3 : wr.cell? ⟨w.heap.size + 1, 3, none⟩ = some (Value.slice Ab1 y.list.length cb1) := b1.cell 3 rfl
    have p4 : wr.cell? ⟨w.heap.size, 4, none⟩ = some (Value.slice A2 x.names.length c2) := b0.cell 4 rfl
    have q4 : wr.cell? ⟨w.heap.size + 1, 4, none⟩ = some (Value.slice Ab2 y.names.length cb2) := b1.cell 4 rfl
    by_cases hlt : k < x.list.length
    · have hlt2 : k < y.list.length := by have := HL.out; omega
      obtain ⟨m, rfl⟩ : ∃ m1 : Nat, m = m1 + 1 := by
        cases m with
        | zero => obtain ⟨_, _, _, h, _⟩ := C_at HR1.out (Below.refl _ _) k hlt; exact h.elim
        | succ m => exact ⟨m, rfl⟩
      obtain ⟨ad, A3, c3, A4, c4, rfl, x0, x1, x2, x3, x4, hs4, hr3, hr4⟩ := C_J_at HR1.out hB.out k hlt
      have HK4 := Hd.mk (tJ_K.2 ⟨A3, c3, A4, c4, rfl, hs4, hr3, hr4⟩ : (tJ (m + 1)).K wr x.list[k] _)
      obtain ⟨ad2, A5, c5, A6, c6, rfl, y0, y1, y2, y3, y4, hs5, hr5, hr6⟩ := C_J_at HRb1.out hB.out k hlt2
      have HK5 := Hd.mk (tJ_K.2 ⟨A5, c5, A6, c6, rfl, hs5, hr5, hr6⟩ : (tJ (m + 1)).K wr y.list[k] _)
      clear hr3 hr4 hr5 hr6
      have ux0 := cell_regrown x0
      have ux1 := cell_regrown x1
      have ux2 := cell_regrown x2
      have ux3 := cell_regrown x3
      have ux4 := cell_regrown x4
      have uy0 := cell_regrown y0
      have uy1 := cell_regrown y1
      have uy2 := cell_regrown y2
      have uy3 := cell_regrown y3
      have uy4 := cell_regrown y4
      have up3 := cell_regrown p3
      have uq3 := cell_regrown q3
      go_wp2_with fail
      refine region_mix [(true, 0), (true, 1), (true, 2), (true, 3), (true, 4), (true, 5), (true, 6), (true, 7), (true, 8), (true, 9), (false, 10), (true, 11)] (by kernel_rfl) (by kernel_rfl) (fun _ _ _ _ _ h => h) ?_
      (repeat (first | (refine mix_z rfl (by rfl) ?_; go_big_quiet_skip; refine wpQuiet_nil ?_) | (refine mix_q rfl ?_; first | (go_big_quiet_skip; refine wpQuiet_nil ?_) | (go_big_quiet_want; go_big_quiet_op; go_big_quiet_on; refine wpQuiet_nil ?_))))
      refine mix_b rfl ?_ (by rfl)
      go_wp2_with fail
      apply calls_gen; intro W hW
      have hX : Below wr.heap.size wr W := by rw [hW]; exact below_drew (Below.refl _ _)
      clear hW
      refine (ih x.list[k] y.list[k] _ _ W ((tJ (m + 1)).K_below hX HK4.out) ((tJ (m + 1)).K_below hX HK5.out)).mono ?_
      rintro e w1 ⟨rfl, hB1⟩
      have hS := Hd.mk (below_then hX hB1)
      have hB2 := Hd.mk (below_then hB.out hS.out)
      have b02 := b0.below hS.out
      have b12 := b1.below hS.out
      clear hX hB1
      cases hb : eqv x.list[k] y.list[k]
      · have HN := Hd.mk (eqv_no (a := x) (b := y) (fun h => by have := eqv_at k hlt hlt2 (fun h => by rw [h, eqv_self] at hb; cases hb); rw [h, eqv_self] at this; cases this))
        go_wp2_with fail
        refine ⟨cls_below hS.out, ?_⟩
        (repeat (first | (refine mix_z rfl (by rfl) ?_; go_big_quiet_skip; refine wpQuiet_nil ?_) | (refine mix_q rfl ?_; first | (go_big_quiet_skip; refine wpQuiet_nil ?_) | (go_big_quiet_want; go_big_quiet_op; go_big_quiet_on; refine wpQuiet_nil ?_))))
        refine mix_nil ?_
        go_wp2_with fail
        go_ret
        exact ⟨by rw [HN.out]; rfl, hB2.out⟩
      · have HE2 := Hd.mk (eqv_iff.1 hb)
        go_wp2_with fail
        refine ⟨cls_below hS.out, ?_⟩
        (repeat (first | (refine mix_z rfl (by rfl) ?_; go_big_quiet_skip; refine wpQuiet_nil ?_) | (refine mix_q rfl ?_; first | (go_big_quiet_skip; refine wpQuiet_nil ?_) | (go_big_quiet_want; go_big_quiet_op; go_big_quiet_on; refine wpQuiet_nil ?_))))
        refine mix_nil ?_
        clear ux0 ux1 ux2 ux3 ux4 uy0 uy1 uy2 uy3 uy4 up3 uq3
        go_wp2_with fail
        go_roundw
        case rel =>
          refine ⟨k + 1, by omega, by go_num, ⟨?_⟩, hB2, b02, b12⟩
          rw [List.take_succ_eq_append_getElem hlt, List.take_succ_eq_append_getElem hlt2, HK1.out, HE2.out]
        case measure => simp [intOf]; omega
    · obtain rfl : k = x.list.length := by omega
      have HE3 := Hd.mk (show x.names = y.names → eqv x y = true from by
        have h1 := HK1.out
        rw [List.take_length, HL.out, List.take_length] at h1
        exact HE.out h1)
      go_wp2_with fail
      clear p3 p4 q3 q4
      go_loopw [6] (fun i w9 => ∃ k : Nat, k ≤ x.names.length ∧ i = .int .i64 k ∧ Hd (x.names.take k = y.names.take k) ∧ Hd (Below w.heap.size w w9) ∧ Blk w9 w.heap.size #[Value.int IntKind.i64 x.kind, Value.int IntKind.i64 x.n, Value.string x.s, Value.slice A1 x.list.length c1, Value.slice A2 x.names.length c2] 27 ∧ Blk w9 (w.heap.size + 1) #[Value.int IntKind.i64 y.kind, Value.int IntKind.i64 y.n, Value.string y.s, Value.slice Ab1 y.list.length cb1, Value.slice Ab2 y.names.length cb2] 27) (fun i _ => x.names.length - (intOf i).toNat)
      case atStart => exact ⟨0, Nat.zero_le _, rfl, ⟨rfl⟩, hB, b0, b1⟩
      case round =>
        clear hB b0 b1 HK1
        obtain ⟨k, hk, rfl, HK1, hB, b0, b1⟩ := hrel
        have p4 : wr.cell? ⟨w.heap.size, 4, none⟩ = some (Value.slice A2 x.names.length c2) := b0.cell 4 rfl
        have q4 : wr.cell? ⟨w.heap.size + 1, 4, none⟩ = some (Value.slice Ab2 y.names.length cb2) := b1.cell 4 rfl
        by_cases hlt : k < x.names.length
        · have hlt2 : k < y.names.length := by have := HM.out; omega
          obtain ⟨ad, rfl, hx, hsz⟩ := C_str_at HR2.out hB.out k hlt
          obtain ⟨ad2, rfl, hx2, hsz2⟩ := C_str_at HRb2.out hB.out k hlt2
          cases hb : (x.names[k].toList == y.names[k].toList)
          · have HN := Hd.mk (eqv_no (a := x) (b := y) (fun h => by have := eqv_at k hlt hlt2 (fun h9 => by rw [h9] at hb; simp at hb); rw [h, eqv_self] at this; cases this))
            go_wp2_with fail
            go_quiet (fail)
            go_wp2_with fail
            go_ret
            exact ⟨by rw [HN.out]; rfl, below_drewN hB.out _⟩
          · have HE2 := Hd.mk (bytes_eq.1 hb)
            go_wp2_with fail
            go_quiet (fail)
            go_wp2_with fail
            go_roundw
            case rel =>
              refine ⟨k + 1, by omega, by go_num, ⟨?_⟩, ⟨below_drewN hB.out _⟩, b0.drewN _, b1.drewN _⟩
              rw [List.take_succ_eq_append_getElem hlt, List.take_succ_eq_append_getElem hlt2, HK1.out, HE2.out]
            case measure => simp [intOf]; omega
        · obtain rfl : k = x.names.length := by omega
          have HN := Hd.mk (HE3.out (by
            have h1 := HK1.out
            rw [List.take_length, HM.out, List.take_length] at h1
            exact h1))
          go_wp2_with fail
          go_ret
          exact ⟨by rw [HN.out]; rfl, hB.out⟩
theorem same_all : ∀ m, SameC m
  | 0 => fun _ _ _ _ _ hk => hk.elim
  | m + 1 => spec_l1Same_of (same_all m)
noncomputable def jsonSame (x y : J) : Bool := jsonOk x && (jsonOk y && eqv x y)
set_option maxRecDepth 100000 in
theorem impl_JsonSame {m : Nat} (x y : J) (cs cs2 : List Value) (w : World) (hk : (tJ (m + 1)).K w x cs) (hk2 : (tJ (m + 1)).K w y cs2) :
    Calls Try.prog 9 #[.agg cs.toArray, .agg cs2.toArray] w fun e w' => e = .returned (.bool (jsonSame x y)) ∧ Below w.heap.size w w' := by
  have HK := Hd.mk hk
  have HKb := Hd.mk hk2
  obtain ⟨A1, c1, A2, c2, rfl, hs, ⟨hc1, hr1⟩, hc2, hr2⟩ := tJ_K.1 hk
  obtain ⟨Ab1, cb1, Ab2, cb2, rfl, hsb, ⟨hcb1, hrb1⟩, hcb2, hrb2⟩ := tJ_K.1 hk2
  clear hk hk2
  have hm1 := hr1.1
  have hm2 := hr2.1
  have hmb1 := hrb1.1
  have hmb2 := hrb2.1
  have HR1 := Hd.mk hr1; clear hr1
  have HR2 := Hd.mk hr2; clear hr2
  have HRb1 := Hd.mk hrb1; clear hrb1
  have HRb2 := Hd.mk hrb2; clear hrb2
  have hB := Hd.mk (show Below w.heap.size w ((w.alloc (Obj.cells #[Value.int IntKind.i64 x.kind, Value.int IntKind.i64 x.n, Value.string x.s, Value.slice A1 x.list.length c1, Value.slice A2 x.names.length c2] 27)).alloc (Obj.cells #[Value.int IntKind.i64 y.kind, Value.int IntKind.i64 y.n, Value.string y.s, Value.slice Ab1 y.list.length cb1, Value.slice Ab2 y.names.length cb2] 27)) from below_alloc (below_alloc (Below.refl _ _) _) _)
  have b0 : Blk ((w.alloc (Obj.cells #[Value.int IntKind.i64 x.kind, Value.int IntKind.i64 x.n, Value.string x.s, Value.slice A1 x.list.length c1, Value.slice A2 x.names.length c2] 27)).alloc (Obj.cells #[Value.int IntKind.i64 y.kind, Value.int IntKind.i64 y.n, Value.string y.s, Value.slice Ab1 y.list.length cb1, Value.slice Ab2 y.names.length cb2] 27)) w.heap.size #[Value.int IntKind.i64 x.kind, Value.int IntKind.i64 x.n, Value.string x.s, Value.slice A1 x.list.length c1, Value.slice A2 x.names.length c2] 27 := (Blk.new w _ _).alloc _
  have b1 : Blk ((w.alloc (Obj.cells #[Value.int IntKind.i64 x.kind, Value.int IntKind.i64 x.n, Value.string x.s, Value.slice A1 x.list.length c1, Value.slice A2 x.names.length c2] 27)).alloc (Obj.cells #[Value.int IntKind.i64 y.kind, Value.int IntKind.i64 y.n, Value.string y.s, Value.slice Ab1 y.list.length cb1, Value.slice Ab2 y.names.length cb2] 27)) (w.heap.size + 1) #[Value.int IntKind.i64 y.kind, Value.int IntKind.i64 y.n, Value.string y.s, Value.slice Ab1 y.list.length cb1, Value.slice Ab2 y.names.length cb2] 27 := Blk.new1 w _ _ _
  go_enter Try.func9, Try.ntmps9
  go_wp2_with fail
  apply calls_gen; intro W0 hW
  replace b0 : Blk W0 w.heap.size #[Value.int IntKind.i64 x.kind, Value.int IntKind.i64 x.n, Value.string x.s, Value.slice A1 x.list.length c1, Value.slice A2 x.names.length c2] 27 := by rw [hW]; exact b0
  replace b1 : Blk W0 (w.heap.size + 1) #[Value.int IntKind.i64 y.kind, Value.int IntKind.i64 y.n, Value.string y.s, Value.slice Ab1 y.list.length cb1, Value.slice Ab2 y.names.length cb2] 27 := by rw [hW]; exact b1
  replace hB : Hd (Below w.heap.size w W0) := by rw [hW]; exact hB
  clear hW
  refine (impl_JsonOk x _ W0 ((tJ (m + 1)).K_below hB.out HK.out)).mono ?_
  rintro e w1 ⟨rfl, hX⟩
  replace b0 := b0.below hX
  replace b1 := b1.below hX
  replace hB := Hd.mk (below_then hB.out hX)
  clear hX
  have p0 : w1.cell? ⟨w.heap.size, 0, none⟩ = some (Value.int IntKind.i64 x.kind) := b0.cell 0 rfl
  have q0 : w1.cell? ⟨w.heap.size + 1, 0, none⟩ = some (Value.int IntKind.i64 y.kind) := b1.cell 0 rfl
  have p1 : w1.cell? ⟨w.heap.size, 1, none⟩ = some (Value.int IntKind.i64 x.n) := b0.cell 1 rfl
  have q1 : w1.cell? ⟨w.heap.size + 1, 1, none⟩ = some (Value.int IntKind.i64 y.n) := b1.cell 1 rfl
  have p2 : w1.cell? ⟨w.heap.size, 2, none⟩ = some (Value.string x.s) := b0.cell 2 rfl
  have q2 : w1.cell? ⟨w.heap.size + 1, 2, none⟩ = some (Value.string y.s) := b1.cell 2 rfl
  have p3 : w1.cell? ⟨w.heap.size, 3, none⟩ = some (Value.slice A1 x.list.length c1) := b0.cell 3 rfl
  have q3 : w1.cell? ⟨w.heap.size + 1, 3, none⟩ = some (Value.slice Ab1 y.list.length cb1) := b1.cell 3 rfl
  have p4 : w1.cell? ⟨w.heap.size, 4, none⟩ = some (Value.slice A2 x.names.length c2) := b0.cell 4 rfl
  have q4 : w1.cell? ⟨w.heap.size + 1, 4, none⟩ = some (Value.slice Ab2 y.names.length cb2) := b1.cell 4 rfl
  cases h1 : jsonOk x
  · have HN := Hd.mk (show jsonSame x y = false by rw [jsonSame, h1]; rfl)
    go_wp2_with fail
    go_ret
    exact ⟨by rw [HN.out]; rfl, hB.out⟩
  have HE := Hd.mk (show jsonSame x y = (jsonOk y && eqv x y) by rw [jsonSame, h1]; rfl)
  clear h1
  go_wp2_with fail
  refine (impl_JsonOk y _ w1 ((tJ (m + 1)).K_below hB.out HKb.out)).mono ?_
  rintro e w2 ⟨rfl, hX⟩
  clear p0 p1 p2 p3 p4 q0 q1 q2 q3 q4
  replace b0 := b0.below hX
  replace b1 := b1.below hX
  replace hB := Hd.mk (below_then hB.out hX)
  clear hX
  have p0 : w2.cell? ⟨w.heap.size, 0, none⟩ = some (Value.int IntKind.i64 x.kind) := b0.cell 0 rfl
  have q0 : w2.cell? ⟨w.heap.size + 1, 0, none⟩ = some (Value.int IntKind.i64 y.kind) := b1.cell 0 rfl
  have p1 : w2.cell? ⟨w.heap.size, 1, none⟩ = some (Value.int IntKind.i64 x.n) := b0.cell 1 rfl
  have q1 : w2.cell? ⟨w.heap.size + 1, 1, none⟩ = some (Value.int IntKind.i64 y.n) := b1.cell 1 rfl
  have p2 : w2.cell? ⟨w.heap.size, 2, none⟩ = some (Value.string x.s) := b0.cell 2 rfl
  have q2 : w2.cell? ⟨w.heap.size + 1, 2, none⟩ = some (Value.string y.s) := b1.cell 2 rfl
  have p3 : w2.cell? ⟨w.heap.size, 3, none⟩ = some (Value.slice A1 x.list.length c1) := b0.cell 3 rfl
  have q3 : w2.cell? ⟨w.heap.size + 1, 3, none⟩ = some (Value.slice Ab1 y.list.length cb1) := b1.cell 3 rfl
  have p4 : w2.cell? ⟨w.heap.size, 4, none⟩ = some (Value.slice A2 x.names.length c2) := b0.cell 4 rfl
  have q4 : w2.cell? ⟨w.heap.size + 1, 4, none⟩ = some (Value.slice Ab2 y.names.length cb2) := b1.cell 4 rfl
  cases h1 : jsonOk y
  · have HN := Hd.mk (show jsonSame x y = false by rw [HE.out, h1]; rfl)
    go_wp2_with fail
    go_ret
    exact ⟨by rw [HN.out]; rfl, hB.out⟩
  replace HE := Hd.mk (show jsonSame x y = eqv x y by rw [HE.out, h1]; rfl)
  clear h1
  go_wp2_with fail
  refine (alike_all (m + 1) x y _ _ w2 ((tJ (m + 1)).K_below hB.out HK.out) ((tJ (m + 1)).K_below hB.out HKb.out)).mono ?_
  rintro e w3 ⟨rfl, hX⟩
  replace hB := Hd.mk (below_then hB.out hX)
  clear hX
  go_wp2_with fail
  go_ret
  exact ⟨by rw [HE.out]; rfl, hB.out⟩
set_option maxRecDepth 100000 in
theorem spec_JsonSame {m : Nat} (x y : J) (cs cs2 : List Value) (w : World) (hk : (tJ (m + 1)).K w x cs) (hk2 : (tJ (m + 1)).K w y cs2) :
    Calls Try.prog 10 #[.agg cs.toArray, .agg cs2.toArray] w fun e w' => e = .returned (.bool (jsonSame x y)) ∧ Below w.heap.size w w' := by
  have HK := Hd.mk hk
  have HKb := Hd.mk hk2
  obtain ⟨A1, c1, A2, c2, rfl, hs, ⟨hc1, hr1⟩, hc2, hr2⟩ := tJ_K.1 hk
  obtain ⟨Ab1, cb1, Ab2, cb2, rfl, hsb, ⟨hcb1, hrb1⟩, hcb2, hrb2⟩ := tJ_K.1 hk2
  clear hk hk2
  have hm1 := hr1.1
  have hm2 := hr2.1
  have hmb1 := hrb1.1
  have hmb2 := hrb2.1
  have HR1 := Hd.mk hr1; clear hr1
  have HR2 := Hd.mk hr2; clear hr2
  have HRb1 := Hd.mk hrb1; clear hrb1
  have HRb2 := Hd.mk hrb2; clear hrb2
  have hB := Hd.mk (show Below w.heap.size w ((w.alloc (Obj.cells #[Value.int IntKind.i64 x.kind, Value.int IntKind.i64 x.n, Value.string x.s, Value.slice A1 x.list.length c1, Value.slice A2 x.names.length c2] 27)).alloc (Obj.cells #[Value.int IntKind.i64 y.kind, Value.int IntKind.i64 y.n, Value.string y.s, Value.slice Ab1 y.list.length cb1, Value.slice Ab2 y.names.length cb2] 27)) from below_alloc (below_alloc (Below.refl _ _) _) _)
  have b0 : Blk ((w.alloc (Obj.cells #[Value.int IntKind.i64 x.kind, Value.int IntKind.i64 x.n, Value.string x.s, Value.slice A1 x.list.length c1, Value.slice A2 x.names.length c2] 27)).alloc (Obj.cells #[Value.int IntKind.i64 y.kind, Value.int IntKind.i64 y.n, Value.string y.s, Value.slice Ab1 y.list.length cb1, Value.slice Ab2 y.names.length cb2] 27)) w.heap.size #[Value.int IntKind.i64 x.kind, Value.int IntKind.i64 x.n, Value.string x.s, Value.slice A1 x.list.length c1, Value.slice A2 x.names.length c2] 27 := (Blk.new w _ _).alloc _
  have b1 : Blk ((w.alloc (Obj.cells #[Value.int IntKind.i64 x.kind, Value.int IntKind.i64 x.n, Value.string x.s, Value.slice A1 x.list.length c1, Value.slice A2 x.names.length c2] 27)).alloc (Obj.cells #[Value.int IntKind.i64 y.kind, Value.int IntKind.i64 y.n, Value.string y.s, Value.slice Ab1 y.list.length cb1, Value.slice Ab2 y.names.length cb2] 27)) (w.heap.size + 1) #[Value.int IntKind.i64 y.kind, Value.int IntKind.i64 y.n, Value.string y.s, Value.slice Ab1 y.list.length cb1, Value.slice Ab2 y.names.length cb2] 27 := Blk.new1 w _ _ _
  go_enter Try.func10, Try.ntmps10
  go_wp2_with fail
  apply calls_gen; intro W0 hW
  replace b0 : Blk W0 w.heap.size #[Value.int IntKind.i64 x.kind, Value.int IntKind.i64 x.n, Value.string x.s, Value.slice A1 x.list.length c1, Value.slice A2 x.names.length c2] 27 := by rw [hW]; exact b0
  replace b1 : Blk W0 (w.heap.size + 1) #[Value.int IntKind.i64 y.kind, Value.int IntKind.i64 y.n, Value.string y.s, Value.slice Ab1 y.list.length cb1, Value.slice Ab2 y.names.length cb2] 27 := by rw [hW]; exact b1
  replace hB : Hd (Below w.heap.size w W0) := by rw [hW]; exact hB
  clear hW
  refine (spec_JsonOk x _ W0 ((tJ (m + 1)).K_below hB.out HK.out)).mono ?_
  rintro e w1 ⟨rfl, hX⟩
  replace b0 := b0.below hX
  replace b1 := b1.below hX
  replace hB := Hd.mk (below_then hB.out hX)
  clear hX
  have p0 : w1.cell? ⟨w.heap.size, 0, none⟩ = some (Value.int IntKind.i64 x.kind) := b0.cell 0 rfl
  have q0 : w1.cell? ⟨w.heap.size + 1, 0, none⟩ = some (Value.int IntKind.i64 y.kind) := b1.cell 0 rfl
  have p1 : w1.cell? ⟨w.heap.size, 1, none⟩ = some (Value.int IntKind.i64 x.n) := b0.cell 1 rfl
  have q1 : w1.cell? ⟨w.heap.size + 1, 1, none⟩ = some (Value.int IntKind.i64 y.n) := b1.cell 1 rfl
  have p2 : w1.cell? ⟨w.heap.size, 2, none⟩ = some (Value.string x.s) := b0.cell 2 rfl
  have q2 : w1.cell? ⟨w.heap.size + 1, 2, none⟩ = some (Value.string y.s) := b1.cell 2 rfl
  have p3 : w1.cell? ⟨w.heap.size, 3, none⟩ = some (Value.slice A1 x.list.length c1) := b0.cell 3 rfl
  have q3 : w1.cell? ⟨w.heap.size + 1, 3, none⟩ = some (Value.slice Ab1 y.list.length cb1) := b1.cell 3 rfl
  have p4 : w1.cell? ⟨w.heap.size, 4, none⟩ = some (Value.slice A2 x.names.length c2) := b0.cell 4 rfl
  have q4 : w1.cell? ⟨w.heap.size + 1, 4, none⟩ = some (Value.slice Ab2 y.names.length cb2) := b1.cell 4 rfl
  cases h1 : jsonOk x
  · have HN := Hd.mk (show jsonSame x y = false by rw [jsonSame, h1]; rfl)
    go_wp2_with fail
    go_ret
    exact ⟨by rw [HN.out]; rfl, hB.out⟩
  have HE := Hd.mk (show jsonSame x y = (jsonOk y && eqv x y) by rw [jsonSame, h1]; rfl)
  clear h1
  go_wp2_with fail
  refine (spec_JsonOk y _ w1 ((tJ (m + 1)).K_below hB.out HKb.out)).mono ?_
  rintro e w2 ⟨rfl, hX⟩
  clear p0 p1 p2 p3 p4 q0 q1 q2 q3 q4
  replace b0 := b0.below hX
  replace b1 := b1.below hX
  replace hB := Hd.mk (below_then hB.out hX)
  clear hX
  have p0 : w2.cell? ⟨w.heap.size, 0, none⟩ = some (Value.int IntKind.i64 x.kind) := b0.cell 0 rfl
  have q0 : w2.cell? ⟨w.heap.size + 1, 0, none⟩ = some (Value.int IntKind.i64 y.kind) := b1.cell 0 rfl
  have p1 : w2.cell? ⟨w.heap.size, 1, none⟩ = some (Value.int IntKind.i64 x.n) := b0.cell 1 rfl
  have q1 : w2.cell? ⟨w.heap.size + 1, 1, none⟩ = some (Value.int IntKind.i64 y.n) := b1.cell 1 rfl
  have p2 : w2.cell? ⟨w.heap.size, 2, none⟩ = some (Value.string x.s) := b0.cell 2 rfl
  have q2 : w2.cell? ⟨w.heap.size + 1, 2, none⟩ = some (Value.string y.s) := b1.cell 2 rfl
  have p3 : w2.cell? ⟨w.heap.size, 3, none⟩ = some (Value.slice A1 x.list.length c1) := b0.cell 3 rfl
  have q3 : w2.cell? ⟨w.heap.size + 1, 3, none⟩ = some (Value.slice Ab1 y.list.length cb1) := b1.cell 3 rfl
  have p4 : w2.cell? ⟨w.heap.size, 4, none⟩ = some (Value.slice A2 x.names.length c2) := b0.cell 4 rfl
  have q4 : w2.cell? ⟨w.heap.size + 1, 4, none⟩ = some (Value.slice Ab2 y.names.length cb2) := b1.cell 4 rfl
  cases h1 : jsonOk y
  · have HN := Hd.mk (show jsonSame x y = false by rw [HE.out, h1]; rfl)
    go_wp2_with fail
    go_ret
    exact ⟨by rw [HN.out]; rfl, hB.out⟩
  replace HE := Hd.mk (show jsonSame x y = eqv x y by rw [HE.out, h1]; rfl)
  clear h1
  go_wp2_with fail
  refine (same_all (m + 1) x y _ _ w2 ((tJ (m + 1)).K_below hB.out HK.out) ((tJ (m + 1)).K_below hB.out HKb.out)).mono ?_
  rintro e w3 ⟨rfl, hX⟩
  replace hB := Hd.mk (below_then hB.out hX)
  clear hX
  go_wp2_with fail
  go_ret
  exact ⟨by rw [HE.out]; rfl, hB.out⟩
end Go.Proofs.Ytlkjpnlpankhpaa.X
