/- What is proved here: contracts of a value's depth. Conditions: none. -/
import Derived.Test.YtlkjpnlpankhpaaXGd
namespace Go.Proofs.Ytlkjpnlpankhpaa.X
open Go.RowKit Go.Sort
set_option linter.unusedVariables false
set_option linter.unusedSimpArgs false
open Ty
def maxN {α : Type} (f : α → Nat) : List α → Nat
  | [] => 0
  | x :: l => max (f x) (maxN f l)
theorem maxN_append {α : Type} (f : α → Nat) (l m : List α) : maxN f (l ++ m) = max (maxN f l) (maxN f m) := by
  induction l with
  | nil => simp [maxN]
  | cons x l ih => simp only [List.cons_append, maxN, ih]; omega
theorem maxN_take {α : Type} (f : α → Nat) (l : List α) (k : Nat) (hk : k < l.length) : maxN f (l.take (k + 1)) = max (maxN f (l.take k)) (f l[k]) := by
  rw [List.take_succ_eq_append_getElem hk, maxN_append]; simp [maxN]
theorem maxN_le {α : Type} (f : α → Nat) (b : Nat) (h : ∀ x, f x ≤ b) : ∀ l : List α, maxN f l ≤ b
  | [] => Nat.zero_le _
  | x :: l => by have := h x; have := maxN_le f b h l; simp only [maxN]; omega
def depthD : Nat → J → Nat
  | 0, _ => 0
  | d + 1, j => maxN (depthD d) j.list + 1
theorem depthD_le : ∀ (d : Nat) (j : J), depthD d j ≤ d
  | 0, _ => Nat.le_refl _
  | d + 1, j => by have := maxN_le (depthD d) d (depthD_le d) j.list; simp only [depthD]; omega
theorem sumZ_mem {α : Type} (f : α → Int) (h : ∀ x, 0 ≤ f x) {l : List α} {x : α} (hx : x ∈ l) : f x ≤ sumZ f l := by
  induction l with
  | nil => cases hx
  | cons y l ih =>
    simp only [sumZ]
    have h1 := h y
    have h2 := sumZ_pos f h l
    rcases List.mem_cons.1 hx with rfl | hx
    · omega
    · have := ih hx; omega
theorem size_part {d : Nat} {x y : J} (h : sizeN (d + 1) x ≤ 400) (hy : y ∈ x.list) : sizeN d y ≤ 400 := by
  have := sumZ_mem (sizeN d) (sizeN_pos d) hy
  unfold sizeN at h
  split at h <;> omega
def jsonDepth (x : J) : Int := if sizeN 6 x ≤ 400 then depthD 6 x else 0
theorem spec_l1Max (a b : Int) (w : World) : Calls Try.prog 78 #[.int .i64 a, .int .i64 b] w fun e w' => e = .returned (.int .i64 (max a b)) ∧ w = w' := by
  go_enter Try.func78, Try.ntmps78
  by_cases h : b < a
  · have hm : max a b = a := by omega
    have HM := Hd.mk hm; clear hm
    go_wp2
    go_ret; exact ⟨by rw [HM.out]; rfl, rfl⟩
  · have hm : max a b = b := by omega
    have HM := Hd.mk hm; clear hm
    go_wp2
    go_ret; exact ⟨by rw [HM.out]; rfl, rfl⟩
def DepthI (d : Nat) : Prop := ∀ (m : Nat) (x : J) (cs : List Value) (w : World), sizeN d x ≤ 400 → (tJ m).K w x cs →
  Calls Try.prog 40 #[.agg cs.toArray] w fun e w' => e = .returned (.int .i64 (depthD d x)) ∧ Below w.heap.size w w'
set_option maxRecDepth 100000 in
theorem impl_depthOf_of {d : Nat} (hd : d ≤ 6) (ih : DepthI d) : DepthI (d + 1) := by
  intro m x cs w hz hk
  cases m with
  | zero => exact hk.elim
  | succ m =>
  obtain ⟨A1, c1, A2, c2, rfl, hs, ⟨hc1, hr1⟩, hc2, hr2⟩ := tJ_K.1 hk
  clear hk
  have hm1 := hr1.1
  have HC := Hd.mk hr1; clear hr1 hr2
  have HZ := Hd.mk hz; clear hz
  have hB := Hd.mk (below_alloc (Below.refl w.heap.size w) (Obj.cells #[Value.int IntKind.i64 x.kind, Value.int IntKind.i64 x.n, Value.string x.s, Value.slice A1 x.list.length c1, Value.slice A2 x.names.length c2] 27))
  have b0 := Blk.new w #[Value.int IntKind.i64 x.kind, Value.int IntKind.i64 x.n, Value.string x.s, Value.slice A1 x.list.length c1, Value.slice A2 x.names.length c2] 27
  go_enter Try.func40, Try.ntmps40
  go_wp2_with fail
  go_loopw [3, 9] (fun v i wr => ∃ k : Nat, k ≤ x.list.length ∧ i = .int .i64 k ∧ v = .int .i64 (maxN (depthD d) (x.list.take k)) ∧ Hd (Below w.heap.size w wr) ∧ Blk wr w.heap.size #[Value.int IntKind.i64 x.kind, Value.int IntKind.i64 x.n, Value.string x.s, Value.slice A1 x.list.length c1, Value.slice A2 x.names.length c2] 27) (fun _ i _ => x.list.length - (intOf i).toNat)
  case atStart => exact ⟨0, Nat.zero_le _, rfl, rfl, hB, b0⟩
  case round =>
    clear hB b0
    obtain ⟨k, hk, rfl, rfl, hB, b0⟩ := hrel
    have hb := maxN_le (depthD d) d (depthD_le d) (x.list.take k)
    have f3 : wr.cell? ⟨w.heap.size, 3, none⟩ = some (Value.slice A1 x.list.length c1) := b0.cell 3 rfl
    by_cases hlt : k < x.list.length
    · obtain ⟨m, rfl⟩ : ∃ m1 : Nat, m = m1 + 1 := by
        cases m with
        | zero => obtain ⟨_, _, _, h, _⟩ := C_at HC.out (Below.refl _ _) k hlt; exact h.elim
        | succ m => exact ⟨m, rfl⟩
      obtain ⟨ad, A3, c3, A4, c4, rfl, x0, x1, x2, x3, x4, hs4, hr3, hr4⟩ := C_J_at HC.out hB.out k hlt
      have HK4 := Hd.mk (tJ_K.2 ⟨A3, c3, A4, c4, rfl, hs4, hr3, hr4⟩ : (tJ (m + 1)).K wr x.list[k] _)
      clear hr3 hr4
      have hb2 := depthD_le d x.list[k]
      have HT := Hd.mk (maxN_take (depthD d) x.list k hlt)
      have HP := Hd.mk (size_part HZ.out (List.getElem_mem hlt))
      go_wp2_with fail
      apply calls_gen; intro W hW
      have hX : Below wr.heap.size wr W := by rw [hW]; (repeat (with_reducible refine below_alloc ?_ _)); exact Below.refl _ _
      clear hW
      refine (ih (m + 1) x.list[k] _ W HP.out ((tJ (m + 1)).K_below hX HK4.out)).mono ?_
      rintro e w2 ⟨rfl, hX2⟩
      have b02 := b0.below (below_then hX hX2)
      have hB2 := Hd.mk (below_then hB.out (below_then hX hX2))
      clear hX hX2
      go_wp2_with fail
      go_roundw
      case rel => exact ⟨k + 1, by omega, by go_num, by rw [HT.out]; (try simp); split <;> omega, hB2, b02⟩
      case measure => simp [intOf]; omega
    · obtain rfl : k = x.list.length := by omega
      have hb9 := maxN_le (depthD d) d (depthD_le d) x.list
      have HN := Hd.mk (show ((depthD (d + 1) x : Nat) : Int) = (maxN (depthD d) x.list : Nat) + 1 from rfl)
      go_wp2_with fail
      go_ret
      exact ⟨by rw [HN.out]; rfl, hB.out⟩
theorem impl_depthOf_all : ∀ d, d ≤ 7 → DepthI d
  | 0, _ => fun _ _ _ _ h => by simp [sizeN] at h
  | d + 1, h => impl_depthOf_of (by omega) (impl_depthOf_all d (by omega))
def DepthS (d : Nat) : Prop := ∀ (m : Nat) (x : J) (cs : List Value) (w : World), sizeN d x ≤ 400 → (tJ m).K w x cs →
  Calls Try.prog 41 #[.agg cs.toArray] w fun e w' => e = .returned (.int .i64 (depthD d x)) ∧ Below w.heap.size w w'
set_option maxRecDepth 100000 in
theorem spec_l1Depth_of {d : Nat} (hd : d ≤ 6) (ih : DepthS d) : DepthS (d + 1) := by
  intro m x cs w hz hk
  cases m with
  | zero => exact hk.elim
  | succ m =>
  obtain ⟨A1, c1, A2, c2, rfl, hs, ⟨hc1, hr1⟩, hc2, hr2⟩ := tJ_K.1 hk
  clear hk
  have hm1 := hr1.1
  have HC := Hd.mk hr1; clear hr1 hr2
  have HZ := Hd.mk hz; clear hz
  have hB := Hd.mk (below_alloc (Below.refl w.heap.size w) (Obj.cells #[Value.int IntKind.i64 x.kind, Value.int IntKind.i64 x.n, Value.string x.s, Value.slice A1 x.list.length c1, Value.slice A2 x.names.length c2] 27))
  have b0 := Blk.new w #[Value.int IntKind.i64 x.kind, Value.int IntKind.i64 x.n, Value.string x.s, Value.slice A1 x.list.length c1, Value.slice A2 x.names.length c2] 27
  go_enter Try.func41, Try.ntmps41
  go_wp2_with fail
  go_loopw [3, 4] (fun v i wr => ∃ k : Nat, k ≤ x.list.length ∧ i = .int .i64 k ∧ v = .int .i64 (maxN (depthD d) (x.list.take k)) ∧ Hd (Below w.heap.size w wr) ∧ Blk wr w.heap.size #[Value.int IntKind.i64 x.kind, Value.int IntKind.i64 x.n, Value.string x.s, Value.slice A1 x.list.length c1, Value.slice A2 x.names.length c2] 27) (fun _ i _ => x.list.length - (intOf i).toNat)
  case atStart => exact ⟨0, Nat.zero_le _, rfl, rfl, hB, b0⟩
  case round =>
    clear hB b0
    obtain ⟨k, hk, rfl, rfl, hB, b0⟩ := hrel
    have hb := maxN_le (depthD d) d (depthD_le d) (x.list.take k)
    have f3 : wr.cell? ⟨w.heap.size, 3, none⟩ = some (Value.slice A1 x.list.length c1) := b0.cell 3 rfl
    by_cases hlt : k < x.list.length
    · obtain ⟨m, rfl⟩ : ∃ m1 : Nat, m = m1 + 1 := by
        cases m with
        | zero => obtain ⟨_, _, _, h, _⟩ := C_at HC.out (Below.refl _ _) k hlt; exact h.elim
        | succ m => exact ⟨m, rfl⟩
      obtain ⟨ad, A3, c3, A4, c4, rfl, x0, x1, x2, x3, x4, hs4, hr3, hr4⟩ := C_J_at HC.out hB.out k hlt
      have HK4 := Hd.mk (tJ_K.2 ⟨A3, c3, A4, c4, rfl, hs4, hr3, hr4⟩ : (tJ (m + 1)).K wr x.list[k] _)
      clear hr3 hr4
      have hb2 := depthD_le d x.list[k]
      have HT := Hd.mk (maxN_take (depthD d) x.list k hlt)
      have HP := Hd.mk (size_part HZ.out (List.getElem_mem hlt))
      go_wp2_with fail
      apply calls_gen; intro W hW
      have hX : Below wr.heap.size wr W := by rw [hW]; (repeat (with_reducible refine below_alloc ?_ _)); exact Below.refl _ _
      clear hW
      refine (ih (m + 1) x.list[k] _ W HP.out ((tJ (m + 1)).K_below hX HK4.out)).mono ?_
      rintro e w2 ⟨rfl, hX2⟩
      have b02 := b0.below (below_then hX hX2)
      have hB2 := Hd.mk (below_then hB.out (below_then hX hX2))
      clear hX hX2
      go_wp2_with fail
      refine (spec_l1Max _ _ _).mono ?_
      rintro e w3 ⟨rfl, rfl⟩
      go_wp2_with fail
      go_roundw
      case rel => exact ⟨k + 1, by omega, by go_num, by rw [HT.out]; first | rfl | (simp; omega) | simp, hB2, b02⟩
      case measure => simp [intOf]; omega
    · obtain rfl : k = x.list.length := by omega
      have hb9 := maxN_le (depthD d) d (depthD_le d) x.list
      have HN := Hd.mk (show ((depthD (d + 1) x : Nat) : Int) = (maxN (depthD d) x.list : Nat) + 1 from rfl)
      go_wp2_with fail
      go_ret
      exact ⟨by rw [HN.out]; rfl, hB.out⟩
theorem spec_l1Depth_all : ∀ d, d ≤ 7 → DepthS d
  | 0, _ => fun _ _ _ _ h => by simp [sizeN] at h
  | d + 1, h => spec_l1Depth_of (by omega) (spec_l1Depth_all d (by omega))
set_option maxRecDepth 100000 in
theorem impl_JsonDepth {m : Nat} (x : J) (cs : List Value) (w : World) (hk : (tJ (m + 1)).K w x cs) :
    Calls Try.prog 14 #[.agg cs.toArray] w fun e w' => e = .returned (.int .i64 (jsonDepth x)) ∧ Below w.heap.size w w' := by
  have HK := Hd.mk hk
  obtain ⟨A1, c1, A2, c2, rfl, hs, ⟨hc1, hr1⟩, hc2, hr2⟩ := tJ_K.1 hk
  clear hk hr1 hr2
  have b0 := Blk.new w #[Value.int IntKind.i64 x.kind, Value.int IntKind.i64 x.n, Value.string x.s, Value.slice A1 x.list.length c1, Value.slice A2 x.names.length c2] 27
  have hB0 := Hd.mk (below_alloc (Below.refl w.heap.size w) (Obj.cells #[Value.int IntKind.i64 x.kind, Value.int IntKind.i64 x.n, Value.string x.s, Value.slice A1 x.list.length c1, Value.slice A2 x.names.length c2] 27))
  go_enter Try.func14, Try.ntmps14
  go_wp2_with fail
  apply calls_gen; intro W hW
  have hX : Below w.heap.size w W := by rw [hW]; exact hB0.out
  replace b0 : Blk W w.heap.size #[Value.int IntKind.i64 x.kind, Value.int IntKind.i64 x.n, Value.string x.s, Value.slice A1 x.list.length c1, Value.slice A2 x.names.length c2] 27 := by rw [hW]; exact b0
  clear hW
  refine (impl_JsonOk x _ W ((tJ (m + 1)).K_below hX HK.out)).mono ?_
  rintro e w1 ⟨rfl, hX1⟩
  replace b0 := b0.below hX1
  have hB := Hd.mk (below_then hX hX1); clear hX hX1
  have f0 : w1.cell? ⟨w.heap.size, 0, none⟩ = some (Value.int IntKind.i64 x.kind) := b0.cell 0 rfl
  have f1 : w1.cell? ⟨w.heap.size, 1, none⟩ = some (Value.int IntKind.i64 x.n) := b0.cell 1 rfl
  have f2 : w1.cell? ⟨w.heap.size, 2, none⟩ = some (Value.string x.s) := b0.cell 2 rfl
  have f3 : w1.cell? ⟨w.heap.size, 3, none⟩ = some (Value.slice A1 x.list.length c1) := b0.cell 3 rfl
  have f4 : w1.cell? ⟨w.heap.size, 4, none⟩ = some (Value.slice A2 x.names.length c2) := b0.cell 4 rfl
  cases h1 : jsonOk x
  · have HE := Hd.mk (show jsonDepth x = 0 by rw [jsonDepth, if_neg (by simpa [jsonOk] using h1)])
    go_wp2_with fail
    go_ret
    exact ⟨by rw [HE.out]; rfl, hB.out⟩
  · have HF := Hd.mk (show sizeN 6 x ≤ 400 by simpa [jsonOk] using h1)
    have HE := Hd.mk (show jsonDepth x = depthD 6 x by rw [jsonDepth, if_pos HF.out])
    go_wp2_with fail
    refine (impl_depthOf_all 6 (by omega) (m + 1) x _ w1 HF.out ((tJ (m + 1)).K_below hB.out HK.out)).mono ?_
    rintro e w2 ⟨rfl, hX1⟩
    have hB2 := Hd.mk (below_then hB.out hX1); clear hX1
    go_wp2_with fail
    go_ret
    exact ⟨by rw [HE.out]; rfl, hB2.out⟩
set_option maxRecDepth 100000 in
theorem spec_JsonDepth {m : Nat} (x : J) (cs : List Value) (w : World) (hk : (tJ (m + 1)).K w x cs) :
    Calls Try.prog 16 #[.agg cs.toArray] w fun e w' => e = .returned (.int .i64 (jsonDepth x)) ∧ Below w.heap.size w w' := by
  have HK := Hd.mk hk
  obtain ⟨A1, c1, A2, c2, rfl, hs, ⟨hc1, hr1⟩, hc2, hr2⟩ := tJ_K.1 hk
  clear hk hr1 hr2
  have b0 := Blk.new w #[Value.int IntKind.i64 x.kind, Value.int IntKind.i64 x.n, Value.string x.s, Value.slice A1 x.list.length c1, Value.slice A2 x.names.length c2] 27
  have hB0 := Hd.mk (below_alloc (Below.refl w.heap.size w) (Obj.cells #[Value.int IntKind.i64 x.kind, Value.int IntKind.i64 x.n, Value.string x.s, Value.slice A1 x.list.length c1, Value.slice A2 x.names.length c2] 27))
  go_enter Try.func16, Try.ntmps16
  go_wp2_with fail
  apply calls_gen; intro W hW
  have hX : Below w.heap.size w W := by rw [hW]; exact hB0.out
  replace b0 : Blk W w.heap.size #[Value.int IntKind.i64 x.kind, Value.int IntKind.i64 x.n, Value.string x.s, Value.slice A1 x.list.length c1, Value.slice A2 x.names.length c2] 27 := by rw [hW]; exact b0
  clear hW
  refine (spec_JsonOk x _ W ((tJ (m + 1)).K_below hX HK.out)).mono ?_
  rintro e w1 ⟨rfl, hX1⟩
  replace b0 := b0.below hX1
  have hB := Hd.mk (below_then hX hX1); clear hX hX1
  have f0 : w1.cell? ⟨w.heap.size, 0, none⟩ = some (Value.int IntKind.i64 x.kind) := b0.cell 0 rfl
  have f1 : w1.cell? ⟨w.heap.size, 1, none⟩ = some (Value.int IntKind.i64 x.n) := b0.cell 1 rfl
  have f2 : w1.cell? ⟨w.heap.size, 2, none⟩ = some (Value.string x.s) := b0.cell 2 rfl
  have f3 : w1.cell? ⟨w.heap.size, 3, none⟩ = some (Value.slice A1 x.list.length c1) := b0.cell 3 rfl
  have f4 : w1.cell? ⟨w.heap.size, 4, none⟩ = some (Value.slice A2 x.names.length c2) := b0.cell 4 rfl
  cases h1 : jsonOk x
  · have HE := Hd.mk (show jsonDepth x = 0 by rw [jsonDepth, if_neg (by simpa [jsonOk] using h1)])
    go_wp2_with fail
    go_ret
    exact ⟨by rw [HE.out]; rfl, hB.out⟩
  · have HF := Hd.mk (show sizeN 6 x ≤ 400 by simpa [jsonOk] using h1)
    have HE := Hd.mk (show jsonDepth x = depthD 6 x by rw [jsonDepth, if_pos HF.out])
    go_wp2_with fail
    refine (spec_l1Depth_all 6 (by omega) (m + 1) x _ w1 HF.out ((tJ (m + 1)).K_below hB.out HK.out)).mono ?_
    rintro e w2 ⟨rfl, hX1⟩
    have hB2 := Hd.mk (below_then hB.out hX1); clear hX1
    go_wp2_with fail
    go_ret
    exact ⟨by rw [HE.out]; rfl, hB2.out⟩
end Go.Proofs.Ytlkjpnlpankhpaa.X
