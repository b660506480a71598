/- What is proved here: contracts of a value's size. Conditions: none. -/
import Derived.Test.YtlkjpnlpankhpaaXGa
namespace Go.Proofs.Ytlkjpnlpankhpaa.X
open Go.RowKit Go.Sort
set_option linter.unusedVariables false
set_option linter.unusedSimpArgs false
open Ty
def sumZ {α : Type} (f : α → Int) : List α → Int
  | [] => 0
  | x :: l => f x + sumZ f l
theorem sumZ_append {α : Type} (f : α → Int) (l m : List α) : sumZ f (l ++ m) = sumZ f l + sumZ f m := by
  induction l with
  | nil => simp [sumZ]
  | cons x l ih => simp only [List.cons_append, sumZ, ih]; omega
theorem sumZ_take {α : Type} (f : α → Int) (l : List α) (k : Nat) (hk : k < l.length) : sumZ f (l.take (k + 1)) = sumZ f (l.take k) + f l[k] := by
  rw [List.take_succ_eq_append_getElem hk, sumZ_append]; simp [sumZ]
theorem sumZ_pos {α : Type} (f : α → Int) (h : ∀ x, 0 ≤ f x) : ∀ l : List α, 0 ≤ sumZ f l
  | [] => Int.le_refl 0
  | x :: l => by have := h x; have := sumZ_pos f h l; simp only [sumZ]; omega
theorem sumZ_le {α : Type} (f : α → Int) (h : ∀ x, 0 ≤ f x) (l : List α) (k : Nat) : sumZ f (l.take k) ≤ sumZ f l := by
  have h1 := sumZ_append f (l.take k) (l.drop k)
  have h2 := sumZ_pos f h (l.drop k)
  rw [List.take_append_drop] at h1
  omega
/-- A value's size, at most so deep; 401 where it is not right. -/
def sizeN : Nat → J → Int
  | 0, _ => 401
  | d + 1, j => if ownB j = true ∧ 1 + sumZ (sizeN d) j.list ≤ 400 then 1 + sumZ (sizeN d) j.list else 401
theorem sizeN_bound : ∀ (d : Nat) (j : J), 1 ≤ sizeN d j ∧ sizeN d j ≤ 401
  | 0, j => by simp [sizeN]
  | d + 1, j => by
    have := sumZ_pos (sizeN d) (fun x => by have := (sizeN_bound d x).1; omega) j.list
    unfold sizeN
    split <;> omega
theorem sizeN_pos (d : Nat) (x : J) : 0 ≤ sizeN d x := by have := (sizeN_bound d x).1; omega
def SizeC (m : Nat) : Prop := ∀ (x : J) (cs : List Value) (d : Nat) (w : World), d ≤ 6 → (tJ m).K w x cs →
  Calls Try.prog 38 #[.agg cs.toArray, .int .i64 d] w fun e w' => e = .returned (.int .i64 (sizeN d x)) ∧ Below w.heap.size w w'
set_option maxRecDepth 100000 in
theorem impl_sizeIn_of {m : Nat} (ih : SizeC m) : SizeC (m + 1) := by
  intro x cs d w hd hk
  have HK := Hd.mk hk
  obtain ⟨A1, c1, A2, c2, rfl, hs, ⟨hc1, hr1⟩, hc2, hr2⟩ := tJ_K.1 hk
  clear hk
  have hm1 := hr1.1
  have HC := Hd.mk hr1; clear hr1 hr2
  have hB := Hd.mk (below_alloc (Below.refl w.heap.size w) (Obj.cells #[.int .i64 x.kind, .int .i64 x.n, .string x.s, .slice A1 x.list.length c1, .slice A2 x.names.length c2] 27))
  have b0 := Blk.new w #[Value.int IntKind.i64 x.kind, Value.int IntKind.i64 x.n, Value.string x.s, Value.slice A1 x.list.length c1, Value.slice A2 x.names.length c2] 27
  go_enter Try.func38, Try.ntmps38
  cases d with
  | zero =>
    go_wp2_with fail
    go_ret
    exact ⟨rfl, by exact hB.out⟩
  | succ d =>
    go_wp2_with fail
    generalize w.alloc (Obj.cells #[Value.int IntKind.i64 x.kind, Value.int IntKind.i64 x.n, Value.string x.s, Value.slice A1 x.list.length c1, Value.slice A2 x.names.length c2] 27) = W0 at hB b0 ⊢
    refine (impl_ownOk x _ _ ((tJ (m + 1)).K_below hB.out HK.out)).mono ?_
    rintro e w1 ⟨rfl, hX⟩
    replace b0 := b0.below hX
    replace hB := Hd.mk (below_then hB.out hX)
    clear hX
    have f3 : w1.cell? ⟨w.heap.size, 3, none⟩ = some (Value.slice A1 x.list.length c1) := b0.cell 3 rfl
    cases h1 : ownB x
    · have HE := Hd.mk (show sizeN (d + 1) x = 401 by simp [sizeN, h1])
      go_wp2_with fail
      go_ret
      exact ⟨by rw [HE.out]; rfl, hB.out⟩
    have HE := Hd.mk (show sizeN (d + 1) x = if 1 + sumZ (sizeN d) x.list ≤ 400 then 1 + sumZ (sizeN d) x.list else 401 by simp [sizeN, h1])
    clear h1
    go_wp2_with fail
    clear f3
    have hB := Hd.mk hB
    go_loopw [5, 18] (fun v i wr => ∃ k : Nat, k ≤ x.list.length ∧ i = .int .i64 k ∧ v = .int .i64 (1 + sumZ (sizeN d) (x.list.take k)) ∧ Hd (1 + sumZ (sizeN d) (x.list.take k) ≤ 400) ∧ Hd (Below w.heap.size w wr)) (fun _ i _ => x.list.length - (intOf i).toNat)
    case atStart => exact ⟨0, Nat.zero_le _, rfl, rfl, ⟨by simp [sumZ]⟩, hB.out⟩
    case round =>
      clear hB b0
      obtain ⟨k, hk, rfl, rfl, HZ, hB⟩ := hrel
      have hz0 := sumZ_pos (sizeN d) (sizeN_pos d) (x.list.take k)
      have hz1 := HZ.out
      by_cases hlt : k < x.list.length
      · obtain ⟨m, rfl⟩ : ∃ m1 : Nat, m = m1 + 1 := by
          cases m with
          | zero => obtain ⟨_, _, _, h, _⟩ := C_at HC.out (Below.refl _ _) k hlt; exact h.elim
          | succ m => exact ⟨m, rfl⟩
        obtain ⟨ad, A3, c3, A4, c4, rfl, x0, x1, x2, x3, x4, hs4, hr3, hr4⟩ := C_J_at HC.out hB.out k hlt
        have HK4 := Hd.mk (tJ_K.2 ⟨A3, c3, A4, c4, rfl, hs4, hr3, hr4⟩ : (tJ (m + 1)).K wr x.list[k] _)
        clear hr3 hr4
        have hb := sizeN_bound d x.list[k]
        have hb1 := hb.1
        have hb2 := hb.2
        clear hb
        have HT := Hd.mk (sumZ_take (sizeN d) x.list k hlt)
        go_wp2_with fail
        apply calls_gen; intro W hW
        have hX : Below wr.heap.size wr W := by rw [hW]; exact below_alloc (Below.refl _ _) _
        clear hW
        refine (ih x.list[k] _ d _ (by omega) ((tJ (m + 1)).K_below hX HK4.out)).mono ?_
        rintro e w2 ⟨rfl, hX2⟩
        have hB2 := Hd.mk (below_then hB.out (below_then hX hX2))
        clear hX hX2
        by_cases hz : 400 < 1 + sumZ (sizeN d) (x.list.take k) + sizeN d x.list[k]
        · have HN := Hd.mk (show sizeN (d + 1) x = 401 by
            have h4 := sumZ_le (sizeN d) (sizeN_pos d) x.list (k + 1)
            rw [HE.out, if_neg (by rw [HT.out] at h4; omega)])
          go_wp2_with fail
          go_ret
          exact ⟨by rw [HN.out]; rfl, hB2.out⟩
        · have HN := Hd.mk (show 1 + sumZ (sizeN d) (x.list.take (k + 1)) ≤ 400 by rw [HT.out]; omega)
          go_wp2_with fail
          go_roundw
          case rel => exact ⟨k + 1, by omega, by go_num, by rw [HT.out, Int.add_assoc], HN, hB2⟩
          case measure => simp [intOf]; omega
      · obtain rfl : k = x.list.length := by omega
        have HN := Hd.mk (show sizeN (d + 1) x = 1 + sumZ (sizeN d) (x.list.take x.list.length) by
          have := HZ.out
          rw [HE.out, List.take_length] at *
          rw [if_pos this])
        go_wp2_with fail
        go_ret
        exact ⟨by rw [HN.out]; rfl, hB.out⟩
theorem sizeIn_all : ∀ m, SizeC m
  | 0 => fun _ _ _ _ _ hk => hk.elim
  | m + 1 => impl_sizeIn_of (sizeIn_all m)
end Go.Proofs.Ytlkjpnlpankhpaa.X
