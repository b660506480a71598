/- What is proved here: lemmas about the functions that the statement reaches, and what they compute (part 3). Conditions: none. -/
import Derived.Test.YtegcecnjmimbiaaDoorM2
import Derived.Deep.RegionLaw
import Derived.Lib.Walk
import Derived.Shelf.RegionOpenPlain
import Derived.Lib.SliceRun
import Derived.Lib.JoinLaws
import Derived.Lib.AppendZeros
import Derived.Lib.AppendZerosOnto
import Derived.Lib.Overlaps
import Derived.Laws.Externs
import Derived.Test.YtegcecnjmimbiaaDoorM1
import Derived.StillTailTactics
import Derived.Deep.RegionWith
import Derived.Test.YtegcecnjmimbiaaDoorProg
import Derived.ProofKit
import Derived.OpenShut
namespace Go.Proofs.YtegcecnjmimbiaaDoor.X
open Go.RowKit Go.Sort
set_option linter.unusedVariables false
set_option linter.unusedSimpArgs false
open Ty
theorem atI_cases (l : List Int) (k : Int) : (atI l k = -1 ∧ ∀ j (h : j < l.length), l[j] ≠ k) ∨ ∃ q, ∃ h : q < l.length, atI l k = (q : Int) ∧ l[q] = k := by
 unfold atI idxF
 by_cases h : l.findIdx (fun x => k == x) < l.length
 ·refine .inr ⟨_, h, if_pos h, ?_⟩
  have := List.findIdx_getElem (w := h)
  exact (by simpa using this : k = _).symm
 ·refine .inl ⟨if_neg h, fun j hj he => h ?_⟩
  refine Nat.lt_of_le_of_lt (Nat.le_of_not_lt fun h2 => ?_) hj
  have := List.not_of_lt_findIdx h2
  simp [he] at this
theorem atI_neg {l : List Int} {k : Int} (h : atI l k < 0) : ∀ j (h : j < l.length), l[j] ≠ k := by
 rcases atI_cases l k with ⟨_, h2⟩ | ⟨q, hq, h1, _⟩
 ·exact h2
 ·omega
theorem atI_pos {l : List Int} {k : Int} {q : Nat} (h : atI l k = (q : Int)) : ∃ hq : q < l.length, l[q] = k := by
 rcases atI_cases l k with ⟨h1, _⟩ | ⟨q2, hq, h1, h2⟩
 ·omega
 ·obtain rfl : q2 = q := by omega
  exact ⟨hq, h2⟩
def Dist (k : List Int) : Prop := ∀ i j (hi : i < k.length) (hj : j < k.length), k[i] = k[j] → i = j
theorem dist_of {k : List Int} {l : List J} (h : keysOk k l = true) : Dist k := by
 unfold keysOk at h
 simp only [Bool.and_eq_true] at h
 have h1 := h.1.1
 rw [List.all_eq_true] at h1
 have key : ∀ i j (hi : i < k.length) (hj : j < k.length), i < j → k[i] ≠ k[j] := fun i j hi hj hij he => by
  have h2 := h1 j (List.mem_range.2 hj)
  unfold dupK at h2
  rw [getD_at k j hj] at h2
  have h3 : atI (k.take j) k[j] < 0 := by
   by_cases h4 : 0 ≤ atI (k.take j) k[j]
   ·rw [decide_eq_true h4] at h2; cases h2
   ·omega
  exact atI_neg h3 i (by rw [List.length_take]; omega) (by rw [List.getElem_take]; exact he)
 intro i j hi hj he
 rcases Nat.lt_trichotomy i j with h2 | h2 | h2
 ·exact absurd he (key i j hi hj h2)
 ·exact h2
 ·exact absurd he.symm (key j i hj hi h2)
def remO (i : Nat) : JOp := ⟨2, [numS i], J.null⟩
def repO (i : Nat) (x : J) : JOp := ⟨3, [numS i], x⟩
def addO (i : Nat) (x : J) : JOp := ⟨1, [numS i], x⟩
def Keyed.no : Keyed := ⟨0, J.null⟩
abbrev kOf (l : List Keyed) : List Int := l.map Keyed.key
noncomputable def gone (old next : List Keyed) : Nat → List Keyed × List JOp
 | 0 => (old, [])
 | t + 1 => if atK next (old.getD (old.length - 1 - t) Keyed.no).key < 0 then ((gone old next t).1.eraseIdx (old.length - 1 - t), (gone old next t).2 ++ [remO (old.length - 1 - t)]) else gone old next t
noncomputable def come1 (x : Keyed) (i : Nat) (s : List Keyed × List JOp) : List Keyed × List JOp :=
 if atK s.1 x.key = (i : Int) then (s.1, if eqv (s.1.getD i Keyed.no).val x.val = true then s.2 else s.2 ++ [repO i x.val])
 else if 0 ≤ atK s.1 x.key then ((s.1.eraseIdx (atK s.1 x.key).toNat).take i ++ x :: (s.1.eraseIdx (atK s.1 x.key).toNat).drop i, (s.2 ++ [remO (atK s.1 x.key).toNat]) ++ [addO i x.val])
 else (s.1.take i ++ x :: s.1.drop i, s.2 ++ [addO i x.val])
noncomputable def come (old next : List Keyed) : Nat → List Keyed × List JOp
 | 0 => gone old next old.length
 | i + 1 => come1 (next.getD i Keyed.no) i (come old next i)
theorem gone_take (old next : List Keyed) : ∀ t, t ≤ old.length → (gone old next t).1.take (old.length - t) = old.take (old.length - t)
 | 0, _ => rfl
 | t + 1, h => by
  have ih := gone_take old next t (by omega)
  have e : old.length - t = (old.length - (t + 1)) + 1 := by omega
  have ih2 : (gone old next t).1.take (old.length - (t + 1)) = old.take (old.length - (t + 1)) := by
   have := congrArg (List.take (old.length - (t + 1))) ih
   rw [List.take_take, List.take_take, Nat.min_eq_left (by omega)] at this
   exact this
  unfold gone
  split
  ·show ((gone old next t).1.eraseIdx (old.length - 1 - t)).take _ = _
   rw [show old.length - 1 - t = old.length - (t + 1) by omega, List.eraseIdx_eq_take_drop_succ, List.take_append, List.take_take, Nat.min_self, ih2, List.length_take]
   simp only [Nat.min_eq_left (show old.length - (t + 1) ≤ old.length by omega), Nat.sub_self, List.take_zero, List.append_nil]
  ·exact ih2
theorem gone_len (old next : List Keyed) : ∀ t, t ≤ old.length → old.length - t ≤ (gone old next t).1.length ∧ (gone old next t).1.length ≤ old.length ∧ (gone old next t).2.length ≤ t
 | 0, _ => ⟨by show old.length - 0 ≤ old.length; omega, by show old.length ≤ old.length; omega, by show ([] : List JOp).length ≤ 0; simp⟩
 | t + 1, h => by
  obtain ⟨h1, h2, h3⟩ := gone_len old next t (by omega)
  unfold gone
  split
  ·refine ⟨?_, ?_, ?_⟩
   ·show _ ≤ ((gone old next t).1.eraseIdx (old.length - 1 - t)).length
    rw [List.length_eraseIdx]
    split <;> omega
   ·show ((gone old next t).1.eraseIdx (old.length - 1 - t)).length ≤ _
    rw [List.length_eraseIdx]
    split <;> omega
   ·simp; omega
  ·exact ⟨by omega, h2, by omega⟩
theorem gone_at (old next : List Keyed) (t : Nat) (h : t < old.length) : ∃ h1 : old.length - 1 - t < (gone old next t).1.length, (gone old next t).1[old.length - 1 - t] = old.getD (old.length - 1 - t) Keyed.no := by
 have hl := (gone_len old next t (by omega)).1
 refine ⟨by omega, ?_⟩
 have e := congrArg (fun l => l[old.length - 1 - t]?) (gone_take old next t (by omega))
 simp only [List.getElem?_take, if_pos (show old.length - 1 - t < old.length - t by omega)] at e
 rw [List.getElem?_eq_getElem (by omega)] at e
 rw [List.getD_eq_getElem?_getD, ← e]; rfl
theorem gone_at' (old next : List Keyed) (t q : Nat) (h : t < old.length) (hq : q = old.length - 1 - t) : ∃ h1 : q < (gone old next t).1.length, (gone old next t).1[q] = old.getD q Keyed.no := by
 subst hq; exact gone_at old next t h
theorem gone_yes (old next : List Keyed) (t q : Nat) (hq : q = old.length - 1 - t) (h : atK next (old.getD q Keyed.no).key < 0) : gone old next (t + 1) = ((gone old next t).1.eraseIdx q, (gone old next t).2 ++ [remO q]) := by
 subst hq; rw [gone, if_pos h]
theorem gone_no (old next : List Keyed) (t q : Nat) (hq : q = old.length - 1 - t) (h : ¬ atK next (old.getD q Keyed.no).key < 0) : gone old next (t + 1) = gone old next t := by
 subst hq; rw [gone, if_neg h]
theorem gone_open (old next : List Keyed) (t q : Nat) (h : t < old.length) (hq : q = old.length - 1 - t) : ∃ (L : List Keyed) (O : List JOp) (key : Int) (hql : q < L.length), gone old next t = (L, O) ∧ L[q].key = key ∧
  (atK next key < 0 → gone old next (t + 1) = (L.eraseIdx q, O ++ [remO q])) ∧ (¬ atK next key < 0 → gone old next (t + 1) = (L, O)) ∧ L.length ≤ old.length ∧ O.length ≤ t := by
 obtain ⟨hql, hqe⟩ := gone_at' old next t q h hq
 obtain ⟨_, h2, h3⟩ := gone_len old next t (by omega)
 exact ⟨_, _, (old.getD q Keyed.no).key, hql, rfl, by rw [hqe], gone_yes old next t q hq, gone_no old next t q hq, h2, h3⟩
theorem gone_sub (old next : List Keyed) : ∀ t, ∀ x ∈ (gone old next t).1, x ∈ old
 | 0, x, h => h
 | t + 1, x, h => by
  unfold gone at h
  split at h
  ·exact gone_sub old next t x (List.mem_of_mem_eraseIdx h)
  ·exact gone_sub old next t x h
structure ComeI (old next : List Keyed) (i : Nat) (s : List Keyed × List JOp) : Prop where
 keys : (kOf s.1).take i = (kOf next).take i
 len : i ≤ s.1.length
 sub : ∀ x ∈ s.1.drop i, x ∈ old
 le : s.1.length ≤ old.length + i
 ops : s.2.length ≤ old.length + 2 * i
theorem ComeI.at_ge {old next : List Keyed} {i : Nat} {s : List Keyed × List JOp} (h : ComeI old next i s) (hd : Dist (kOf next)) (hi : i < next.length) {q : Nat} (hq : atK s.1 (next.getD i Keyed.no).key = (q : Int)) : i ≤ q ∧ q < s.1.length := by
 obtain ⟨h1, h2⟩ := atI_pos hq
 have h1' : q < s.1.length := by simpa using h1
 refine ⟨?_, h1'⟩
 rcases Nat.lt_or_ge q i with h3 | h3
 ·exfalso
  have e := congrArg (fun l => l[q]?) h.keys
  simp only [List.getElem?_take, if_pos h3] at e
  rw [List.getElem?_eq_getElem h1, List.getElem?_eq_getElem (by simp; omega), h2] at e
  injection e with e
  have e2 : (next.getD i Keyed.no).key = (kOf next)[i]'(by simpa using hi) := by
   rw [List.getD_eq_getElem?_getD, List.getElem?_eq_getElem hi]; simp
  rw [e2] at e
  have := hd i q (by simpa using hi) (by simp; omega) e
  omega
 ·exact h3
theorem come1_len (x : Keyed) (i : Nat) (s : List Keyed × List JOp) : True := trivial
theorem take_ins {α : Type} (l : List α) (x : α) (i : Nat) (h : i ≤ l.length) : (l.take i ++ x :: l.drop i).take (i + 1) = l.take i ++ [x] := by
 rw [List.take_append, List.length_take, Nat.min_eq_left h, List.take_of_length_le (by rw [List.length_take]; omega), show i + 1 - i = 1 by omega]
 simp
theorem drop_ins {α : Type} (l : List α) (x : α) (i : Nat) (h : i ≤ l.length) : (l.take i ++ x :: l.drop i).drop (i + 1) = l.drop i := by
 rw [List.drop_append, List.length_take, Nat.min_eq_left h, List.drop_eq_nil_of_le (by rw [List.length_take]; omega), show i + 1 - i = 1 by omega]
 simp
theorem ComeI.start (old next : List Keyed) : ComeI old next 0 (come old next 0) := by
 have h := gone_len old next old.length (Nat.le_refl _)
 exact ⟨by simp, Nat.zero_le _, fun x hx => gone_sub old next _ x (by have hx : x ∈ (gone old next old.length).1.drop 0 := hx; simpa using hx), h.2.1, by show (gone old next old.length).2.length ≤ _; omega⟩
theorem ComeI.step {old next : List Keyed} {i : Nat} {s : List Keyed × List JOp} (h : ComeI old next i s) (hd : Dist (kOf next)) (hi : i < next.length) : ComeI old next (i + 1) (come1 (next.getD i Keyed.no) i s) := by
 have hx : next.getD i Keyed.no = next[i] := by rw [List.getD_eq_getElem?_getD, List.getElem?_eq_getElem hi]; rfl
 have hk : (kOf next).take (i + 1) = (kOf next).take i ++ [next[i].key] := by
  rw [List.take_succ_eq_append_getElem (by simpa using hi)]; simp
 unfold come1
 by_cases h1 : atK s.1 (next.getD i Keyed.no).key = (i : Int)
 ·rw [if_pos h1]
  obtain ⟨_, hlt⟩ := h.at_ge hd hi h1
  obtain ⟨h2, h3⟩ := atI_pos h1
  refine ⟨?_, hlt, fun x hx => h.sub x ?_, by have := h.le; show s.1.length ≤ _; omega, ?_⟩
  ·show (kOf s.1).take (i + 1) = _
   rw [List.take_succ_eq_append_getElem h2, h.keys, hk, h3, hx]
  ·have hx : x ∈ s.1.drop (i + 1) := hx
   rw [← List.drop_drop] at hx
   exact List.mem_of_mem_drop hx
  ·have := h.ops
   show (if _ then s.2 else s.2 ++ [_]).length ≤ _
   split
   ·omega
   ·simp; omega
 ·rw [if_neg h1]
  have gen : ∀ (L : List Keyed) (o : List JOp), (kOf L).take i = (kOf next).take i → i ≤ L.length → (∀ x ∈ L.drop i, x ∈ old) → L.length ≤ old.length + i → o.length ≤ old.length + 2 * i + 1 →
    ComeI old next (i + 1) (L.take i ++ next.getD i Keyed.no :: L.drop i, o ++ [addO i (next.getD i Keyed.no).val]) := fun L o g1 g2 g3 g4 g5 => by
   refine ⟨?_, ?_, fun x hx => ?_, ?_, ?_⟩
   ·show (kOf (L.take i ++ next.getD i Keyed.no :: L.drop i)).take (i + 1) = _
    rw [← List.map_take, take_ins _ _ _ g2, List.map_append, List.map_take, g1, hk, hx]; rfl
   ·show i + 1 ≤ (L.take i ++ next.getD i Keyed.no :: L.drop i).length
    simp; omega
   ·have hx : x ∈ (L.take i ++ next.getD i Keyed.no :: L.drop i).drop (i + 1) := hx
    rw [drop_ins _ _ _ g2] at hx
    exact g3 x hx
   ·show (L.take i ++ next.getD i Keyed.no :: L.drop i).length ≤ _
    simp; omega
   ·show (o ++ [_]).length ≤ _
    simp; omega
  by_cases h2 : 0 ≤ atK s.1 (next.getD i Keyed.no).key
  ·rw [if_pos h2]
   obtain ⟨q, hq⟩ := Int.eq_ofNat_of_zero_le h2
   rw [hq]
   obtain ⟨h3, h4⟩ := h.at_ge hd hi hq
   have h5 : i < q := by
    rcases Nat.lt_or_ge i q with h | h
    ·exact h
    ·exact absurd (by rw [hq]; omega) h1
   show ComeI old next (i + 1) ((s.1.eraseIdx q).take i ++ next.getD i Keyed.no :: (s.1.eraseIdx q).drop i, (s.2 ++ [remO q]) ++ [addO i (next.getD i Keyed.no).val])
   refine gen _ _ ?_ ?_ (fun x hx => h.sub x ?_) ?_ ?_
   ·show ((s.1.eraseIdx q).map Keyed.key).take i = _
    rw [← List.map_take, List.eraseIdx_eq_take_drop_succ, List.take_append, List.take_take, Nat.min_eq_left (by omega), List.length_take, Nat.min_eq_left (by omega), show i - q = 0 by omega, List.take_zero, List.append_nil, List.map_take]
    exact h.keys
   ·rw [List.length_eraseIdx]; have := h.len; split <;> omega
   ·rw [List.eraseIdx_eq_take_drop_succ, List.drop_append, List.length_take, Nat.min_eq_left (by omega), show i - q = 0 by omega, List.drop_zero] at hx
    rcases List.mem_append.1 hx with h6 | h6
    ·rw [List.drop_take] at h6
     exact List.mem_of_mem_take h6
    ·rw [show q + 1 = i + (q + 1 - i) by omega, ← List.drop_drop] at h6
     exact List.mem_of_mem_drop h6
   ·rw [List.length_eraseIdx]; have := h.le; split <;> omega
   ·have := h.ops; simp; omega
  ·rw [if_neg h2]
   exact gen _ _ h.keys h.len h.sub h.le (by have := h.ops; omega)
theorem come_inv (old next : List Keyed) (hd : Dist (kOf next)) : ∀ i, i ≤ next.length → ComeI old next i (come old next i)
 | 0, _ => ComeI.start old next
 | i + 1, h => (come_inv old next hd i (by omega)).step hd (by omega)
theorem ComeI.old_at {old next : List Keyed} {i : Nat} {s : List Keyed × List JOp} (h : ComeI old next i s) (hdo : Dist (kOf old)) (hd : Dist (kOf next)) (hi : i < next.length) (h1 : atK s.1 (next.getD i Keyed.no).key = (i : Int)) :
  ∃ q, ∃ hq : q < old.length, atI (kOf old) (next.getD i Keyed.no).key = (q : Int) ∧ s.1.getD i Keyed.no = old[q] := by
 obtain ⟨_, hlt⟩ := h.at_ge hd hi h1
 obtain ⟨h2, h3⟩ := atI_pos h1
 have hm : s.1[i] ∈ old := h.sub _ (by rw [List.mem_iff_getElem]; exact ⟨0, by simp; omega, by simp⟩)
 obtain ⟨q, hq, he⟩ := List.getElem_of_mem hm
 have hkq : (kOf old)[q]'(by simpa using hq) = (next.getD i Keyed.no).key := by
  rw [← h3]; simp [he]
 refine ⟨q, hq, ?_, by rw [List.getD_eq_getElem?_getD, List.getElem?_eq_getElem hlt]; exact he.symm⟩
 rcases atI_cases (kOf old) (next.getD i Keyed.no).key with ⟨_, h4⟩ | ⟨q2, hq2, h4, h5⟩
 ·exact absurd hkq (h4 q (by simpa using hq))
 ·rw [h4, hdo q2 q hq2 (by simpa using hq) (by rw [h5, hkq])]
theorem kOf_zip {k : List Int} {l : List J} (h : keysOk k l = true) : kOf (zipK k l) = k := by
 have hl : k.length = l.length := by
  unfold keysOk at h
  rw [Bool.and_eq_true] at h
  simpa using h.2
 unfold kOf zipK
 rw [List.map_zipWith]
 show List.zipWith (fun a _ => a) k l = k
 refine List.ext_getElem (by rw [List.length_zipWith]; omega) (fun i h1 h2 => ?_)
 rw [List.getElem_zipWith]
theorem zipK_ok {k : List Int} {l : List J} (h : keysOk k l = true) : ∀ x ∈ zipK k l, jsonOk x.val = true := by
 intro x hx
 unfold keysOk at h
 simp only [Bool.and_eq_true] at h
 have h2 := h.1.2
 rw [List.all_eq_true] at h2
 obtain ⟨i, hi, rfl⟩ := List.getElem_of_mem hx
 have hi2 : i < l.length := by unfold zipK at hi; rw [List.length_zipWith] at hi; omega
 have e : (zipK k l)[i].val = l[i] := by simp [zipK]
 rw [e]
 exact h2 _ (List.getElem_mem _)
theorem come_open (old next : List Keyed) (hd : Dist (kOf next)) (t : Nat) (h : t < next.length) : ∃ (L : List Keyed) (O : List JOp), come old next t = (L, O) ∧ t ≤ L.length ∧ L.length ≤ old.length + t ∧ O.length ≤ old.length + 2 * t ∧
  come old next (t + 1) = come1 next[t] t (L, O) ∧ ∀ q : Nat, atK L next[t].key = (q : Int) → t ≤ q ∧ q < L.length := by
 have hi := come_inv old next hd t (by omega)
 have e : next.getD t Keyed.no = next[t] := by rw [List.getD_eq_getElem?_getD, List.getElem?_eq_getElem h]; rfl
 refine ⟨_, _, rfl, hi.len, hi.le, hi.ops, by rw [come, e], fun q hq => hi.at_ge hd h (by rw [e]; exact hq)⟩
theorem come1_same {x : Keyed} {t : Nat} {L : List Keyed} {O : List JOp} (h : atK L x.key = (t : Int)) (hl : t < L.length) (he : eqv L[t].val x.val = true) : come1 x t (L, O) = (L, O) := by
 have e : L.getD t Keyed.no = L[t] := by rw [List.getD_eq_getElem?_getD, List.getElem?_eq_getElem hl]; rfl
 unfold come1; rw [if_pos h, e, if_pos he]
theorem come1_rep {x : Keyed} {t : Nat} {L : List Keyed} {O : List JOp} (h : atK L x.key = (t : Int)) (hl : t < L.length) (he : eqv L[t].val x.val = false) : come1 x t (L, O) = (L, O ++ [repO t x.val]) := by
 have e : L.getD t Keyed.no = L[t] := by rw [List.getD_eq_getElem?_getD, List.getElem?_eq_getElem hl]; rfl
 unfold come1; rw [if_pos h, e, if_neg (by rw [he]; decide)]
theorem come1_move {x : Keyed} {t q : Nat} {L : List Keyed} {O : List JOp} (h : atK L x.key = (q : Int)) (hn : q ≠ t) : come1 x t (L, O) = ((L.eraseIdx q).take t ++ x :: (L.eraseIdx q).drop t, (O ++ [remO q]) ++ [addO t x.val]) := by
 unfold come1; rw [if_neg (by rw [h]; omega), if_pos (by rw [h]; omega), h]; rfl
theorem come1_new {x : Keyed} {t : Nat} {L : List Keyed} {O : List JOp} (h : atK L x.key < 0) : come1 x t (L, O) = (L.take t ++ x :: L.drop t, O ++ [addO t x.val]) := by
 unfold come1; rw [if_neg (show ¬ atK L x.key = (t : Int) by omega), if_neg (show ¬ 0 ≤ atK L x.key by omega)]
theorem kOf_erase (l : List Keyed) (q : Nat) : kOf (l.eraseIdx q) = (kOf l).eraseIdx q := by
 unfold kOf
 rw [List.eraseIdx_eq_take_drop_succ, List.eraseIdx_eq_take_drop_succ, List.map_append, List.map_take, List.map_drop]
theorem kOf_ins (l : List Keyed) (x : Keyed) (t : Nat) : kOf (l.take t ++ x :: l.drop t) = (kOf l).take t ++ x.key :: (kOf l).drop t := by
 unfold kOf
 rw [List.map_append, List.map_cons, List.map_take, List.map_drop]
theorem kOf_len (l : List Keyed) : (kOf l).length = l.length := by simp
theorem come_open2 (old next : List Keyed) (hdo : Dist (kOf old)) (hd : Dist (kOf next)) (t : Nat) (h : t < next.length) : ∃ (L : List Keyed) (O : List JOp), come old next t = (L, O) ∧ t ≤ L.length ∧ L.length ≤ old.length + t ∧ O.length ≤ old.length + 2 * t ∧
  come old next (t + 1) = come1 next[t] t (L, O) ∧ (∀ q : Nat, atI (kOf L) next[t].key = (q : Int) → t ≤ q ∧ q < L.length) ∧
  (atI (kOf L) next[t].key = (t : Int) → ∃ hl : t < L.length, ∃ q, ∃ hq : q < old.length, atI (kOf old) next[t].key = (q : Int) ∧ L[t] = old[q]) := by
 have hi := come_inv old next hd t (by omega)
 have e : next.getD t Keyed.no = next[t] := by rw [List.getD_eq_getElem?_getD, List.getElem?_eq_getElem h]; rfl
 refine ⟨_, _, rfl, hi.len, hi.le, hi.ops, by rw [come, e], fun q hq => hi.at_ge hd h (by rw [e]; exact hq), fun hq => ?_⟩
 have hl := (hi.at_ge hd h (by rw [e]; exact hq)).2
 obtain ⟨q, hq1, hq2, hq3⟩ := hi.old_at hdo hd h (by rw [e]; exact hq)
 refine ⟨hl, q, hq1, by rw [e] at hq2; exact hq2, ?_⟩
 rw [← hq3, List.getD_eq_getElem?_getD, List.getElem?_eq_getElem hl]; rfl
theorem idxF_cases {α : Type} (p : α → Bool) (l : List α) : (idxF p l = -1 ∧ l.findIdx p = l.length) ∨ (idxF p l = (l.findIdx p : Int) ∧ l.findIdx p < l.length) := by
 unfold idxF
 by_cases h : l.findIdx p < l.length
 ·exact .inr ⟨if_pos h, h⟩
 ·have := List.findIdx_le_length (xs := l) (p := p)
  exact .inl ⟨if_neg h, by omega⟩
theorem over_get {α : Type} (l : List α) (o : Nat) (vs : List α) (h : o + vs.length ≤ l.length) (k : Nat) : (over l o vs)[k]? = if o ≤ k ∧ k < o + vs.length then vs[k - o]? else l[k]? := by
 unfold over
 have h1 : (l.take o).length = o := by simp; omega
 rcases Nat.lt_or_ge k o with hk | hk
 ·rw [if_neg (by omega), List.append_assoc, List.getElem?_append_left (by omega), List.getElem?_take, if_pos hk]
 ·rw [List.append_assoc, List.getElem?_append_right (by omega), h1]
  rcases Nat.lt_or_ge k (o + vs.length) with hk2 | hk2
  ·rw [if_pos ⟨hk, hk2⟩, List.getElem?_append_left (by omega)]
  ·rw [if_neg (by omega), List.getElem?_append_right (by omega), List.getElem?_drop]
   congr 1
   omega
theorem cut_eq {α : Type} (l m : List α) (a b n : Nat) (h : ∀ k, k < n → l[a + k]? = m[b + k]?) : (l.drop a).take n = (m.drop b).take n := by
 apply List.ext_getElem?
 intro k
 rw [List.getElem?_take, List.getElem?_take]
 split
 ·rw [List.getElem?_drop, List.getElem?_drop]
  exact h k (by assumption)
 ·rfl
theorem block_cell {w : World} {g : Nat} {cur : Array Value} {e : TypeId} {fr : Nat × Nat} (h : w.heap[g]? = some (.cells cur e fr)) (j : Nat) : w.cell? ⟨g, j, none⟩ = cur[j]? := by
 unfold World.cell?
 rw [show w.heap[(⟨g, j, none⟩ : Addr).block]? = some (.cells cur e fr) from h]
 simp
theorem block_frozen {w : World} {g : Nat} {cur : Array Value} {e : TypeId} (h : w.heap[g]? = some (.cells cur e (0, 0))) (j : Nat) : w.frozen? ⟨g, j, none⟩ = false := by
 simp [World.frozen?, h]
theorem parts_one {α : Type} {d : Ty α} {w : World} {cur : Array Value} {T : Nat → Nat → Prop} {xs : List α} (hO : ∀ i x, xs[i]? = some x → d.O w (T i) x ((cur.toList.drop (i * d.sz)).take d.sz)) {k : Nat} (hk : k < xs.length * d.sz) {u : Value} (hu : cur.toList[k]? = some u) : u.oneCell' = true := by
 have hsz : 0 < d.sz := by
  rcases Nat.eq_zero_or_pos d.sz with h | h
  ·rw [h] at hk; omega
  ·exact h
 have hi : k / d.sz < xs.length := Nat.div_lt_of_lt_mul (by rw [Nat.mul_comm]; exact hk)
 have h1 := hO (k / d.sz) xs[k / d.sz] (by simp [hi])
 refine d.K_one (d.O_K h1) u ?_
 rw [List.mem_iff_getElem?]
 refine ⟨k % d.sz, ?_⟩
 rw [List.getElem?_take, if_pos (Nat.mod_lt _ hsz), List.getElem?_drop, Nat.mul_comm, Nat.div_add_mod]
 exact hu
theorem zero1 (a b : Value) : (Builtin.zeroCells #[a, b] 1).toList = [a, b] := by
 simp [Builtin.zeroCells, show Array.range 2 = #[0, 1] from rfl]
end Go.Proofs.YtegcecnjmimbiaaDoor.X
namespace Go.Proofs.YtegcecnjmimbiaaDoor.X
open Go.RowKit Go.Sort Go.Lib
set_option linter.unusedVariables false
set_option linter.unusedSimpArgs false
open Ty
theorem step_copy_runJ {P : Program} {ops : Array Oper} {o : Oper} {a : Act} {w : World} {K : Act → World → Prop} {Q : Exit → Act → World → Prop} {E : Prop}
  (hg : o.guard = none) (d x : Operand) (dT sT : TypeId) (hop : o.op = Op.call { callee := Callee.builtin Builtin.copy, args := #[d, x], argTypes := #[dT, sT] })
  (v u : Value) (hd : a.eval d = v) (hx : a.eval x = u) {v' : Value} {w' : World} (hr : (Builtin.copy_ #[dT, sT] o.type #[v, u]).run P w = .ok v' w') (hK : K (a.put o.dst v') w') :
  if Region.wanted o (yielded ops a.tmps) = true then Oper.wp P o a w K Q else E := by
 have hw : Region.wanted o (yielded ops a.tmps) = true := by simp [Region.wanted, hg]
 rw [if_pos hw]
 unfold Oper.wp
 simp [execOp, hop, resolve, invoke, builtin, hd, hx, hr, Result.andThen]
 exact hK
theorem wpList_copy_runJ {P : Program} (w : World) {ops : Array Oper} {rest : List Oper} {o : Oper} {a : Act} {Q : Exit → Act → World → Prop} (hgd : o.guard = none) (d s : Operand) (t t' : TypeId)
  (ho : o.op = .call { callee := .builtin .copy, args := #[d, s], argTypes := #[t, t'] }) (v u : Value) (hd : a.eval d = v) (hs : a.eval s = u) {v' : Value} {w' : World}
  (hr : (Builtin.copy_ #[t, t'] o.type #[v, u]).run P w = .ok v' w') (h : wpList P ops Q rest (a.put o.dst v') w') : wpList P ops Q (o :: rest) a w :=
 wpList_plain hgd fun K hK => by
  unfold Oper.wp execOp
  simp only [ho, resolve, invoke, builtin, Sem.run_bind, Sem.run_pure, Result.andThen_ok, List.map_toArray, List.map_cons, List.map_nil, hd, hs, hr]
  exact hK _ _ h
theorem zeroA (a : Value) : (Builtin.zeroCells #[a] 1).toList = [a] := by
 simp [Builtin.zeroCells, show Array.range 1 = #[0] from rfl]
theorem zero5 (a b c d e : Value) : (Builtin.zeroCells #[a, b, c, d, e] 1).toList = [a, b, c, d, e] := by
 simp [Builtin.zeroCells, show Array.range 5 = #[0, 1, 2, 3, 4] from rfl]
theorem zero6 (a b c d e f : Value) : (Builtin.zeroCells #[a, b, c, d, e, f] 1).toList = [a, b, c, d, e, f] := by
 simp [Builtin.zeroCells, show Array.range 6 = #[0, 1, 2, 3, 4, 5] from rfl]
end Go.Proofs.YtegcecnjmimbiaaDoor.X
namespace Go.Proofs.YtegcecnjmimbiaaDoor.X
open Go.RowKit Go.Sort Go.Lib
set_option linter.unusedVariables false
set_option linter.unusedSimpArgs false
open Ty
set_option maxHeartbeats 4000000 in
set_option maxRecDepth 1000000 in
theorem slices_Delete_key {w0 : World} {m : Nat} {S : Nat → Prop} (g c i : Nat) (l : List Keyed) (w : World) (hR : (tKey w0 m).R 50 w S (.slice (some ⟨g, 0, none⟩) l.length c) l) (hi : i < l.length) :
  Calls Tryd.prog 23 #[.slice (some ⟨g, 0, none⟩) l.length c, .int .i64 i, .int .i64 (i + 1)] w fun e w' => ∃ v, e = .returned v ∧ (tKey w0 m).R 50 w' S v (l.eraseIdx i) ∧ Fr w w' S := by
 obtain ⟨cur, T, hh, hg, _, hn, hm, hsz, hT, hd, hO⟩ := R_parts hR
 have hsz : cur.size = c * 6 := hsz
 have hO : ∀ i x, l[i]? = some x → (tKey w0 m).O w (T i) x ((cur.toList.drop (i * 6)).take 6) := hO
 obtain ⟨news, hnews⟩ : ∃ news, news = (cur.toList.drop ((i + 1) * 6)).take ((l.length - (i + 1)) * 6) := ⟨_, rfl⟩
 have hlen : news.length = (l.length - (i + 1)) * 6 := by rw [hnews]; simp; omega
 have hget : ∀ t, t < (l.length - (i + 1)) * 6 → news[t]? = cur.toList[(i + 1) * 6 + t]? := fun t ht => by
  rw [hnews, List.getElem?_take, if_pos ht, List.getElem?_drop]
 have hone : ∀ u ∈ news, u.oneCell' = true := fun u hu => by
  obtain ⟨t, ht⟩ := List.mem_iff_getElem?.1 hu
  have ht1 : t < (l.length - (i + 1)) * 6 := by
   have := (List.getElem?_eq_some_iff.1 ht).1
   omega
  rw [hget t ht1] at ht
  exact parts_one (d := (tKey w0 m)) (T := T) (xs := l) hO (k := (i + 1) * 6 + t) (by show _ < l.length * 6; omega) ht
 obtain ⟨A, hA, hsrc⟩ : ∃ A : Addr, (if c = i + 1 then some (⟨g, 0, none⟩ : Addr) else some ⟨g, (i + 1) * 6, none⟩) = some A ∧ Hd (∀ t u, news[t]? = some u → w.drew.cell? (A.add t) = some u) := by
  by_cases h : c = i + 1
  ·refine ⟨⟨g, 0, none⟩, by simp [h], ⟨fun t u hu => ?_⟩⟩
   have h0 : news = [] := List.eq_nil_of_length_eq_zero (by rw [hlen]; omega)
   rw [h0] at hu
   simp at hu
  ·refine ⟨⟨g, (i + 1) * 6, none⟩, by simp [h], ⟨fun t u hu => ?_⟩⟩
   have ht1 : t < (l.length - (i + 1)) * 6 := by
    have := (List.getElem?_eq_some_iff.1 hu).1
    omega
   rw [hget t ht1] at hu
   rw [Addr.add_lit]
   show w.cell? _ = _
   rw [block_cell hh]
   simpa using hu
 have s3 : Hd (∀ t, t < news.length → (w.drew.cell? ⟨g, 0 + i * 6 + t, none⟩).isSome = true ∧ w.drew.frozen? ⟨g, 0 + i * 6 + t, none⟩ = false) := ⟨fun t ht => by
  refine ⟨?_, block_frozen hh _⟩
  show (w.cell? _).isSome = true
  rw [block_cell hh, Array.getElem?_eq_getElem (by omega)]
  rfl⟩
 have s1 := Hd.mk hlen
 have s2 := Hd.mk hone
 obtain ⟨W1, hW1⟩ : ∃ W1, W1 = w.drew.setCells g (0 + i * 6) news := ⟨_, rfl⟩
 obtain ⟨cur1, hh1, hl1⟩ := heap_setCells news (0 + i * 6) w.drew cur hh (by omega)
 rw [← hW1] at hh1
 have hs1 : cur1.size = cur.size := by
  have := congrArg List.length hl1
  rw [over_length _ _ _ (by simp; omega)] at this
  simpa using this
 have hcl : ∀ ty, (Builtin.clear_ #[45] ty #[.slice (some ⟨g, (i + (l.length - (i + 1))) * 6, none⟩) (l.length - (i + (l.length - (i + 1)))) (c - (i + (l.length - (i + 1))))]).run Tryd.prog W1 = .ok (.tuple #[]) (W1.setCells g ((i + (l.length - (i + 1))) * 6) [.int .i64 0, .int .i64 0, .int .i64 0, .string ByteArray.empty, .slice none 0 0, .slice none 0 0]) := fun ty => by
  have h1 : l.length - (i + (l.length - (i + 1))) = 1 := by omega
  rw [h1]
  have hp : ∀ j, j < 6 → (W1.cell? ⟨g, (i + (l.length - (i + 1))) * 6 + j, none⟩).isSome = true := fun j hj => by
   rw [block_cell hh1, Array.getElem?_eq_getElem (by omega)]
   rfl
  have hzc : (Builtin.zeroCells (Value.agg #[.int .i64 0, .int .i64 0, .int .i64 0, .string ByteArray.empty, .slice none 0 0, .slice none 0 0]).cells 1).toList = [.int .i64 0, .int .i64 0, .int .i64 0, .string ByteArray.empty, .slice none 0 0, .slice none 0 0] := zero6 _ _ _ _ _ _
  rw [← hzc]
  exact run_clear_wide (P := Tryd.prog) W1 45 50 ty (.agg #[.int .i64 0, .int .i64 0, .int .i64 0, .string ByteArray.empty, .slice none 0 0, .slice none 0 0]) (by rw [Tryd.underlying45]) (fun w => by rw [Tryd.zeroValue50]; rfl) (by simp [Value.cells, Value.oneCell']) g ((i + (l.length - (i + 1))) * 6) 1 (c - (i + (l.length - (i + 1)))) (by omega) hp (fun j hj => block_frozen hh1 _)
 obtain ⟨W2, hW2⟩ : ∃ W2, W2 = W1.setCells g ((i + (l.length - (i + 1))) * 6) [.int .i64 0, .int .i64 0, .int .i64 0, .string ByteArray.empty, .slice none 0 0, .slice none 0 0] := ⟨_, rfl⟩
 obtain ⟨cur2, hh2, hl2⟩ := heap_setCells [.int .i64 0, .int .i64 0, .int .i64 0, .string ByteArray.empty, .slice none 0 0, .slice none 0 0] ((i + (l.length - (i + 1))) * 6) W1 cur1 hh1 (by simp; omega)
 rw [← hW2] at hh2
 have hs2 : cur2.size = cur.size := by
  have := congrArg List.length hl2
  rw [over_length _ _ _ (by simp; omega)] at this
  simpa [hs1] using this
 have hne : ∀ k, k ≠ g → W2.heap[k]? = w.heap[k]? := fun k hk => by
  rw [hW2, heap_setCells_ne _ _ _ _ hk, hW1, heap_setCells_ne _ _ _ _ hk]; rfl
 have hfr : Fr w W2 S := by
  rw [hW2, hW1]
  exact setCells_fr (fun _ => hg) _ _ _ (setCells_fr (fun _ => hg) _ _ _ (Fr.refl w S).drew)
 have hfin : (tKey w0 m).R 50 W2 S (.slice (some ⟨g, 0, none⟩) (l.eraseIdx i).length c) (l.eraseIdx i) := by
  have hel : (l.eraseIdx i).length = l.length - 1 := by rw [List.length_eraseIdx, if_pos hi]
  refine R_of_parts (cur := cur2) hh2 hg (by omega) hm (by rw [hs2]; exact hsz) (fun j => if j < i then T j else T (j + 1)) (fun j b hb => ?_) (fun j k b hj hk => ?_) (fun j x hx => ?_)
  ·have : S b ∧ b ≠ g ∧ b < w.heap.size := by
    by_cases h : j < i
    ·simp only [if_pos h] at hb; exact hT _ _ hb
    ·simp only [if_neg h] at hb; exact hT _ _ hb
   exact ⟨this.1, this.2.1⟩
  ·by_cases h : j < i <;> by_cases h' : k < i
   ·simp only [if_pos h, if_pos h'] at hj hk; exact hd _ _ _ hj hk
   ·simp only [if_pos h, if_neg h'] at hj hk; have := hd _ _ _ hj hk; omega
   ·simp only [if_neg h, if_pos h'] at hj hk; have := hd _ _ _ hj hk; omega
   ·simp only [if_neg h, if_neg h'] at hj hk; have := hd _ _ _ hj hk; omega
  ·have hjl : j < l.length - 1 := by rw [← hel]; exact (List.getElem?_eq_some_iff.1 hx).1
   rw [List.getElem?_eraseIdx] at hx
   by_cases h : j < i
   ·rw [if_pos h] at hx
    simp only [if_pos h]
    have he : (cur2.toList.drop (j * 6)).take 6 = (cur.toList.drop (j * 6)).take 6 := cut_eq _ _ _ _ _ (fun k hk => by
     rw [hl2, over_get _ _ _ (by simp; omega), if_neg (by omega), hl1, over_get _ _ _ (by simp; omega), if_neg (by omega)])
    show (tKey w0 m).O W2 (T j) x ((cur2.toList.drop (j * 6)).take 6)
    rw [he]
    exact (tKey w0 m).O_move (fun k hk => hne k (hT _ _ hk).2.1) (hO j x hx)
   ·rw [if_neg h] at hx
    simp only [if_neg h]
    have he : (cur2.toList.drop (j * 6)).take 6 = (cur.toList.drop ((j + 1) * 6)).take 6 := cut_eq _ _ _ _ _ (fun k hk => by
     rw [hl2, over_get _ _ _ (by simp; omega), if_neg (by omega), hl1, over_get _ _ _ (by simp; omega), if_pos (by omega), hget _ (by omega)]
     congr 1; omega)
    show (tKey w0 m).O W2 (T (j + 1)) x ((cur2.toList.drop (j * 6)).take 6)
    rw [he]
    exact (tKey w0 m).O_move (fun k hk => hne k (hT _ _ hk).2.1) (hO (j + 1) x hx)
 have HF := Hd.mk hfin; have HFR := Hd.mk hfr
 have hlenE := Hd.mk (show (l.eraseIdx i).length = i + (l.length - (i + 1)) by rw [List.length_eraseIdx, if_pos hi]; omega)
 have hW := Hd.mk hW1
 rw [← hW2] at hcl
 have hic : i ≤ c := by omega
 have hjc : i + 1 ≤ c := by omega
 have hij : (i : Int) ≤ (i : Int) + 1 := by omega
 have hi0 : (0 : Int) ≤ (i : Int) + 1 := by omega
 have mixed : Tryd.prog.follows .mixedOrders = true := by kernel_rfl
 have hil : (i : Int) + 1 ≤ (l.length : Int) := by omega
 clear hfin hfr hW1 hW2 hh1 hh2 hl1 hl2 hs1 hs2 hne hnews hlen hget hone hT hd hO hh hR
 go_enter Tryd.func23, Tryd.ntmps23
 go_wp2_with fail
 obtain ⟨i0, hif, hzz⟩ := Option.map_eq_some_iff.1 info_KeyS
 simp only [Prod.mk.injEq] at hzz
 obtain ⟨hz0, hz1, hz2⟩ := hzz
 go_region_law_o (refine step_append_room rfl (.tmp 22) (.tmp 25) 45 rfl 50 i0 6 (by rw [Tryd.underlying45]) hif hz1 g 0 i c (by simp [Act.eval, Act.put]) A (l.length - (i + 1)) (c - (i + 1)) news (by simp [Act.eval, Act.put]) s1.out hsrc.out s2.out (by omega) s3.out ?_; rw [← hW.out])
 go_wp2
 go_ret
 have e := hlenE.out
 have h := HF.out
 rw [e] at h
 exact ⟨_, rfl, h, HFR.out⟩
end Go.Proofs.YtegcecnjmimbiaaDoor.X
namespace Go.Proofs.YtegcecnjmimbiaaDoor.X
open Go.RowKit Go.Sort Go.Lib
set_option linter.unusedVariables false
set_option linter.unusedSimpArgs false
open Ty
theorem sizeKey : ∀ w, (Go.sizeOf 50).run Tryd.prog w = .ok 6 w := fun w => by
 obtain ⟨i0, hi, hzz⟩ := Option.map_eq_some_iff.1 info_KeyS
 simp only [Prod.mk.injEq] at hzz
 simp [Go.sizeOf, typeInfo, hi, hzz.2.1]
theorem infoKey2 : (Tryd.prog.info? 50).map (·.size) = some 6 := by kernel_rfl
set_option maxHeartbeats 4000000 in
set_option maxRecDepth 100000 in
theorem slices_Insert_key_shift (g c n p vb : Nat) (cur : Array Value) (vs : List Value) (w : World) (hp : p < n) (hroom : n + 1 ≤ c) (hc63 : c ≤ 9223372036854775807) (hvb : vb ≠ g)
  (hg : w.heap[g]? = some (.cells cur 50 (0, 0))) (hcs : cur.size = c * 6) (hv : w.heap[vb]? = some (.cells vs.toArray 50 (0, 0))) (hvl : vs.length = 6)
  (h1c : ∀ k u, k < n * 6 → cur.toList[k]? = some u → u.oneCell' = true) (h1v : ∀ v ∈ vs, v.oneCell' = true) :
  Calls Tryd.prog 26 #[.slice (some ⟨g, 0, none⟩) n c, .int .i64 p, .slice (some ⟨vb, 0, none⟩) 1 1] w fun e w' =>
   e = .returned (.slice (some ⟨g, 0, none⟩) (n + 1) c) ∧ w' = (w.drew.setCells g ((p + 1) * 6) ((cur.toList.drop (p * 6)).take ((n - p) * 6))).setCells g (p * 6) vs := by
 obtain ⟨cs, hcsd⟩ : ∃ cs, cs = (cur.toList.drop (p * 6)).take ((n - p) * 6) := ⟨_, rfl⟩
 have hcl : cs.length = (n - p) * 6 := by rw [hcsd]; simp; omega
 have hget : ∀ t, t < (n - p) * 6 → cs[t]? = cur.toList[p * 6 + t]? := fun t ht => by rw [hcsd, List.getElem?_take, if_pos ht, List.getElem?_drop]
 have h1s : ∀ u ∈ cs, u.oneCell' = true := fun u hu => by
  obtain ⟨t, ht⟩ := List.mem_iff_getElem?.1 hu
  have ht1 : t < (n - p) * 6 := by
   have := (List.getElem?_eq_some_iff.1 ht).1
   omega
  rw [hget t ht1] at ht
  exact h1c (p * 6 + t) u (by omega) ht
 have hov : ∀ lb cb, (callFunc 50 #[.slice (some ⟨vb, 0, none⟩) 1 1, .slice (some ⟨g, (p + 1) * 6, none⟩) lb cb]).run Tryd.prog w = .ok (.value (.bool false)) w := fun lb cb => by
  rw [run_callFunc_extern Tryd.func50 (by kernel_rfl) (by kernel_rfl) (by kernel_rfl) (e := Extern.SlicesOverlaps.overlaps #[45, 45] #[4]) (by kernel_rfl),
   Lib.run_overlaps_apart w 45 4 50 (by rw [Tryd.underlying45]) 6 sizeKey ⟨vb, 0, none⟩ ⟨g, (p + 1) * 6, none⟩ 1 1 lb cb hvb 50 50 vs.toArray.size cur.size (by simp [World.shape?, hv]) (by simp [World.shape?, hg]) (by omega) (by simp [World.frozen?, hv]) (by simp [World.frozen?, hv])]
  rfl
 have hcp1 : ∀ ty dc sc, (Builtin.copy_ #[45, 45] ty #[.slice (some ⟨g, (p + 1) * 6, none⟩) (n - p) dc, .slice (some ⟨g, p * 6, none⟩) (n + 1 - p) sc]).run Tryd.prog w.drew = .ok (goInt (Nat.min (n + 1 - p) (n - p))) (w.drew.setCells g ((p + 1) * 6) cs) := fun ty dc sc =>
  run_copy_wide w.drew _ _ ty 50 6 g ((p + 1) * 6) (n - p) dc ⟨g, p * 6, none⟩ (n + 1 - p) sc cs (by rw [Tryd.underlying45]) infoKey2 (by rw [hcl]; simp only [Nat.min_def]; split <;> omega)
   (fun j v hj => by
    have hj1 : j < (n - p) * 6 := by
     have := (List.getElem?_eq_some_iff.1 hj).1
     omega
    rw [Addr.add_lit]
    show w.cell? _ = _
    rw [block_cell hg]
    rw [hget j hj1] at hj
    simpa using hj)
   (fun j hj => by
    show (w.cell? _).isSome = true
    rw [block_cell hg, Array.getElem?_eq_getElem (by omega)]; rfl) (fun j hj => block_frozen hg _) h1s
 obtain ⟨W1, hW1⟩ : ∃ W1, W1 = w.drew.setCells g ((p + 1) * 6) cs := ⟨_, rfl⟩
 obtain ⟨cur1, hg1, hl1⟩ := heap_setCells cs ((p + 1) * 6) w.drew cur hg (by omega)
 rw [← hW1] at hg1
 have hs1 : cur1.size = cur.size := by
  have := congrArg List.length hl1
  rw [over_length _ _ _ (by simp; omega)] at this
  simpa using this
 have hv1 : W1.heap[vb]? = some (.cells vs.toArray 50 (0, 0)) := by rw [hW1, heap_setCells_ne _ _ _ _ hvb]; exact hv
 have hcp2 : ∀ (W : World), (∀ x, W.cell? x = W1.cell? x) → (∀ x, W.frozen? x = W1.frozen? x) → ∀ ty dc, (Builtin.copy_ #[45, 45] ty #[.slice (some ⟨g, p * 6, none⟩) (n + 1 - p) dc, .slice (some ⟨vb, 0, none⟩) 1 1]).run Tryd.prog W = .ok (goInt (Nat.min 1 (n + 1 - p))) (W.setCells g (p * 6) vs) := fun W hWc hWf ty dc =>
  run_copy_wide W _ _ ty 50 6 g (p * 6) (n + 1 - p) dc ⟨vb, 0, none⟩ 1 1 vs (by rw [Tryd.underlying45]) infoKey2 (by rw [hvl]; simp only [Nat.min_def]; split <;> omega)
   (fun j v hj => by rw [add0, hWc, block_cell hv1]; simpa using hj)
   (fun j hj => by rw [hWc, block_cell hg1, Array.getElem?_eq_getElem (by omega)]; rfl) (fun j hj => by rw [hWf]; exact block_frozen hg1 _) h1v
 have hcp1' := Hd.mk hcp1; have hcp2' := Hd.mk hcp2
 rw [← hW1] at hcp1
 have HW1 := Hd.mk hW1; have HCS := Hd.mk hcsd
 have hz2 : ¬ ((p : Int) = (n : Int)) := by omega
 have mixed : Tryd.prog.follows .mixedOrders = true := by kernel_rfl
 have hb1 : (0 : Int) ≤ (p : Int) + 1 := by omega
 have hin : p ≤ n := by omega
 have hpc : p ≤ c := by omega
 have hb3 : (p : Int) ≤ (n : Int) + 1 := by omega
 have hb2 : ¬ (c = p + 1) := by omega
 have hw1 : IntKind.i64.wrap ((p : Int) + 1) = (p : Int) + 1 := by rw [IntKind.wrap_i64]; omega
 have htn : ((p : Int) + 1).toNat = p + 1 := by omega
 have hb5 : (p : Int) + 1 ≤ (n : Int) + 1 := by omega
 have hb4 : ¬ (c = p) := by omega
 clear hW1 hcsd hg1 hl1 hs1 hv1 hget h1s hcl hg hv hcp1' h1c h1v hcs hvl
 go_enter Tryd.func26, Tryd.ntmps26
 go_wp2_with (simp only [hov])
 go_region_law_o (refine step_copy_runJ rfl _ _ 45 45 rfl _ _ (by simp [Act.eval, Act.put]) (by simp [Act.eval, Act.put]) (hcp1 _ _ _) ?_)
 go_wp2_with (at_builtin; refine wpList_copy_runJ _ rfl _ _ 45 45 rfl _ _ rfl rfl (hcp2'.out _ (fun _ => rfl) (fun _ => rfl) _ _) ?_)
 go_ret
 first | exact ⟨rfl, by rw [HW1.out, HCS.out]⟩ | exact ⟨rfl, by rw [← HCS.out, ← HW1.out]⟩
set_option maxHeartbeats 4000000 in
set_option maxRecDepth 100000 in
theorem slices_Insert_key_end {w0 : World} {m : Nat} {S S' T : Nat → Prop} (v : Value) (l : List Keyed) (x : Keyed) (cs : List Value) (vb : Nat) (w : World) (hR : (tKey w0 m).R 50 w S v l) (hv : w.heap[vb]? = some (.cells cs.toArray 50 (0, 0))) (hO : (tKey w0 m).O w T x cs)
  (hST : ∀ k, T k → ¬ S k) (hS : ∀ k, S k → S' k) (hT : ∀ k, T k → S' k) (hnew : ∀ k, w.heap.size ≤ k → S' k) (hlen : l.length ≤ 4194304) :
  Calls Tryd.prog 26 #[v, .int .i64 l.length, .slice (some ⟨vb, 0, none⟩) 1 1] w fun e w' => ∃ v', e = .returned v' ∧ (tKey w0 m).R 50 w' S' v' (l ++ [x]) ∧ Fr w w' S := by
 have hcl : cs.length = 6 := (tKey w0 m).K_len ((tKey w0 m).O_K hO)
 have HR := Hd.mk hR
 have HO := Hd.mk hO; have HST := Hd.mk hST
 have hc : Hd (∀ j u, cs[j]? = some u → ∃ ad, (some (⟨vb, 0, none⟩ : Addr)) = some ad ∧ w.cell? (ad.add j) = some u) := ⟨fun j u hu => ⟨_, rfl, by rw [add0, block_cell hv]; simpa using hu⟩⟩
 have H1 := Hd.mk ((tKey w0 m).K_one ((tKey w0 m).O_K hO))
 have HOO : Hd (∀ i y, [x][i]? = some y → (tKey w0 m).O w ((fun i k => i = 0 ∧ T k) i) y ((cs.drop (i * (tKey w0 m).sz)).take (tKey w0 m).sz)) := ⟨fun i y hi => by
  rcases i with _ | i
  ·simp at hi
   subst hi
   have he : (cs.drop (0 * (tKey w0 m).sz)).take (tKey w0 m).sz = cs := by rw [Nat.zero_mul, List.drop_zero, List.take_of_length_le (by rw [hcl]; exact Nat.le_refl 6)]
   rw [he]
   exact (tKey w0 m).O_mono (fun k hk => ⟨rfl, hk⟩) hO
  ·simp at hi⟩
 have HL := Hd.mk (show cs.length = 1 * (tKey w0 m).sz from hcl)
 have hform : (v = .slice none 0 0 ∧ l.length = 0) ∨ ∃ g c, v = .slice (some ⟨g, 0, none⟩) l.length c ∧ l.length ≤ c ∧ c ≤ 9223372036854775807 := by
  obtain ⟨inner, f, ⟨_, ho⟩, _, _⟩ := hR
  rcases ho with ⟨h1, h2⟩ | ⟨g, cap, cur, h1, _, _, h2, h3, _⟩
  ·exact .inl ⟨h1, h2⟩
  ·simp only [maxLen] at h3
   exact .inr ⟨g, cap, h1, h2, by omega⟩
 clear hR hv hO hcl
 rcases hform with ⟨rfl, h0⟩ | ⟨g, c, rfl, h1, h2⟩
 ·obtain rfl : l = [] := List.eq_nil_of_length_eq_zero h0
  go_enter Tryd.func26, Tryd.ntmps26
  go_wp2_with (at_builtin; refine append_gen (tKey w0 m) rfl _ _ 45 50 (.agg #[.int .i64 0, .int .i64 0, .int .i64 0, .string ByteArray.empty, .slice none 0 0, .slice none 0 0]) 88 rfl Tryd.underlying45 info_KeyS rfl (show 0 < 6 by decide) (by decide) (S := S) (S' := S') (v := .slice none 0 0) (xs := []) (ys := [x]) (fun i k => i = 0 ∧ T k) (some ⟨vb, 0, none⟩) 1 1 cs rfl rfl HR.out rfl HL.out hc.out H1.out HOO.out (fun i j k h1 h2 => by rw [h1.1, h2.1]) (fun i k h => HST.out k h.2) hS (fun i k h => hT k h.2) hnew (by simp) (fun v1 w1 hv1 hf1 => ?_))
  go_wp2_with fail
  go_ret
  exact ⟨_, rfl, hv1, hf1⟩
 ·go_enter Tryd.func26, Tryd.ntmps26
  go_wp2_with (at_builtin; refine append_gen (tKey w0 m) rfl _ _ 45 50 (.agg #[.int .i64 0, .int .i64 0, .int .i64 0, .string ByteArray.empty, .slice none 0 0, .slice none 0 0]) 88 rfl Tryd.underlying45 info_KeyS rfl (show 0 < 6 by decide) (by decide) (S := S) (S' := S') (v := .slice (some ⟨g, 0, none⟩) l.length c) (xs := l) (ys := [x]) (fun i k => i = 0 ∧ T k) (some ⟨vb, 0, none⟩) 1 1 cs rfl rfl HR.out rfl HL.out hc.out H1.out HOO.out (fun i j k h1 h2 => by rw [h1.1, h2.1]) (fun i k h => HST.out k h.2) hS (fun i k h => hT k h.2) hnew (by omega) (fun v1 w1 hv1 hf1 => ?_))
  all_goals (try go_wp2_with fail)
  all_goals (go_ret; exact ⟨_, rfl, hv1, hf1⟩)
set_option maxHeartbeats 4000000 in
set_option maxRecDepth 100000 in
theorem slices_Insert_key_grow (g c n p vb : Nat) (cur : Array Value) (vs : List Value) (w : World) (hp : p < n) (hnc : n ≤ c) (hroom : c < n + 1) (hbig : n ≤ 4194304)
  (hg : w.heap[g]? = some (.cells cur 50 (0, 0))) (hcs : cur.size = c * 6) (hv : w.heap[vb]? = some (.cells vs.toArray 50 (0, 0))) (hvl : vs.length = 6)
  (h1c : ∀ k u, k < n * 6 → cur.toList[k]? = some u → u.oneCell' = true) (h1v : ∀ v ∈ vs, v.oneCell' = true) :
  Calls Tryd.prog 26 #[.slice (some ⟨g, 0, none⟩) n c, .int .i64 p, .slice (some ⟨vb, 0, none⟩) 1 1] w fun e w' =>
   ∃ (G : Nat) (ROW : Array Value), n + 1 ≤ G ∧ G ≤ 9223372036854775807 ∧ ROW.size = G * 6 ∧ ROW.toList.take (p * 6) = cur.toList.take (p * 6) ∧
   e = .returned (.slice (some ⟨w.heap.size, 0, none⟩) (n + 1) G) ∧ w' = (((w.alloc (.cells ROW 50)).drew.setCells w.heap.size (p * 6) vs).drew).setCells w.heap.size ((p + 1) * 6) ((cur.toList.drop (p * 6)).take ((n - p) * 6)) := by
 obtain ⟨cs, hcsd⟩ : ∃ cs, cs = (cur.toList.drop (p * 6)).take ((n - p) * 6) := ⟨_, rfl⟩
 have hcl : cs.length = (n - p) * 6 := by rw [hcsd]; simp; omega
 have hget : ∀ t, t < (n - p) * 6 → cs[t]? = cur.toList[p * 6 + t]? := fun t ht => by rw [hcsd, List.getElem?_take, if_pos ht, List.getElem?_drop]
 have h1s : ∀ u ∈ cs, u.oneCell' = true := fun u hu => by
  obtain ⟨t, ht⟩ := List.mem_iff_getElem?.1 hu
  have ht1 : t < (n - p) * 6 := by
   have := (List.getElem?_eq_some_iff.1 ht).1
   omega
  rw [hget t ht1] at ht
  exact h1c (p * 6 + t) u (by omega) ht
 have hgw : g < w.heap.size := (Array.getElem?_eq_some_iff.1 hg).1
 have hvw : vb < w.heap.size := (Array.getElem?_eq_some_iff.1 hv).1
 obtain ⟨i0, hif, hzz⟩ := Option.map_eq_some_iff.1 info_KeyS
 simp only [Prod.mk.injEq] at hzz
 obtain ⟨hz0, hz1, hz2⟩ := hzz
 have hold : (Builtin.firstCells i0.size p (.slice (some ⟨g, 0, none⟩) p c)).run Tryd.prog w.drew = .ok (cur.toList.take (p * 6)).toArray w.drew := by
  rw [hz1]
  exact run_firstCells_some w.drew 6 p ⟨g, 0, none⟩ p c (cur.toList.take (p * 6)) (by simp; omega) (fun j v hj => by
   rw [add0]
   show w.cell? _ = _
   rw [block_cell hg]
   rw [List.getElem?_take] at hj
   split at hj
   ·simpa using hj
   ·cases hj)
 obtain ⟨G, hG⟩ : ∃ G, G = grownCap w (n + 1) c 50 := ⟨_, rfl⟩
 obtain ⟨ROW, hROW⟩ : ∃ ROW : Array Value, ROW = (cur.toList.take (p * 6)).toArray ++ Builtin.zeroCells (Value.agg #[.int .i64 0, .int .i64 0, .int .i64 0, .string ByteArray.empty, .slice none 0 0, .slice none 0 0]).cells (n + 1 - p) ++ Builtin.zeroCells (Value.agg #[.int .i64 0, .int .i64 0, .int .i64 0, .string ByteArray.empty, .slice none 0 0, .slice none 0 0]).cells (G - (n + 1)) := ⟨_, rfl⟩
 have hGn : n + 1 ≤ G := by rw [hG]; exact grownCap_ge w _ _ _
 have hG63 : G ≤ 9223372036854775807 := by
  have := grownCap_le_maxLen w (n + 1) c 50 (by unfold maxLen; omega)
  rw [← hG] at this
  unfold maxLen at this
  omega
 have hRsz : ROW.size = G * 6 := by
  rw [hROW]
  simp [Builtin.zeroCells, Value.cells]
  omega
 have hRtk : ROW.toList.take (p * 6) = cur.toList.take (p * 6) := by
  rw [hROW]
  simp only [Array.toList_append, List.append_assoc]
  rw [List.take_append_of_le_length (by simp; omega), List.take_of_length_le (by simp; omega)]
 have hrz : ∀ ty, (Builtin.append_ #[45, 3] ty #[.slice (some ⟨g, 0, none⟩) p c, .int .i64 ((n : Int) + 1 - (p : Int))]).run Tryd.prog w =
   .ok (.slice (some ⟨w.heap.size, 0, none⟩) (n + 1) G) (w.drew.alloc (.cells ROW 50)) := fun ty => by
  have h := Lib.run_append_grow_zeros (P := Tryd.prog) w 45 3 ty 50 i0 _ .i64 .i64 (by rw [Tryd.underlying45]) (by rw [Tryd.underlying3]) hif hz0 (some ⟨g, 0, none⟩) p c (cur.toList.take (p * 6)) hold (n + 1 - p) (by omega) (by omega) (by omega) (by omega) (by rw [hz2]; omega) (by rw [hz2, show p + (n + 1 - p) = n + 1 by omega]; exact growslice_fits hroom (by omega))
  rw [show p + (n + 1 - p) = n + 1 by omega, ← hG, ← hROW] at h
  rw [show (n : Int) + 1 - (p : Int) = ((n + 1 - p : Nat) : Int) by omega]
  exact h
 obtain ⟨W1, hW1⟩ : ∃ W1, W1 = w.drew.alloc (.cells ROW 50) := ⟨_, rfl⟩
 have hN : W1.heap[w.heap.size]? = some (.cells ROW 50 (0, 0)) := by rw [hW1]; exact heap_alloc_new w.drew _
 have hOb : ∀ k, k < w.heap.size → W1.heap[k]? = w.heap[k]? := fun k hk => by rw [hW1]; exact (below_alloc (Below.refl w.drew.heap.size w.drew) _).block k hk
 rw [← hW1] at hrz
 have hcpA : ∀ (W : World), (∀ x, W.cell? x = W1.cell? x) → (∀ x, W.frozen? x = W1.frozen? x) → ∀ ty dc, (Builtin.copy_ #[45, 45] ty #[.slice (some ⟨w.heap.size, p * 6, none⟩) (n + 1 - p) dc, .slice (some ⟨vb, 0, none⟩) 1 1]).run Tryd.prog W = .ok (goInt (Nat.min 1 (n + 1 - p))) (W.setCells w.heap.size (p * 6) vs) := fun W hWc hWf ty dc =>
  run_copy_wide W _ _ ty 50 6 w.heap.size (p * 6) (n + 1 - p) dc ⟨vb, 0, none⟩ 1 1 vs (by rw [Tryd.underlying45]) infoKey2 (by rw [hvl]; simp only [Nat.min_def]; split <;> omega)
   (fun j v hj => by rw [add0, hWc, block_cell (by rw [hOb vb hvw]; exact hv)]; simpa using hj)
   (fun j hj => by rw [hWc, block_cell hN, Array.getElem?_eq_getElem (by omega)]; rfl) (fun j hj => by rw [hWf]; exact block_frozen hN _) h1v
 obtain ⟨W2, hW2⟩ : ∃ W2, W2 = W1.setCells w.heap.size (p * 6) vs := ⟨_, rfl⟩
 obtain ⟨ROW2, hN2, hl2⟩ := heap_setCells vs (p * 6) W1 ROW hN (by omega)
 rw [← hW2] at hN2
 have hsz2 : ROW2.size = ROW.size := by
  have := congrArg List.length hl2
  rw [over_length _ _ _ (by simp; omega)] at this
  simpa using this
 have hOb2 : W2.heap[g]? = some (.cells cur 50 (0, 0)) := by rw [hW2, heap_setCells_ne _ _ _ _ (by omega), hOb g hgw]; exact hg
 have hcpB : ∀ (W : World), (∀ x, W.cell? x = W2.cell? x) → (∀ x, W.frozen? x = W2.frozen? x) → ∀ ty dc sc, (Builtin.copy_ #[45, 45] ty #[.slice (some ⟨w.heap.size, (p + 1) * 6, none⟩) (n - p) dc, .slice (some ⟨g, p * 6, none⟩) (n - p) sc]).run Tryd.prog W = .ok (goInt (Nat.min (n - p) (n - p))) (W.setCells w.heap.size ((p + 1) * 6) cs) := fun W hWc hWf ty dc sc =>
  run_copy_wide W _ _ ty 50 6 w.heap.size ((p + 1) * 6) (n - p) dc ⟨g, p * 6, none⟩ (n - p) sc cs (by rw [Tryd.underlying45]) infoKey2 (by rw [hcl]; simp only [Nat.min_def]; split <;> omega)
   (fun j v hj => by
    have hj1 : j < (n - p) * 6 := by
     have := (List.getElem?_eq_some_iff.1 hj).1
     omega
    rw [Addr.add_lit, hWc, block_cell hOb2]
    rw [hget j hj1] at hj
    simpa using hj)
   (fun j hj => by rw [hWc, block_cell hN2, Array.getElem?_eq_getElem (by omega)]; rfl) (fun j hj => by rw [hWf]; exact block_frozen hN2 _) h1s
 have HA := Hd.mk hcpA; have HB := Hd.mk hcpB; have HZ := Hd.mk hrz; have HW1 := Hd.mk hW1; have HW2 := Hd.mk hW2; have HCS := Hd.mk hcsd
 have HRs := Hd.mk hRsz; have HRt := Hd.mk hRtk; have HGn := Hd.mk hGn; have HG63 := Hd.mk hG63
 have hz2' : ¬ ((p : Int) = (n : Int)) := by omega
 have hz3 : (c : Int) < (n : Int) + 1 := by omega
 have mixed : Tryd.prog.follows .mixedOrders = true := by kernel_rfl
 have hb1 : (0 : Int) ≤ (p : Int) + 1 := by omega
 have hin : p ≤ n := by omega
 have hpc : p ≤ c := by omega
 have hb3 : (p : Int) ≤ (n : Int) := by omega
 have hb2 : ¬ (G = p + 1) := by omega
 have hb4 : ¬ (c = p) := by omega
 have hb6 : ¬ (G = p) := by omega
 have hw1 : IntKind.i64.wrap ((p : Int) + 1) = (p : Int) + 1 := by rw [IntKind.wrap_i64]; omega
 have htn : ((p : Int) + 1).toNat = p + 1 := by omega
 have hb5 : (p : Int) + 1 ≤ (n : Int) + 1 := by omega
 have hE1 : ∀ x, ((w.alloc (.cells ROW 50)).drew).cell? x = W1.cell? x := fun x => by rw [hW1]; rfl
 have hE2 : ∀ x, ((w.alloc (.cells ROW 50)).drew).frozen? x = W1.frozen? x := fun x => by rw [hW1]; rfl
 clear hW1 hW2 hcsd hget h1s hcl hg hv h1c h1v hcs hvl hif hz0 hz1 hz2 hold hG hROW hRsz hRtk hN hOb hrz hcpA hcpB hN2 hl2 hsz2 hOb2 hgw hvw
 go_enter Tryd.func26, Tryd.ntmps26
 have hA : ∀ ty dc, (Builtin.copy_ #[45, 45] ty #[.slice (some ⟨w.heap.size, p * 6, none⟩) (n + 1 - p) dc, .slice (some ⟨vb, 0, none⟩) 1 1]).run Tryd.prog W1 = .ok (goInt (Nat.min 1 (n + 1 - p))) W2 := fun ty dc => by rw [HW2.out]; exact HA.out W1 (fun _ => rfl) (fun _ => rfl) ty dc
 go_wp2_with (at_builtin; refine Lib.wpList_append_run _ rfl _ _ _ _ rfl _ _ rfl rfl _ _ (HZ.out _) ?_)
 have hB2 := HB.out W2.drew (fun _ => rfl) (fun _ => rfl)
 go_region
 go_wp2
 go_ret
 refine ⟨G, ROW, HGn.out, HG63.out, HRs.out, HRt.out, rfl, ?_⟩
 rw [HW2.out, HW1.out, HCS.out]
 rfl
theorem ins_get_key {α : Type} (l : List α) (x : α) (p i : Nat) (hp : p ≤ l.length) : (l.take p ++ x :: l.drop p)[i]? = if i < p then l[i]? else if i = p then some x else l[i - 1]? := by
 have h1 : (l.take p).length = p := by simp; omega
 by_cases h : i < p
 ·rw [if_pos h, List.getElem?_append_left (by omega), List.getElem?_take, if_pos h]
 ·rw [if_neg h, List.getElem?_append_right (by omega), h1]
  by_cases h2 : i = p
  ·subst h2
   rw [if_pos rfl, Nat.sub_self]; rfl
  ·rw [if_neg h2, show i - p = (i - p - 1) + 1 by omega, List.getElem?_cons_succ, List.getElem?_drop]
   congr 1; omega
theorem R_inserted_key {w0 : World} {m : Nat} {S S' T : Nat → Prop} {w W : World} {g0 g c c' p : Nat} {l : List Keyed} {x : Keyed} {cs : List Value} {cur cur2 : Array Value} {Tp : Nat → Nat → Prop} (hp : p < l.length) (hcl : cs.length = 6)
  (hb : W.heap[g]? = some (.cells cur2 50 (0, 0))) (hg : S' g) (hn : l.length + 1 ≤ c') (hm : c' ≤ 9223372036854775807) (hc : cur2.size = c' * 6)
  (hT : ∀ i b, Tp i b → S b ∧ b ≠ g ∧ b < w.heap.size) (hd : ∀ i j b, Tp i b → Tp j b → i = j) (hO : ∀ i x, l[i]? = some x → (tKey w0 m).O w (Tp i) x ((cur.toList.drop (i * 6)).take 6))
  (hx : (tKey w0 m).O w T x cs) (hST : ∀ k, T k → ¬ S k) (hTg : ∀ k, T k → k ≠ g) (hS : ∀ k, S k → S' k) (hTS : ∀ k, T k → S' k) (hmv : ∀ k, k < w.heap.size → k ≠ g → W.heap[k]? = w.heap[k]?)
  (h1 : ∀ k, k < p * 6 → cur2.toList[k]? = cur.toList[k]?) (h2 : ∀ k, k < 6 → cur2.toList[p * 6 + k]? = cs[k]?) (h3 : ∀ k, k < (l.length - p) * 6 → cur2.toList[(p + 1) * 6 + k]? = cur.toList[p * 6 + k]?) :
  (tKey w0 m).R 50 W S' (.slice (some ⟨g, 0, none⟩) (l.length + 1) c') (l.take p ++ x :: l.drop p) := by
 have hlen : (l.take p ++ x :: l.drop p).length = l.length + 1 := by simp; omega
 have h := R_of_parts (d := (tKey w0 m)) (e := 50) (w := W) (S := S') (xs := l.take p ++ x :: l.drop p) (cap := c') hb hg (by omega) hm hc (fun i => if i < p then Tp i else if i = p then (fun k => T k ∧ k < w.heap.size) else Tp (i - 1)) (fun i b hi => ?_) (fun i j b hi hj => ?_) (fun i y hy => ?_)
 ·rw [hlen] at h; exact h
 ·by_cases c1 : i < p
  ·simp only [if_pos c1] at hi; exact ⟨hS _ (hT _ _ hi).1, (hT _ _ hi).2.1⟩
  ·by_cases c2 : i = p
   ·simp only [if_neg c1, if_pos c2] at hi; exact ⟨hTS _ hi.1, hTg _ hi.1⟩
   ·simp only [if_neg c1, if_neg c2] at hi; exact ⟨hS _ (hT _ _ hi).1, (hT _ _ hi).2.1⟩
 ·by_cases c1 : i < p <;> by_cases d1 : j < p
  ·simp only [if_pos c1, if_pos d1] at hi hj; exact hd _ _ _ hi hj
  ·by_cases d2 : j = p
   ·simp only [if_pos c1, if_neg d1, if_pos d2] at hi hj; exact absurd (hT _ _ hi).1 (hST _ hj.1)
   ·simp only [if_pos c1, if_neg d1, if_neg d2] at hi hj; have := hd _ _ _ hi hj; omega
  ·by_cases c2 : i = p
   ·simp only [if_neg c1, if_pos c2, if_pos d1] at hi hj; exact absurd (hT _ _ hj).1 (hST _ hi.1)
   ·simp only [if_neg c1, if_neg c2, if_pos d1] at hi hj; have := hd _ _ _ hi hj; omega
  ·by_cases c2 : i = p <;> by_cases d2 : j = p
   ·omega
   ·simp only [if_neg c1, if_pos c2, if_neg d1, if_neg d2] at hi hj; exact absurd (hT _ _ hj).1 (hST _ hi.1)
   ·simp only [if_neg c1, if_neg c2, if_neg d1, if_pos d2] at hi hj; exact absurd (hT _ _ hi).1 (hST _ hj.1)
   ·simp only [if_neg c1, if_neg c2, if_neg d1, if_neg d2] at hi hj; have := hd _ _ _ hi hj; omega
 ·have hil : i < l.length + 1 := by rw [← hlen]; exact (List.getElem?_eq_some_iff.1 hy).1
  rw [ins_get_key _ _ _ _ (by omega)] at hy
  show (tKey w0 m).O W _ y ((cur2.toList.drop (i * 6)).take 6)
  by_cases c1 : i < p
  ·rw [if_pos c1] at hy
   simp only [if_pos c1]
   rw [cut_eq cur2.toList cur.toList (i * 6) (i * 6) 6 (fun k hk => h1 _ (by omega))]
   exact (tKey w0 m).O_move (fun k hk => hmv k (hT _ _ hk).2.2 (hT _ _ hk).2.1) (hO i y hy)
  ·by_cases c2 : i = p
   ·rw [if_neg c1, if_pos c2] at hy
    injection hy with hy
    subst hy
    simp only [if_neg c1, if_pos c2]
    rw [cut_eq cur2.toList cs (i * 6) 0 6 (fun k hk => by rw [c2, h2 k hk, Nat.zero_add]), List.drop_zero, List.take_of_length_le (by omega)]
    exact (tKey w0 m).O_move (fun k hk => hmv k hk.2 (hTg _ hk.1)) ((tKey w0 m).O_bound hx)
   ·rw [if_neg c1, if_neg c2] at hy
    simp only [if_neg c1, if_neg c2]
    rw [cut_eq cur2.toList cur.toList (i * 6) ((i - 1) * 6) 6 (fun k hk => by
     have := h3 ((i - 1 - p) * 6 + k) (by omega)
     rw [show (p + 1) * 6 + ((i - 1 - p) * 6 + k) = i * 6 + k by omega, show p * 6 + ((i - 1 - p) * 6 + k) = (i - 1) * 6 + k by omega] at this
     exact this)]
    exact (tKey w0 m).O_move (fun k hk => hmv k (hT _ _ hk).2.2 (hT _ _ hk).2.1) (hO (i - 1) y hy)
theorem slices_Insert_key {w0 : World} {m : Nat} {S S' T : Nat → Prop} (v : Value) (l : List Keyed) (x : Keyed) (cs : List Value) (vb p : Nat) (w : World) (hR : (tKey w0 m).R 50 w S v l) (hp : p ≤ l.length) (hv : w.heap[vb]? = some (.cells cs.toArray 50 (0, 0))) (hO : (tKey w0 m).O w T x cs)
  (hST : ∀ k, T k → ¬ S k) (hvS : ¬ S vb) (hS : ∀ k, S k → S' k) (hT : ∀ k, T k → k < w.heap.size ∧ S' k) (hnew : ∀ k, w.heap.size ≤ k → S' k) (hlen : l.length ≤ 4194304) :
  Calls Tryd.prog 26 #[v, .int .i64 p, .slice (some ⟨vb, 0, none⟩) 1 1] w fun e w' => ∃ v', e = .returned v' ∧ (tKey w0 m).R 50 w' S' v' (l.take p ++ x :: l.drop p) ∧ Fr w w' S := by
 rcases Nat.lt_or_ge p l.length with hp1 | hp1
 ·obtain ⟨g, c, rfl, _, _⟩ := R_form hR (by omega)
  obtain ⟨cur, Tp, hh, hg, _, hn, hm, hsz, hTp, hd, hE⟩ := R_parts hR
  have hsz : cur.size = c * 6 := hsz
  have hE : ∀ i x, l[i]? = some x → (tKey w0 m).O w (Tp i) x ((cur.toList.drop (i * 6)).take 6) := hE
  have hcl : cs.length = 6 := (tKey w0 m).K_len ((tKey w0 m).O_K hO)
  have hgw : g < w.heap.size := (Array.getElem?_eq_some_iff.1 hh).1
  have hvg : vb ≠ g := fun e => hvS (e ▸ hg)
  have h1c : ∀ k u, k < l.length * 6 → cur.toList[k]? = some u → u.oneCell' = true := fun k u hk hu => parts_one (d := (tKey w0 m)) (T := Tp) (xs := l) hE hk hu
  have h1v := (tKey w0 m).K_one ((tKey w0 m).O_K hO)
  have hTg : ∀ k, T k → k ≠ g := fun k hk e => hST k hk (e ▸ hg)
  have hAl : ((cur.toList.drop (p * 6)).take ((l.length - p) * 6)).length = (l.length - p) * 6 := by simp; omega
  by_cases hroom : l.length + 1 ≤ c
  ·refine (slices_Insert_key_shift g c l.length p vb cur cs w hp1 hroom hm hvg hh hsz hv hcl h1c h1v).mono ?_
   rintro e w' ⟨rfl, rfl⟩
   obtain ⟨cur1, hb1, hl1⟩ := heap_setCells ((cur.toList.drop (p * 6)).take ((l.length - p) * 6)) ((p + 1) * 6) w.drew cur hh (by rw [hAl]; omega)
   have hz1 : cur1.size = cur.size := by
    have := congrArg List.length hl1
    rw [over_length _ _ _ (by rw [hAl]; simp; omega)] at this
    simpa using this
   obtain ⟨cur2, hb2, hl2⟩ := heap_setCells cs (p * 6) _ cur1 hb1 (by omega)
   have hz2 : cur2.size = cur1.size := by
    have := congrArg List.length hl2
    rw [over_length _ _ _ (by simp; omega)] at this
    simpa using this
   refine ⟨_, rfl, R_inserted_key (cur := cur) (w := w) (S := S) (T := T) (g0 := g) (c := c) hp1 hcl hb2 (hS _ hg) hroom hm (by omega) hTp hd hE hO hST hTg hS (fun k hk => (hT k hk).2) (fun k hk hne => ?_) (fun k hk => ?_) (fun k hk => ?_) (fun k hk => ?_), ?_⟩
   ·rw [heap_setCells_ne _ _ _ _ hne, heap_setCells_ne _ _ _ _ hne]; rfl
   ·rw [hl2, over_get _ _ _ (by simp; omega), if_neg (by omega), hl1, over_get _ _ _ (by rw [hAl]; simp; omega), if_neg (by omega)]
   ·rw [hl2, over_get _ _ _ (by simp; omega), if_pos (by omega)]; congr 1; omega
   ·rw [hl2, over_get _ _ _ (by simp; omega), if_neg (by omega), hl1, over_get _ _ _ (by rw [hAl]; simp; omega), if_pos (by rw [hAl]; omega), List.getElem?_take, if_pos (by omega), List.getElem?_drop]
    congr 1; omega
   ·exact setCells_fr (fun _ => hg) _ _ _ (setCells_fr (fun _ => hg) _ _ _ (Fr.refl w S).drew)
  ·refine (slices_Insert_key_grow g c l.length p vb cur cs w hp1 hn (by omega) hlen hh hsz hv hcl h1c h1v).mono ?_
   rintro e w' ⟨G, ROW, hG, hG63, hRs, hRt, rfl, rfl⟩
   have hbA : ((w.alloc (.cells ROW 50)).drew).heap[w.heap.size]? = some (.cells ROW 50 (0, 0)) := heap_alloc_new w _
   obtain ⟨cur1, hb1, hl1⟩ := heap_setCells cs (p * 6) _ ROW hbA (by omega)
   have hz1 : cur1.size = ROW.size := by
    have := congrArg List.length hl1
    rw [over_length _ _ _ (by simp; omega)] at this
    simpa using this
   obtain ⟨cur2, hb2, hl2⟩ := heap_setCells ((cur.toList.drop (p * 6)).take ((l.length - p) * 6)) ((p + 1) * 6) (((w.alloc (.cells ROW 50)).drew.setCells w.heap.size (p * 6) cs).drew) cur1 hb1 (by rw [hAl]; omega)
   have hz2 : cur2.size = cur1.size := by
    have := congrArg List.length hl2
    rw [over_length _ _ _ (by rw [hAl]; simp; omega)] at this
    simpa using this
   refine ⟨_, rfl, R_inserted_key (cur := cur) (w := w) (S := S) (T := T) (g0 := g) (c := c) hp1 hcl hb2 (hnew _ (Nat.le_refl _)) hG hG63 (by omega) (fun i b hb => ⟨(hTp i b hb).1, by have := (hTp i b hb).2.2; omega, (hTp i b hb).2.2⟩) hd hE hO hST (fun k hk => by have := (hT k hk).1; omega) hS (fun k hk => (hT k hk).2) (fun k hk hne => ?_) (fun k hk => ?_) (fun k hk => ?_) (fun k hk => ?_), ?_⟩
   ·rw [heap_setCells_ne _ _ _ _ hne]
    show ((w.alloc (.cells ROW 50)).drew.setCells w.heap.size (p * 6) cs).heap[k]? = _
    rw [heap_setCells_ne _ _ _ _ hne]
    exact (below_alloc (Below.refl w.heap.size w) _).block k hk
   ·rw [hl2, over_get _ _ _ (by rw [hAl]; simp; omega), if_neg (by omega), hl1, over_get _ _ _ (by simp; omega), if_neg (by omega)]
    have := congrArg (fun z : List Value => z[k]?) hRt
    simpa [List.getElem?_take, hk] using this
   ·rw [hl2, over_get _ _ _ (by rw [hAl]; simp; omega), if_neg (by omega), hl1, over_get _ _ _ (by simp; omega), if_pos (by omega)]; congr 1; omega
   ·rw [hl2, over_get _ _ _ (by rw [hAl]; simp; omega), if_pos (by rw [hAl]; omega), List.getElem?_take, if_pos (by omega), List.getElem?_drop]
    congr 1; omega
   ·refine setCells_fr (fun h => absurd h (Nat.lt_irrefl _)) _ _ _ (Fr.drew (setCells_fr (fun h => absurd h (Nat.lt_irrefl _)) _ _ _ (((Fr.refl w S).alloc _).drew)))
 ·obtain rfl : p = l.length := by omega
  refine (slices_Insert_key_end (S' := S') v l x cs vb w hR hv hO hST hS (fun k hk => (hT k hk).2) hnew hlen).mono ?_
  rintro e w' ⟨v', rfl, h1, h2⟩
  exact ⟨v', rfl, by rw [List.take_length, List.drop_length]; exact h1, h2⟩
end Go.Proofs.YtegcecnjmimbiaaDoor.X
namespace Go.Proofs.YtegcecnjmimbiaaDoor.X
open Go.RowKit Go.Sort
set_option linter.unusedVariables false
set_option linter.unusedSimpArgs false
open Ty
theorem remO_O {m : Nat} {w : World} {T : Nat → Prop} {v : Value} {i : Nat} (h : str.R 9 w T v [numS i]) : (tOp (m + 1)).O w T (remO i) [.int .i64 2, v, .int .i64 0, .int .i64 0, .string ⟨#[]⟩, .slice none 0 0, .slice none 0 0] :=
 tOp_O.2 ⟨v, _, T, fun _ => False, rfl, h, ZJ m _ _, fun k hk => hk, fun k h => h.elim, fun k _ h => h⟩
theorem valO_O {m : Nat} {w : World} {T0 T1 T : Nat → Prop} {v : Value} {i : Nat} {kd : Int} {x : J} {c : List Value} (h : str.R 9 w T0 v [numS i]) (hx : (tJ (m + 1)).O w T1 x c) (h0 : ∀ k, T0 k → T k) (h1 : ∀ k, T1 k → T k) (hd : ∀ k, T0 k → ¬ T1 k) : (tOp (m + 1)).O w T ⟨kd, [numS i], x⟩ (.int .i64 kd :: v :: c) :=
 tOp_O.2 ⟨v, _, T0, T1, rfl, h, hx, h0, h1, hd⟩
theorem R_key_at {w0 w : World} {m : Nat} {S : Nat → Prop} {g n c : Nat} {l : List Keyed} (h : (tKey w0 m).R 50 w S (.slice (some ⟨g, 0, none⟩) n c) l) (q : Nat) (hq : q < l.length) : ∃ A1 c1 A2 c2, (tJ (m + 1)).K w0 l[q].val [.int .i64 l[q].val.kind, .int .i64 l[q].val.n, .string l[q].val.s, .slice A1 l[q].val.list.length c1, .slice A2 l[q].val.names.length c2] ∧
  w.cell? ⟨g, q * 6, none⟩ = some (.int .i64 l[q].key) ∧ w.cell? ⟨g, q * 6 + 1, none⟩ = some (.int .i64 l[q].val.kind) ∧ w.cell? ⟨g, q * 6 + 2, none⟩ = some (.int .i64 l[q].val.n) ∧ w.cell? ⟨g, q * 6 + 3, none⟩ = some (.string l[q].val.s) ∧
  w.cell? ⟨g, q * 6 + 4, none⟩ = some (.slice A1 l[q].val.list.length c1) ∧ w.cell? ⟨g, q * 6 + 5, none⟩ = some (.slice A2 l[q].val.names.length c2) := by
 obtain ⟨A, c', he, _, hC⟩ := R_C h
 injection he with e1 e2 e3
 subst e1
 obtain ⟨ad, A1, c1, A2, c2, ha, hK, x0, x1, x2, x3, x4, x5⟩ := tKey_C hC (Below.refl _ _) q hq
 injection ha with ha
 subst ha
 rw [Addr.add_lit, Nat.zero_add] at x0 x1 x2 x3 x4 x5
 exact ⟨A1, c1, A2, c2, hK, x0, x1, x2, x3, x4, x5⟩
structure RowsM (m : Nat) (w wr : World) (SN : Nat → Prop) (vN : Value) (N : List Keyed) (vl vo : Value) (L : List Keyed) (O : List JOp) (SL SO : Nat → Prop) : Prop where
 rl : (tKey w m).R 50 wr SL vl L
 ro : (tOp (m + 1)).R 53 wr SO vo O
 rn : (tKey w m).R 50 wr SN vN N
 sl : ∀ k, SL k → w.heap.size ≤ k ∧ k < wr.heap.size ∧ ¬ SO k ∧ ¬ SN k
 so : ∀ k, SO k → w.heap.size ≤ k ∧ k < wr.heap.size ∧ ¬ SN k
 sn : ∀ k, SN k → w.heap.size ≤ k ∧ k < wr.heap.size
 bl : Below w.heap.size w wr
namespace RowsM
variable {m : Nat} {w wr wa w1 : World} {SN SL SO : Nat → Prop} {vN vl vo v1 : Value} {N L L' : List Keyed} {O O' : List JOp}
theorem below (h : RowsM m w wr SN vN N vl vo L O SL SO) (hb : Below wr.heap.size wr w1) : RowsM m w w1 SN vN N vl vo L O SL SO :=
 ⟨R_below h.rl hb, R_below h.ro hb, R_below h.rn hb, fun k hk => by have h1 := h.sl k hk; have h2 := hb.size; exact ⟨h1.1, by omega, h1.2.2⟩, fun k hk => by have h1 := h.so k hk; have h2 := hb.size; exact ⟨h1.1, by omega, h1.2.2⟩, fun k hk => by have h1 := h.sn k hk; have h2 := hb.size; omega, below_then h.bl hb⟩
theorem op (h : RowsM m w wr SN vN N vl vo L O SL SO) (hb : Below wr.heap.size wr wa) (hv : (tOp (m + 1)).R 53 w1 (fun q => SO q ∨ wr.heap.size ≤ q) v1 O') (hf : Fr wa w1 SO) :
  RowsM m w w1 SN vN N vl v1 L O' SL (fun q => (SO q ∨ wr.heap.size ≤ q) ∧ q < w1.heap.size) := by
 have h2 := h.below hb
 have hz := hf.size
 have hz2 := hb.size
 refine ⟨R_fr h2.rl hf (fun k hk _ hs => (h.sl k hk).2.2.1 hs), R_bound hv, R_fr h2.rn hf (fun k hk _ hs => (h.so k hs).2.2 hk), fun k hk => ?_, fun k hk => ?_, fun k hk => ?_, below_frS h2.bl hf (fun k hk => (h.so k hk).1)⟩
 ·have h3 := h.sl k hk
  refine ⟨h3.1, by omega, fun hs => ?_, h3.2.2.2⟩
  rcases hs.1 with h4 | h4
  ·exact h3.2.2.1 h4
  ·omega
 ·have h5 := hk.2
  rcases hk.1 with h4 | h4
  ·have h3 := h.so k h4
   exact ⟨h3.1, h5, h3.2.2⟩
  ·exact ⟨by have := h.bl.size; omega, h5, fun hn => by have := h.sn k hn; omega⟩
 ·have h3 := h.sn k hk
  omega
theorem del (h : RowsM m w wr SN vN N vl vo L O SL SO) (hv : (tKey w m).R 50 w1 SL v1 L') (hf : Fr wr w1 SL) : RowsM m w w1 SN vN N v1 vo L' O SL SO := by
 have hz := hf.size
 refine ⟨hv, R_fr h.ro hf (fun k hk _ hs => (h.sl k hs).2.2.1 hk), R_fr h.rn hf (fun k hk _ hs => (h.sl k hs).2.2.2 hk), fun k hk => ?_, fun k hk => ?_, fun k hk => ?_, below_frS h.bl hf (fun k hk => (h.sl k hk).1)⟩
 ·have h3 := h.sl k hk; exact ⟨h3.1, by omega, h3.2.2⟩
 ·have h3 := h.so k hk; exact ⟨h3.1, by omega, h3.2.2⟩
 ·have h3 := h.sn k hk; omega
theorem ins (h : RowsM m w wr SN vN N vl vo L O SL SO) (hb : Below wr.heap.size wr wa) (hv : (tKey w m).R 50 w1 (fun q => SL q ∨ wa.heap.size ≤ q) v1 L') (hf : Fr wa w1 SL) :
  RowsM m w w1 SN vN N v1 vo L' O (fun q => (SL q ∨ wa.heap.size ≤ q) ∧ q < w1.heap.size) SO := by
 have h2 := h.below hb
 have hz := hf.size
 have hz2 := hb.size
 refine ⟨R_bound hv, R_fr h2.ro hf (fun k hk _ hs => (h.sl k hs).2.2.1 hk), R_fr h2.rn hf (fun k hk _ hs => (h.sl k hs).2.2.2 hk), fun k hk => ?_, fun k hk => ?_, fun k hk => ?_, below_frS h2.bl hf (fun k hk => (h.sl k hk).1)⟩
 ·have h5 := hk.2
  rcases hk.1 with h4 | h4
  ·have h3 := h.sl k h4; exact ⟨h3.1, h5, h3.2.2⟩
  ·exact ⟨by have := h2.bl.size; omega, h5, fun hs => by have := (h2.so k hs).2.1; omega, fun hs => by have := (h2.sn k hs).2; omega⟩
 ·have h3 := h.so k hk; exact ⟨h3.1, by omega, h3.2.2⟩
 ·have h3 := h.sn k hk; omega
end RowsM
noncomputable def rowsV (ok : List Int) (old : List J) (nk : List Int) (now : List J) : List JOp := if (keysOk ok old && keysOk nk now) = true then (come (zipK ok old) (zipK nk now) (zipK nk now).length).2 else []
end Go.Proofs.YtegcecnjmimbiaaDoor.X
namespace Go.Proofs.YtegcecnjmimbiaaDoor.X
open Go.RowKit Go.Sort
set_option linter.unusedVariables false
set_option linter.unusedSimpArgs false
open Ty
set_option maxHeartbeats 8000000 in
set_option maxRecDepth 100000 in
theorem impl_Rows {m : Nat} (A1 : Option Addr) (c1 : Nat) (old : List J) (A2 : Option Addr) (c2 : Nat) (ok : List Int) (A3 : Option Addr) (c3 : Nat) (now : List J) (A4 : Option Addr) (c4 : Nat) (nk : List Int) (w : World)
  (h1 : (tJ (m + 1)).C w A1 old) (h2 : int.C w A2 ok) (hc2 : ok.length ≤ c2) (h3 : (tJ (m + 1)).C w A3 now) (h4 : int.C w A4 nk) (hc4 : nk.length ≤ c4) (hn1 : old.length ≤ 1048576) (hn3 : now.length ≤ 1048576) (hT : EnvT w) :
  Calls Tryd.prog 8 #[.slice A1 old.length c1, .slice A2 ok.length c2, .slice A3 now.length c3, .slice A4 nk.length c4] w fun e w' => ∃ v, e = .returned v ∧ (tOp (m + 1)).R 53 w' (fun k => w.heap.size ≤ k) v (rowsV ok old nk now) ∧ Below w.heap.size w w' := by
 have H1 := Hd.mk h1; have H2 := Hd.mk h2; have H3 := Hd.mk h3; have H4 := Hd.mk h4; have HT := Hd.mk hT
 clear h1 h2 h3 h4 hT
 go_enter Tryd.func8, Tryd.ntmps8
 go_wp2_with fail
 refine (impl_keyedOf (w0 := w) A1 c1 old A2 c2 ok w H1.out H2.out hc2 (Below.refl _ _) (by omega)).mono ?_
 rintro e w1 ⟨v1, rfl, hR1, hX⟩
 have HR1 := Hd.mk (R_bound hR1); have hB1 := Hd.mk hX; clear hR1 hX
 go_wp2_with fail
 refine (impl_keyedOf (w0 := w) A3 c3 now A4 c4 nk w1 H3.out H4.out hc4 hB1.out (by omega)).mono ?_
 rintro e w2 ⟨v2, rfl, hR2, hX⟩
 have HR1 := Hd.mk (R_below HR1.out hX); have HR2 := Hd.mk (R_bound hR2); have hB2 := Hd.mk (below_then hB1.out hX); have hz1 := Hd.mk hB1.out.size; have hz2 := Hd.mk hX.size
 clear hR2 hX hB1
 cases hk1 : keysOk ok old
 ·have HV := Hd.mk (show rowsV ok old nk now = [] by unfold rowsV; rw [hk1]; rfl)
  clear hk1
  go_wp2_with fail
  go_ret
  exact ⟨_, rfl, by rw [HV.out]; exact R_mono (fun k hk => Nat.le_trans hB2.out.size hk) (R_empty _ _ _), below_alloc hB2.out _⟩
 cases hk2 : keysOk nk now
 ·have HV := Hd.mk (show rowsV ok old nk now = [] by unfold rowsV; rw [hk1, hk2]; rfl)
  clear hk1 hk2
  go_wp2_with fail
  go_ret
  exact ⟨_, rfl, by rw [HV.out]; exact R_mono (fun k hk => Nat.le_trans hB2.out.size hk) (R_empty _ _ _), below_alloc hB2.out _⟩
 have HV := Hd.mk (show rowsV ok old nk now = (come (zipK ok old) (zipK nk now) (zipK nk now).length).2 by unfold rowsV; rw [hk1, hk2]; rfl)
 have HD1 := Hd.mk (dist_of hk1); have HD2 := Hd.mk (dist_of hk2)
 have HK1 := Hd.mk hk1; have HK2 := Hd.mk hk2
 rw [pairs_yes hk1] at HR1
 rw [pairs_yes hk2] at HR2
 clear hk1 hk2
 obtain ⟨P, hP⟩ : ∃ z, z = zipK ok old := ⟨_, rfl⟩
 obtain ⟨N, hN⟩ : ∃ z, z = zipK nk now := ⟨_, rfl⟩
 rw [← hP, ← hN] at HV
 rw [← hP] at HR1
 rw [← hN] at HR2
 have hPl : P.length ≤ 1048576 := by rw [hP]; unfold zipK; rw [List.length_zipWith]; omega
 have hNl : N.length ≤ 1048576 := by rw [hN]; unfold zipK; rw [List.length_zipWith]; omega
 have HP := Hd.mk hP; have HN := Hd.mk hN
 clear hP hN
 obtain ⟨D1, d1, hv1, _, _⟩ := R_C HR1.out
 obtain ⟨D2, d2, hv2, _, _⟩ := R_C HR2.out
 subst hv1 hv2
 have HM := Hd.mk (show RowsM m w (w2.alloc (.cells #[] 53)) (fun k => w1.heap.size ≤ k ∧ k < w2.heap.size) (.slice D2 N.length d2) N (.slice D1 P.length d1) (.slice (some ⟨w2.heap.size, 0, none⟩) 0 0) P [] (fun k => w.heap.size ≤ k ∧ k < w1.heap.size) (fun k => w2.heap.size ≤ k ∧ k < w2.heap.size + 1) from
  have hb := below_alloc (Below.refl w2.heap.size w2) (.cells #[] 53)
  have hz : (w2.alloc (.cells #[] 53)).heap.size = w2.heap.size + 1 := by simp
  have hs1 := hz1.out
  have hs2 := hz2.out
  ⟨R_below HR1.out hb, R_mono (fun k hk => by rw [hz] at hk; exact hk) (R_bound (R_empty (tOp (m + 1)) 53 w2)), R_below HR2.out hb,
   fun k hk => ⟨hk.1, by rw [hz]; have := hk.2; omega, fun h => by have := hk.2; have := h.1; omega, fun h => by have := hk.2; have := h.1; omega⟩,
   fun k hk => ⟨by have := hk.1; omega, by rw [hz]; exact hk.2, fun h => by have := hk.1; have := h.2; omega⟩,
   fun k hk => ⟨by have := hk.1; omega, by rw [hz]; have := hk.2; omega⟩, below_then hB2.out hb⟩)
 clear HR1 HR2
 go_wp2_with fail
 go_loopw [9, 13, 14] (fun lv ov i wr => ∃ (t : Nat) (vl vo : Value) (SL SO : Nat → Prop), t ≤ P.length ∧ i = .int .i64 ((P.length : Int) - 1 - t) ∧ vl = lv ∧ vo = ov ∧ Hd (RowsM m w wr (fun k => w1.heap.size ≤ k ∧ k < w2.heap.size) (.slice D2 N.length d2) N vl vo (gone P N t).1 (gone P N t).2 SL SO)) (fun _ _ i _ => (intOf i + 1).toNat)
 case atStart => exact ⟨0, _, _, _, _, Nat.zero_le _, by go_num, rfl, rfl, HM⟩
 case round =>
  clear HM
  obtain ⟨t, vl, vo, SL, SO, ht, rfl, rfl, rfl, HM⟩ := hrel
  by_cases hlt : t < P.length
  ·obtain ⟨q, hq⟩ : ∃ q : Nat, q = P.length - 1 - t := ⟨_, rfl⟩
   have hqi : ((P.length : Int) - 1 - t) = (q : Int) := by omega
   rw [hqi]
   obtain ⟨L, O, key, hql, hG, hkq, hY, hNO, hg2, hg3⟩ := gone_open P N t q hlt hq
   rw [hG] at HM
   replace HM : Hd (RowsM m w wr (fun k => w1.heap.size ≤ k ∧ k < w2.heap.size) (.slice D2 N.length d2) N vl vo L O SL SO) := HM
   have HY := Hd.mk hY; have HNO := Hd.mk hNO; have HG := Hd.mk hG
   have hqd := Hd.mk hqi
   have hqP : q < 1048576 := by omega
   clear hqi hY hNO hG hq
   obtain ⟨gl, cl, hvl, hgS, hglw⟩ := R_form HM.out.rl (by omega)
   subst hvl
   obtain ⟨E1, e1, E2, e2, hKe, x0, _, _, _, _, _⟩ := R_key_at HM.out.rl q hql
   have hq0 : (0 : Int) ≤ (q : Int) := by omega
   have hqL : (q : Int) < (L.length : Int) := by omega
   clear hKe
   rw [hkq] at x0
   go_wp2_with fail
   clear x0
   refine (impl_keyAt (w0 := w) (m := m) D2 d2 N key wr (R_Cv HM.out.rn)).mono ?_
   rintro e w3 ⟨rfl, hX⟩
   have HM3 := Hd.mk (HM.out.below hX); clear HM hX
   obtain ⟨at_, hat⟩ : ∃ z, z = atK N key := ⟨_, rfl⟩
   rw [← hat] at HY HNO ⊢
   clear hat
   by_cases h0 : at_ < 0
   ·have HY := Hd.mk (HY.out h0); clear HNO
    have hq1 : IntKind.i64.wrap ((q : Int) + 1) = (q : Int) + 1 := by rw [IntKind.wrap_i64]; omega
    go_wp2_with fail
    refine (impl_wayOf q w3 (by omega) (by omega) (HT.out.below HM3.out.bl)).mono ?_
    rintro e w4 ⟨vw, rfl, hW, hX⟩
    obtain ⟨B1, b1, hvw, hb1, _⟩ := R_C hW
    subst hvw
    have HW := Hd.mk (R_bound hW); clear hW
    have HM4 := Hd.mk (HM3.out.below hX); have HX := Hd.mk hX; clear hX
    go_wp2_with (at_builtin; refine append_one (tOp (m + 1)) rfl _ _ 25 53 (.agg #[.int .i64 0, .slice none 0 0, .int .i64 0, .int .i64 0, .string ByteArray.empty, .slice none 0 0, .slice none 0 0]) 112 rfl Tryd.underlying25 info_OpS rfl (by rw [tOp_sz]; omega) (by decide) (S := SO) (T := fun k => w3.heap.size ≤ k ∧ k < w4.heap.size) (S' := fun q => SO q ∨ w3.heap.size ≤ q) (v := vo) (xs := O) (remO q) [.int .i64 2, .slice B1 [numS q].length b1, .int .i64 0, .int .i64 0, .string ⟨#[]⟩, .slice none 0 0, .slice none 0 0] rfl rfl HM4.out.ro (remO_O HW.out) (fun k hk hl hs => by have := (HM3.out.so k hs).2.1; omega) (fun k h => .inl h) (fun k h => .inr h.1) (fun k h => .inr (by have := HX.out.size; omega)) (by omega) (fun v5 w5 hv hf => ?_); have HM5 := Hd.mk (HM3.out.op HX.out hv hf); clear hv hf)
    refine (slices_Delete_key gl cl q L w5 HM5.out.rl hql).mono ?_
    rintro e w6 ⟨vd, rfl, hv, hX⟩
    have HM6 := Hd.mk (HM5.out.del hv hX); clear hv hX HM5
    go_wp2_with fail
    go_roundw
    case rel => exact ⟨t + 1, vd, v5, SL, _, by omega, by rw [show (P.length : Int) - 1 - ((t + 1 : Nat) : Int) = (q : Int) - 1 by have := hqd.out; omega], rfl, rfl, by rw [HY.out]; exact HM6⟩
    case measure => simp [intOf] <;> omega
   ·have HNO := Hd.mk (HNO.out (by omega)); clear HY
    go_wp2_with fail
    go_roundw
    case rel => exact ⟨t + 1, _, vo, SL, SO, by omega, by rw [show (P.length : Int) - 1 - ((t + 1 : Nat) : Int) = (q : Int) - 1 by have := hqd.out; omega], rfl, rfl, by rw [HNO.out]; exact HM3⟩
    case measure => simp [intOf] <;> omega
  ·obtain rfl : t = P.length := by omega
   have hm1 : (P.length : Int) - 1 - (P.length : Int) = -1 := by omega
   rw [hm1]
   clear hm1 hlt ht
   have hdN := Hd.mk (show Dist (kOf N) by rw [HN.out, kOf_zip HK2.out]; exact HD2.out)
   have hok := Hd.mk (show ∀ x ∈ N, jsonOk x.val = true by rw [HN.out]; exact zipK_ok HK2.out)
   go_wp2_with fail
   go_loopw [9, 13, 66] (fun lv ov i wr => ∃ (t : Nat) (vl vo : Value) (SL SO : Nat → Prop), t ≤ N.length ∧ i = .int .i64 t ∧ vl = lv ∧ vo = ov ∧ Hd (RowsM m w wr (fun k => w1.heap.size ≤ k ∧ k < w2.heap.size) (.slice D2 N.length d2) N vl vo (come P N t).1 (come P N t).2 SL SO)) (fun _ _ i _ => N.length - (intOf i).toNat)
   case atStart => exact ⟨0, _, _, _, _, Nat.zero_le _, by go_num, rfl, rfl, HM⟩
   case round =>
    clear HM
    obtain ⟨t, vl, vo, SL, SO, ht, rfl, rfl, rfl, HM⟩ := hrel
    by_cases hlt : t < N.length
    ·obtain ⟨L, O, hC, hc1, hc2, hc3, hc4, hc5⟩ := come_open P N hdN.out t hlt
     rw [hC] at HM
     replace HM : Hd (RowsM m w wr (fun k => w1.heap.size ≤ k ∧ k < w2.heap.size) (.slice D2 N.length d2) N vl vo L O SL SO) := HM
     have HCS := Hd.mk hc4; have HGE := Hd.mk hc5
     clear hC hc4 hc5
     obtain ⟨gn, cn, hvn, _, hgnw⟩ := R_form HM.out.rn (by omega)
     injection hvn with ea _ eb
     subst ea; subst eb
     obtain ⟨E1, e1, E2, e2, hKe, x0, x1, x2, x3, x4, x5⟩ := R_key_at HM.out.rn t hlt
     have HKx := Hd.mk hKe; clear hKe
     have HJX := Hd.mk (hok.out _ (List.getElem_mem hlt))
     have HBX := Hd.mk (show bulkJ (m + 1) N[t].val ≤ 4194304 by have h_ := bulk_size (m + 1) 6 N[t].val (of_decide_eq_true (show decide (sizeN 6 N[t].val ≤ 400) = true from HJX.out)); have h2_ : sizeN 6 N[t].val ≤ 400 := of_decide_eq_true (show decide (sizeN 6 N[t].val ≤ 400) = true from HJX.out); omega)
     obtain ⟨DL, dl, hvl, _, _⟩ := R_C HM.out.rl
     subst hvl
     have hti : (t : Int) < (N.length : Int) := by omega
     have hns := Hd.mk (show ¬ SO wr.heap.size ∧ ¬ SL wr.heap.size from ⟨fun h => by have := (HM.out.so _ h).2.1; omega, fun h => by have := (HM.out.sl _ h).2.1; omega⟩)
     have hB := Hd.mk (Below.refl wr.heap.size wr)
     go_wp2_with fail
     clear x0 x1 x2 x3 x4 x5
     apply calls_gen; intro W61 hW
     have hz_ : wr.heap.size + 1 ≤ W61.heap.size := by rw [hW]; simp
     have hE : Below wr.heap.size wr W61 := by rw [hW]; (repeat (first | with_reducible refine below_alloc ?_ _ | with_reducible refine below_drew ?_)); exact Below.refl _ _
     have hB := hB.th hE
     have bk := Hd.mk (show Blk W61 (wr.heap.size) #[.int .i64 N[t].key, .int .i64 N[t].val.kind, .int .i64 N[t].val.n, .string N[t].val.s, .slice E1 N[t].val.list.length e1, .slice E2 N[t].val.names.length e2] 50 by rw [hW]; first | exact (Blk.new _ _ _) | (simpa using (Blk.new _ _ _)))
     have HM := Hd.mk (RowsM.below HM.out hE)
     clear hW hE
     have z61 := Hd.mk hz_; clear hz_
     refine (impl_keyAt (w0 := w) (m := m) DL dl L N[t].key _ (R_Cv HM.out.rl)).mono ?_
     rintro e w62 ⟨rfl, hX⟩
     have bk := bk.dn hX
     have HM := Hd.mk (RowsM.below HM.out hX)
     have hB := hB.th hX
     have hz_ := hX.size
     clear hX
     have z62 := Hd.mk hz_; clear hz_
     obtain ⟨at_, hat⟩ : ∃ z, z = atK L N[t].key := ⟨_, rfl⟩
     rw [← hat] at HGE ⊢
     have HAT := Hd.mk hat.symm; clear hat
     by_cases heq : at_ = (t : Int)
     ·subst heq
      have hlL : t < L.length := (HGE.out t rfl).2
      obtain ⟨gl, cl, hvl, _, hglw⟩ := R_form HM.out.rl (by omega)
      injection hvl with ea _ eb
      subst ea; subst eb
      obtain ⟨F1, f1, F2, f2, hKl, y0, y1, y2, y3, y4, y5⟩ := R_key_at HM.out.rl t hlL
      have HKl := Hd.mk hKl; clear hKl y0
      have htL : (t : Int) < (L.length : Int) := by omega
      have fbk_0 : w62.cell? ⟨wr.heap.size, 0, none⟩ = some (.int .i64 N[t].key) := bk.out.cell 0 rfl
      have fbk_1 : w62.cell? ⟨wr.heap.size, 1, none⟩ = some (.int .i64 N[t].val.kind) := bk.out.cell 1 rfl
      have fbk_2 : w62.cell? ⟨wr.heap.size, 2, none⟩ = some (.int .i64 N[t].val.n) := bk.out.cell 2 rfl
      have fbk_3 : w62.cell? ⟨wr.heap.size, 3, none⟩ = some (.string N[t].val.s) := bk.out.cell 3 rfl
      have fbk_4 : w62.cell? ⟨wr.heap.size, 4, none⟩ = some (.slice E1 N[t].val.list.length e1) := bk.out.cell 4 rfl
      have fbk_5 : w62.cell? ⟨wr.heap.size, 5, none⟩ = some (.slice E2 N[t].val.names.length e2) := bk.out.cell 5 rfl
      have fbk_z := bk.out.frozen
      go_wp2_with fail
      obtain ⟨rfbk_0, rfbk_1, rfbk_2, rfbk_3, rfbk_4, rfbk_5, ry1⟩ := reg7 fbk_0 fbk_1 fbk_2 fbk_3 fbk_4 fbk_5 y1
      have ry2 := cell_regrown y2
      have ry3 := cell_regrown y3
      have ry4 := cell_regrown y4
      have ry5 := cell_regrown y5
      refine region_mix [(true, 0), (true, 1), (true, 2), (true, 3), (true, 4), (true, 5), (true, 6), (false, 7), (true, 8)] (by kernel_rfl) (by kernel_rfl) (fun _ _ _ _ _ h => h) ?_
      (repeat (first | (refine mix_z rfl (by rfl) ?_; go_big_quiet_skip; refine wpQuiet_nil ?_) | (refine mix_q rfl ?_; first | (go_big_quiet_skip; refine wpQuiet_nil ?_) | (go_big_quiet_want; go_big_quiet_op; go_big_quiet_on; refine wpQuiet_nil ?_))))
      refine mix_b rfl ?_ (by rfl)
      go_wp2_with fail
      clear rfbk_0 rfbk_1 rfbk_2 rfbk_3 rfbk_4 rfbk_5 ry1 ry2 ry3 ry4 ry5
      clear y1 y2 y3 y4 y5
      have hS := Hd.mk (Below.refl w62.heap.size w62)
      clear fbk_0 fbk_1 fbk_2 fbk_3 fbk_4 fbk_5 fbk_z
      apply calls_gen; intro W63 hW
      have hz_ : w62.heap.size ≤ W63.heap.size := by rw [hW]; simp
      have hE : Below w62.heap.size w62 W63 := by rw [hW]; (repeat (first | with_reducible refine below_alloc ?_ _ | with_reducible refine below_drew ?_)); exact Below.refl _ _
      have hB := hB.th hE
      replace hS := Hd.mk (below_then hS.out hE)
      have bk := bk.dn hE
      have HM := Hd.mk (RowsM.below HM.out hE)
      clear hW hE
      have z63 := Hd.mk hz_; clear hz_
      refine (alike_all (m + 1) L[t].val N[t].val _ _ _ (Ty.K_below _ HM.out.bl HKl.out) (Ty.K_below _ HM.out.bl HKx.out)).mono ?_
      rintro e w64 ⟨rfl, hX⟩
      have bk := bk.dn hX
      have HM := Hd.mk (RowsM.below HM.out hX)
      have hB := hB.th hX
      replace hS := Hd.mk (below_then hS.out hX)
      have hz_ := hX.size
      clear hX
      have z64 := Hd.mk hz_; clear hz_
      cases hev : eqv L[t].val N[t].val
      ·have fbk_0 : w64.cell? ⟨wr.heap.size, 0, none⟩ = some (.int .i64 N[t].key) := bk.out.cell 0 rfl
       have fbk_1 : w64.cell? ⟨wr.heap.size, 1, none⟩ = some (.int .i64 N[t].val.kind) := bk.out.cell 1 rfl
       have fbk_2 : w64.cell? ⟨wr.heap.size, 2, none⟩ = some (.int .i64 N[t].val.n) := bk.out.cell 2 rfl
       have fbk_3 : w64.cell? ⟨wr.heap.size, 3, none⟩ = some (.string N[t].val.s) := bk.out.cell 3 rfl
       have fbk_4 : w64.cell? ⟨wr.heap.size, 4, none⟩ = some (.slice E1 N[t].val.list.length e1) := bk.out.cell 4 rfl
       have fbk_5 : w64.cell? ⟨wr.heap.size, 5, none⟩ = some (.slice E2 N[t].val.names.length e2) := bk.out.cell 5 rfl
       have fbk_z := bk.out.frozen
       go_wp2_with fail
       refine ⟨cls_below hS.out, ?_⟩
       (repeat (first | (refine mix_z rfl (by rfl) ?_; go_big_quiet_skip; refine wpQuiet_nil ?_) | (refine mix_q rfl ?_; first | (go_big_quiet_skip; refine wpQuiet_nil ?_) | (go_big_quiet_want; go_big_quiet_op; go_big_quiet_on; refine wpQuiet_nil ?_))))
       refine mix_nil ?_
       go_wp2_with fail
       clear fbk_0 fbk_1 fbk_2 fbk_3 fbk_4 fbk_5 fbk_z
       clear hS
       have HST := Hd.mk (come1_rep (O := O) HAT.out hlL hev)
       have HM0 := Hd.mk HM.out; have hBz := Hd.mk (Below.refl w64.heap.size w64)
       have fbk_0 : w64.cell? ⟨wr.heap.size, 0, none⟩ = some (.int .i64 N[t].key) := bk.out.cell 0 rfl
       have fbk_1 : w64.cell? ⟨wr.heap.size, 1, none⟩ = some (.int .i64 N[t].val.kind) := bk.out.cell 1 rfl
       have fbk_2 : w64.cell? ⟨wr.heap.size, 2, none⟩ = some (.int .i64 N[t].val.n) := bk.out.cell 2 rfl
       have fbk_3 : w64.cell? ⟨wr.heap.size, 3, none⟩ = some (.string N[t].val.s) := bk.out.cell 3 rfl
       have fbk_4 : w64.cell? ⟨wr.heap.size, 4, none⟩ = some (.slice E1 N[t].val.list.length e1) := bk.out.cell 4 rfl
       have fbk_5 : w64.cell? ⟨wr.heap.size, 5, none⟩ = some (.slice E2 N[t].val.names.length e2) := bk.out.cell 5 rfl
       have fbk_z := bk.out.frozen
       obtain ⟨rfbk_0, rfbk_1, rfbk_2, rfbk_3, rfbk_4⟩ := reg5 fbk_0 fbk_1 fbk_2 fbk_3 fbk_4
       have rfbk_5 := cell_regrown fbk_5
       refine region_mixT (.p 0 (.p 1 (.p 3 (.q 4 (.b 2 (.b 5 (.q 6 (.b 7 .fin)))))))) [8, 9] (by kernel_rfl) (by kernel_rfl) (fun _ _ _ _ _ h => h) ?_
       refine genT ?_
       intro W65 hW
       have hS := Hd.mk (show Below w64.heap.size w64 W65 by rw [hW]; exact below_drew (Below.refl _ _))
       have hz_ : w64.heap.size ≤ W65.heap.size := by rw [hW]; simp
       have hE : Below w64.heap.size w64 W65 := by rw [hW]; (repeat (first | with_reducible refine below_alloc ?_ _ | with_reducible refine below_drew ?_)); exact Below.refl _ _
       have hB := hB.th hE
       have hBz := Hd.mk (below_then hBz.out hE)
       have bk := bk.dn hE
       have HM := Hd.mk (RowsM.below HM.out hE)
       clear hW hE
       have z65 := Hd.mk hz_; clear hz_
       iterate 4 ((first | refine mixT_q rfl ?_ | refine mixT_p rfl ?_); go_big_quiet_want; go_big_quiet_op; go_big_quiet_on; refine wpQuiet_nil ?_)
       refine mixT_b rfl ?_ (by rfl)
       go_wp2_with fail
       apply calls_gen; intro W66 hW
       have hz_ : W65.heap.size ≤ W66.heap.size := by rw [hW]; simp
       have hE : Below W65.heap.size W65 W66 := by rw [hW]; (repeat (first | with_reducible refine below_alloc ?_ _ | with_reducible refine below_drew ?_)); exact Below.refl _ _
       have hB := hB.th hE
       have hBz := Hd.mk (below_then hBz.out hE)
       replace hS := Hd.mk (below_then hS.out hE)
       have bk := bk.dn hE
       have HM := Hd.mk (RowsM.below HM.out hE)
       clear hW hE
       have z66 := Hd.mk hz_; clear hz_
       refine (impl_wayOf t _ (by omega) (by omega) (HT.out.below HM.out.bl)).mono ?_
       rintro e w67 ⟨vw, rfl, hW, hX⟩
       have bk := bk.dn hX
       have HM := Hd.mk (RowsM.below HM.out hX)
       have hB := hB.th hX
       replace hS := Hd.mk (below_then hS.out hX)
       have hz_ := hX.size
       have hBz := Hd.mk (below_then hBz.out hX)
       clear hX
       have z67 := Hd.mk hz_; clear hz_
       obtain ⟨B1, b1, hvw, hb1, _⟩ := R_C hW
       subst hvw
       have HW := Hd.mk (show str.R 9 w67 (rng W66.heap.size w67.heap.size) _ [numS t] from R_bound hW); clear hW
       go_wp2_with fail
       refine ⟨cls_below hS.out, ?_⟩
       refine mixT_b rfl ?_ (by rfl)
       go_wp2_with fail
       apply calls_gen; intro W68 hW
       have hz_ : w67.heap.size ≤ W68.heap.size := by rw [hW]; simp
       have hE : Below w67.heap.size w67 W68 := by rw [hW]; (repeat (first | with_reducible refine below_alloc ?_ _ | with_reducible refine below_drew ?_)); exact Below.refl _ _
       have hB := hB.th hE
       have hBz := Hd.mk (below_then hBz.out hE)
       replace hS := Hd.mk (below_then hS.out hE)
       have bk := bk.dn hE
       have HM := Hd.mk (RowsM.below HM.out hE)
       have HW := Hd.mk (R_below HW.out hE)
       clear hW hE
       have z68 := Hd.mk hz_; clear hz_
       refine (impl_copyJson N[t].val _ _ (Ty.K_below _ HM.out.bl HKx.out) HBX.out).mono ?_
       rintro e w69 ⟨cy, rfl, hY, hX⟩
       have bk := bk.dn hX
       have HM := Hd.mk (RowsM.below HM.out hX)
       have HW := Hd.mk (R_below HW.out hX)
       have hB := hB.th hX
       replace hS := Hd.mk (below_then hS.out hX)
       have hz_ := hX.size
       have hBz := Hd.mk (below_then hBz.out hX)
       clear hX
       have z69 := Hd.mk hz_; clear hz_
       obtain ⟨v3, v4, _, _, hcy, _, h3_, h4_, _⟩ := tJ_O.1 hY
       obtain ⟨G1, g1, rfl, _, _⟩ := R_C h3_
       obtain ⟨G2, g2, rfl, _, _⟩ := R_C h4_
       clear h3_ h4_
       subst hcy
       replace hY := Hd.mk (show (tJ (m + 1)).O w69 (rng W68.heap.size w69.heap.size) N[t].val _ from Ty.O_bound _ hY)
       go_wp2_with fail
       refine ⟨cls_below hS.out, ?_⟩
       refine mixT_q rfl ?_
       go_big_quiet_want; go_big_quiet_op; go_big_quiet_on; refine wpQuiet_nil ?_
       refine mixT_b rfl ?_ (by rfl)
       go_wp2_with fail
       refine ⟨cls_below (below_alloc hS.out _), ?_⟩
       refine mixT_fin ?_
       clear hS
       clear rfbk_0 rfbk_1 rfbk_2 rfbk_3 rfbk_4 rfbk_5
       clear fbk_0 fbk_1 fbk_2 fbk_3 fbk_4 fbk_5 fbk_z
       have fbk_0 : w69.cell? ⟨wr.heap.size, 0, none⟩ = some (.int .i64 N[t].key) := bk.out.cell 0 rfl
       have fbk_1 : w69.cell? ⟨wr.heap.size, 1, none⟩ = some (.int .i64 N[t].val.kind) := bk.out.cell 1 rfl
       have fbk_2 : w69.cell? ⟨wr.heap.size, 2, none⟩ = some (.int .i64 N[t].val.n) := bk.out.cell 2 rfl
       have fbk_3 : w69.cell? ⟨wr.heap.size, 3, none⟩ = some (.string N[t].val.s) := bk.out.cell 3 rfl
       have fbk_4 : w69.cell? ⟨wr.heap.size, 4, none⟩ = some (.slice E1 N[t].val.list.length e1) := bk.out.cell 4 rfl
       have fbk_5 : w69.cell? ⟨wr.heap.size, 5, none⟩ = some (.slice E2 N[t].val.names.length e2) := bk.out.cell 5 rfl
       have fbk_z := bk.out.frozen
       refine tail_b rfl ?_ (by rfl)
       go_wp2_with (at_builtin; refine append_one (tOp (m + 1)) rfl _ _ 25 53 (.agg #[.int .i64 0, .slice none 0 0, .int .i64 0, .int .i64 0, .string ByteArray.empty, .slice none 0 0, .slice none 0 0]) 112 rfl Tryd.underlying25 info_OpS rfl (by rw [tOp_sz]; omega) (by decide) (S := SO) (T := fun k => w64.heap.size ≤ k ∧ k < w69.heap.size) (S' := fun q => SO q ∨ w64.heap.size ≤ q) (v := vo) (xs := O) (repO t N[t].val) [.int .i64 3, .slice B1 [numS t].length b1, .int .i64 N[t].val.kind, .int .i64 N[t].val.n, .string N[t].val.s, .slice G1 N[t].val.list.length g1, .slice G2 N[t].val.names.length g2] rfl rfl HM.out.ro (valO_O HW.out hY.out (fun k h => by have q1_ := h.1; have q2_ := h.2; have z61_ := z61.out; have z62_ := z62.out; have z63_ := z63.out; have z64_ := z64.out; have z65_ := z65.out; have z66_ := z66.out; have z67_ := z67.out; have z68_ := z68.out; have z69_ := z69.out; exact ⟨by omega, by omega⟩) (fun k h => by have q1_ := h.1; have q2_ := h.2; have z61_ := z61.out; have z62_ := z62.out; have z63_ := z63.out; have z64_ := z64.out; have z65_ := z65.out; have z66_ := z66.out; have z67_ := z67.out; have z68_ := z68.out; have z69_ := z69.out; exact ⟨by omega, by omega⟩) (fun k h h2 => by have q1_ := h.1; have q2_ := h.2; have q3_ := h2.1; have q4_ := h2.2; have z61_ := z61.out; have z62_ := z62.out; have z63_ := z63.out; have z64_ := z64.out; have z65_ := z65.out; have z66_ := z66.out; have z67_ := z67.out; have z68_ := z68.out; have z69_ := z69.out; omega)) (fun k hk hl hs => by have := (HM0.out.so k hs).2.1; have q1_ := hk.1; omega) (fun k h => .inl h) (fun k h => .inr h.1) (fun k h => .inr (by have z61_ := z61.out; have z62_ := z62.out; have z63_ := z63.out; have z64_ := z64.out; have z65_ := z65.out; have z66_ := z66.out; have z67_ := z67.out; have z68_ := z68.out; have z69_ := z69.out; omega)) (by first | omega | (simp; omega)) (fun v9 w9 hv hf => ?_))
       refine mixQ_n ?_
       refine tail_b rfl ?_ (by rfl)
       go_wp2_with fail
       refine mixQ_n ?_
       refine tail_nil ?_
       clear fbk_0 fbk_1 fbk_2 fbk_3 fbk_4 fbk_5 fbk_z
       have HM := Hd.mk (HM0.out.op hBz.out hv hf)
       have bk := Hd.mk (bk.out.fr hf (fun h => hns.out.1 h))
       clear hv hf HM0 hBz
       go_wp2_with fail
       go_roundw
       case rel => exact ⟨t + 1, _, _, _, _, by omega, by go_num, rfl, rfl, by rw [HCS.out, HST.out]; exact HM⟩
       case measure => simp [intOf] <;> omega
      ·have HST := Hd.mk (come1_same (O := O) HAT.out hlL hev)
       have fbk_0 : w64.cell? ⟨wr.heap.size, 0, none⟩ = some (.int .i64 N[t].key) := bk.out.cell 0 rfl
       have fbk_1 : w64.cell? ⟨wr.heap.size, 1, none⟩ = some (.int .i64 N[t].val.kind) := bk.out.cell 1 rfl
       have fbk_2 : w64.cell? ⟨wr.heap.size, 2, none⟩ = some (.int .i64 N[t].val.n) := bk.out.cell 2 rfl
       have fbk_3 : w64.cell? ⟨wr.heap.size, 3, none⟩ = some (.string N[t].val.s) := bk.out.cell 3 rfl
       have fbk_4 : w64.cell? ⟨wr.heap.size, 4, none⟩ = some (.slice E1 N[t].val.list.length e1) := bk.out.cell 4 rfl
       have fbk_5 : w64.cell? ⟨wr.heap.size, 5, none⟩ = some (.slice E2 N[t].val.names.length e2) := bk.out.cell 5 rfl
       have fbk_z := bk.out.frozen
       go_wp2_with fail
       refine ⟨cls_below hS.out, ?_⟩
       (repeat (first | (refine mix_z rfl (by rfl) ?_; go_big_quiet_skip; refine wpQuiet_nil ?_) | (refine mix_q rfl ?_; first | (go_big_quiet_skip; refine wpQuiet_nil ?_) | (go_big_quiet_want; go_big_quiet_op; go_big_quiet_on; refine wpQuiet_nil ?_))))
       refine mix_nil ?_
       go_wp2_with fail
       go_roundw
       case rel => exact ⟨t + 1, _, _, _, _, by omega, by go_num, rfl, rfl, by rw [HCS.out, HST.out]; exact HM⟩
       case measure => simp [intOf] <;> omega
     ·have hne : ¬ at_ = (t : Int) := heq
      have hneb : (at_ == (t : Int)) = false := by simpa using heq
      by_cases hge : 0 ≤ at_
      ·obtain ⟨q, hq⟩ := Int.eq_ofNat_of_zero_le hge
       subst hq
       obtain ⟨hq1, hqL⟩ := HGE.out q rfl
       have hqt : t < q := by omega
       have hqn : q ≠ t := by omega
       have HST := Hd.mk (come1_move (O := O) HAT.out hqn)
       have hgt : (t : Int) < (q : Int) := by omega
       have hgtb : decide ((t : Int) < (q : Int)) = true := decide_eq_true hgt
       have hqw : IntKind.i64.wrap ((q : Int) + 1) = (q : Int) + 1 := by rw [IntKind.wrap_i64]; omega
       have hq0 : (0 : Int) ≤ (q : Int) := by omega
       have hqLi : (q : Int) < (L.length : Int) := by omega
       obtain ⟨gl, cl, hvl, _, hglw⟩ := R_form HM.out.rl (by omega)
       injection hvl with ea _ eb
       subst ea; subst eb
       have fbk_0 : w62.cell? ⟨wr.heap.size, 0, none⟩ = some (.int .i64 N[t].key) := bk.out.cell 0 rfl
       have fbk_1 : w62.cell? ⟨wr.heap.size, 1, none⟩ = some (.int .i64 N[t].val.kind) := bk.out.cell 1 rfl
       have fbk_2 : w62.cell? ⟨wr.heap.size, 2, none⟩ = some (.int .i64 N[t].val.n) := bk.out.cell 2 rfl
       have fbk_3 : w62.cell? ⟨wr.heap.size, 3, none⟩ = some (.string N[t].val.s) := bk.out.cell 3 rfl
       have fbk_4 : w62.cell? ⟨wr.heap.size, 4, none⟩ = some (.slice E1 N[t].val.list.length e1) := bk.out.cell 4 rfl
       have fbk_5 : w62.cell? ⟨wr.heap.size, 5, none⟩ = some (.slice E2 N[t].val.names.length e2) := bk.out.cell 5 rfl
       have fbk_z := bk.out.frozen
       go_wp2_with fail
       clear fbk_0 fbk_1 fbk_2 fbk_3 fbk_4 fbk_5 fbk_z
       have HM0 := Hd.mk HM.out; have hBz := Hd.mk (Below.refl w62.heap.size w62)
       apply calls_gen; intro W63 hW
       have hz_ : w62.heap.size ≤ W63.heap.size := by rw [hW]; simp
       have hE : Below w62.heap.size w62 W63 := by rw [hW]; (repeat (first | with_reducible refine below_alloc ?_ _ | with_reducible refine below_drew ?_)); exact Below.refl _ _
       have hB := hB.th hE
       have hBz := Hd.mk (below_then hBz.out hE)
       have bk := bk.dn hE
       have HM := Hd.mk (RowsM.below HM.out hE)
       clear hW hE
       have z63 := Hd.mk hz_; clear hz_
       refine (impl_wayOf q _ (by omega) (by omega) (HT.out.below HM.out.bl)).mono ?_
       rintro e w64 ⟨vw, rfl, hW, hX⟩
       have bk := bk.dn hX
       have HM := Hd.mk (RowsM.below HM.out hX)
       have hB := hB.th hX
       have hz_ := hX.size
       have hBz := Hd.mk (below_then hBz.out hX)
       clear hX
       have z64 := Hd.mk hz_; clear hz_
       obtain ⟨B0, b0, hvw, hb0, _⟩ := R_C hW
       subst hvw
       have HW := Hd.mk (show str.R 9 w64 (rng W63.heap.size w64.heap.size) _ [numS q] from R_bound hW); clear hW
       have fbk_0 : w64.cell? ⟨wr.heap.size, 0, none⟩ = some (.int .i64 N[t].key) := bk.out.cell 0 rfl
       have fbk_1 : w64.cell? ⟨wr.heap.size, 1, none⟩ = some (.int .i64 N[t].val.kind) := bk.out.cell 1 rfl
       have fbk_2 : w64.cell? ⟨wr.heap.size, 2, none⟩ = some (.int .i64 N[t].val.n) := bk.out.cell 2 rfl
       have fbk_3 : w64.cell? ⟨wr.heap.size, 3, none⟩ = some (.string N[t].val.s) := bk.out.cell 3 rfl
       have fbk_4 : w64.cell? ⟨wr.heap.size, 4, none⟩ = some (.slice E1 N[t].val.list.length e1) := bk.out.cell 4 rfl
       have fbk_5 : w64.cell? ⟨wr.heap.size, 5, none⟩ = some (.slice E2 N[t].val.names.length e2) := bk.out.cell 5 rfl
       have fbk_z := bk.out.frozen
       go_wp2_with (at_builtin; refine append_one (tOp (m + 1)) rfl _ _ 25 53 (.agg #[.int .i64 0, .slice none 0 0, .int .i64 0, .int .i64 0, .string ByteArray.empty, .slice none 0 0, .slice none 0 0]) 112 rfl Tryd.underlying25 info_OpS rfl (by rw [tOp_sz]; omega) (by decide) (S := SO) (T := rng W63.heap.size w64.heap.size) (S' := fun q => SO q ∨ w62.heap.size ≤ q) (v := vo) (xs := O) (remO q) [.int .i64 2, .slice B0 [numS q].length b0, .int .i64 0, .int .i64 0, .string ⟨#[]⟩, .slice none 0 0, .slice none 0 0] rfl rfl HM.out.ro (remO_O HW.out) (fun k hk hl hs => by have := (HM0.out.so k hs).2.1; have q1_ := hk.1; have z61_ := z61.out; have z62_ := z62.out; have z63_ := z63.out; have z64_ := z64.out; omega) (fun k h => .inl h) (fun k h => .inr (by have q1_ := h.1; have z61_ := z61.out; have z62_ := z62.out; have z63_ := z63.out; have z64_ := z64.out; omega)) (fun k h => .inr (by have z61_ := z61.out; have z62_ := z62.out; have z63_ := z63.out; have z64_ := z64.out; omega)) (by omega) (fun v5 w5 hv hf => ?_); have HM5 := Hd.mk (HM0.out.op hBz.out hv hf); have bk5 := Hd.mk (bk.out.fr hf (fun h => hns.out.1 h)); clear hv hf)
       clear fbk_0 fbk_1 fbk_2 fbk_3 fbk_4 fbk_5 fbk_z
       clear HM bk HW hBz HM0
       have HM := HM5; have bk := bk5; clear HM5 bk5
       have hns5 := Hd.mk (show ¬ ((SO wr.heap.size ∨ w62.heap.size ≤ wr.heap.size) ∧ wr.heap.size < w5.heap.size) from fun h => by rcases h.1 with h | h; exact hns.out.1 h; (have z61_ := z61.out; have z62_ := z62.out; have z63_ := z63.out; have z64_ := z64.out; omega))
       refine (slices_Delete_key gl dl q L w5 HM.out.rl hqL).mono ?_
       rintro e w6 ⟨vd, rfl, hv, hX⟩
       obtain ⟨DV, dv, hvd, _, _⟩ := R_C hv
       subst hvd
       have HM := Hd.mk (HM.out.del hv hX)
       have bk := Hd.mk (bk.out.fr hX (fun h => hns.out.2 h))
       have hzw := Hd.mk (show wr.heap.size < w6.heap.size from bk.out.lt)
       have hL2 : (L.eraseIdx q).length ≤ L.length := by rw [List.length_eraseIdx]; split <;> omega
       have hL3 : t ≤ (L.eraseIdx q).length := by rw [List.length_eraseIdx]; split <;> omega
       have hO2 : (O ++ [remO q]).length = O.length + 1 := by simp
       clear hv hX
       have hB := Hd.mk (Below.refl w6.heap.size w6)
       obtain ⟨L2, hL2e⟩ : ∃ z, z = L.eraseIdx q := ⟨_, rfl⟩
       obtain ⟨O2, hO2e⟩ : ∃ z, z = O ++ [remO q] := ⟨_, rfl⟩
       rw [← hL2e] at HM hL2 hL3 HST ⊢
       rw [← hO2e] at HM hO2 HST
       obtain ⟨SO2, hSO2⟩ : ∃ z : Nat → Prop, z = (fun q => (SO q ∨ w62.heap.size ≤ q) ∧ q < w5.heap.size) := ⟨_, rfl⟩
       have hns2 := Hd.mk (show ¬ SO2 wr.heap.size by rw [hSO2]; exact hns5.out)
       rw [← hSO2] at HM
       clear hL2e hO2e hSO2 hns5
       have fbk_0 : w6.cell? ⟨wr.heap.size, 0, none⟩ = some (.int .i64 N[t].key) := bk.out.cell 0 rfl
       have fbk_1 : w6.cell? ⟨wr.heap.size, 1, none⟩ = some (.int .i64 N[t].val.kind) := bk.out.cell 1 rfl
       have fbk_2 : w6.cell? ⟨wr.heap.size, 2, none⟩ = some (.int .i64 N[t].val.n) := bk.out.cell 2 rfl
       have fbk_3 : w6.cell? ⟨wr.heap.size, 3, none⟩ = some (.string N[t].val.s) := bk.out.cell 3 rfl
       have fbk_4 : w6.cell? ⟨wr.heap.size, 4, none⟩ = some (.slice E1 N[t].val.list.length e1) := bk.out.cell 4 rfl
       have fbk_5 : w6.cell? ⟨wr.heap.size, 5, none⟩ = some (.slice E2 N[t].val.names.length e2) := bk.out.cell 5 rfl
       have fbk_z := bk.out.frozen
       go_wp2_with fail
       clear fbk_0 fbk_1 fbk_2 fbk_3 fbk_4 fbk_5 fbk_z
       have HM0 := Hd.mk HM.out; have hBz := Hd.mk (Below.refl w6.heap.size w6)
       have fbk_0 : w6.cell? ⟨wr.heap.size, 0, none⟩ = some (.int .i64 N[t].key) := bk.out.cell 0 rfl
       have fbk_1 : w6.cell? ⟨wr.heap.size, 1, none⟩ = some (.int .i64 N[t].val.kind) := bk.out.cell 1 rfl
       have fbk_2 : w6.cell? ⟨wr.heap.size, 2, none⟩ = some (.int .i64 N[t].val.n) := bk.out.cell 2 rfl
       have fbk_3 : w6.cell? ⟨wr.heap.size, 3, none⟩ = some (.string N[t].val.s) := bk.out.cell 3 rfl
       have fbk_4 : w6.cell? ⟨wr.heap.size, 4, none⟩ = some (.slice E1 N[t].val.list.length e1) := bk.out.cell 4 rfl
       have fbk_5 : w6.cell? ⟨wr.heap.size, 5, none⟩ = some (.slice E2 N[t].val.names.length e2) := bk.out.cell 5 rfl
       have fbk_z := bk.out.frozen
       obtain ⟨rfbk_0, rfbk_1, rfbk_2, rfbk_3, rfbk_4⟩ := reg5 fbk_0 fbk_1 fbk_2 fbk_3 fbk_4
       have rfbk_5 := cell_regrown fbk_5
       refine region_mixT (.p 0 (.p 1 (.p 3 (.q 4 (.b 2 (.b 5 (.q 6 (.b 7 .fin)))))))) [8, 9] (by kernel_rfl) (by kernel_rfl) (fun _ _ _ _ _ h => h) ?_
       refine genT ?_
       intro W65 hW
       have hS := Hd.mk (show Below w6.heap.size w6 W65 by rw [hW]; exact below_drew (Below.refl _ _))
       have hz_ : w6.heap.size ≤ W65.heap.size := by rw [hW]; simp
       have hE : Below w6.heap.size w6 W65 := by rw [hW]; (repeat (first | with_reducible refine below_alloc ?_ _ | with_reducible refine below_drew ?_)); exact Below.refl _ _
       have hB := hB.th hE
       have hBz := Hd.mk (below_then hBz.out hE)
       have bk := bk.dn hE
       have HM := Hd.mk (RowsM.below HM.out hE)
       clear hW hE
       have z65 := Hd.mk hz_; clear hz_
       iterate 4 ((first | refine mixT_q rfl ?_ | refine mixT_p rfl ?_); go_big_quiet_want; go_big_quiet_op; go_big_quiet_on; refine wpQuiet_nil ?_)
       refine mixT_b rfl ?_ (by rfl)
       go_wp2_with fail
       apply calls_gen; intro W66 hW
       have hz_ : W65.heap.size ≤ W66.heap.size := by rw [hW]; simp
       have hE : Below W65.heap.size W65 W66 := by rw [hW]; (repeat (first | with_reducible refine below_alloc ?_ _ | with_reducible refine below_drew ?_)); exact Below.refl _ _
       have hB := hB.th hE
       have hBz := Hd.mk (below_then hBz.out hE)
       replace hS := Hd.mk (below_then hS.out hE)
       have bk := bk.dn hE
       have HM := Hd.mk (RowsM.below HM.out hE)
       clear hW hE
       have z66 := Hd.mk hz_; clear hz_
       refine (impl_wayOf t _ (by omega) (by omega) (HT.out.below HM.out.bl)).mono ?_
       rintro e w67 ⟨vw, rfl, hW, hX⟩
       have bk := bk.dn hX
       have HM := Hd.mk (RowsM.below HM.out hX)
       have hB := hB.th hX
       replace hS := Hd.mk (below_then hS.out hX)
       have hz_ := hX.size
       have hBz := Hd.mk (below_then hBz.out hX)
       clear hX
       have z67 := Hd.mk hz_; clear hz_
       obtain ⟨B1, b1, hvw, hb1, _⟩ := R_C hW
       subst hvw
       have HW := Hd.mk (show str.R 9 w67 (rng W66.heap.size w67.heap.size) _ [numS t] from R_bound hW); clear hW
       go_wp2_with fail
       refine ⟨cls_below hS.out, ?_⟩
       refine mixT_b rfl ?_ (by rfl)
       go_wp2_with fail
       apply calls_gen; intro W68 hW
       have hz_ : w67.heap.size ≤ W68.heap.size := by rw [hW]; simp
       have hE : Below w67.heap.size w67 W68 := by rw [hW]; (repeat (first | with_reducible refine below_alloc ?_ _ | with_reducible refine below_drew ?_)); exact Below.refl _ _
       have hB := hB.th hE
       have hBz := Hd.mk (below_then hBz.out hE)
       replace hS := Hd.mk (below_then hS.out hE)
       have bk := bk.dn hE
       have HM := Hd.mk (RowsM.below HM.out hE)
       have HW := Hd.mk (R_below HW.out hE)
       clear hW hE
       have z68 := Hd.mk hz_; clear hz_
       refine (impl_copyJson N[t].val _ _ (Ty.K_below _ HM.out.bl HKx.out) HBX.out).mono ?_
       rintro e w69 ⟨cy, rfl, hY, hX⟩
       have bk := bk.dn hX
       have HM := Hd.mk (RowsM.below HM.out hX)
       have HW := Hd.mk (R_below HW.out hX)
       have hB := hB.th hX
       replace hS := Hd.mk (below_then hS.out hX)
       have hz_ := hX.size
       have hBz := Hd.mk (below_then hBz.out hX)
       clear hX
       have z69 := Hd.mk hz_; clear hz_
       obtain ⟨v3, v4, _, _, hcy, _, h3_, h4_, _⟩ := tJ_O.1 hY
       obtain ⟨G1, g1, rfl, _, _⟩ := R_C h3_
       obtain ⟨G2, g2, rfl, _, _⟩ := R_C h4_
       clear h3_ h4_
       subst hcy
       replace hY := Hd.mk (show (tJ (m + 1)).O w69 (rng W68.heap.size w69.heap.size) N[t].val _ from Ty.O_bound _ hY)
       go_wp2_with fail
       refine ⟨cls_below hS.out, ?_⟩
       refine mixT_q rfl ?_
       go_big_quiet_want; go_big_quiet_op; go_big_quiet_on; refine wpQuiet_nil ?_
       refine mixT_b rfl ?_ (by rfl)
       go_wp2_with fail
       refine ⟨cls_below (below_alloc hS.out _), ?_⟩
       refine mixT_fin ?_
       clear hS
       clear rfbk_0 rfbk_1 rfbk_2 rfbk_3 rfbk_4 rfbk_5
       clear fbk_0 fbk_1 fbk_2 fbk_3 fbk_4 fbk_5 fbk_z
       have fbk_0 : w69.cell? ⟨wr.heap.size, 0, none⟩ = some (.int .i64 N[t].key) := bk.out.cell 0 rfl
       have fbk_1 : w69.cell? ⟨wr.heap.size, 1, none⟩ = some (.int .i64 N[t].val.kind) := bk.out.cell 1 rfl
       have fbk_2 : w69.cell? ⟨wr.heap.size, 2, none⟩ = some (.int .i64 N[t].val.n) := bk.out.cell 2 rfl
       have fbk_3 : w69.cell? ⟨wr.heap.size, 3, none⟩ = some (.string N[t].val.s) := bk.out.cell 3 rfl
       have fbk_4 : w69.cell? ⟨wr.heap.size, 4, none⟩ = some (.slice E1 N[t].val.list.length e1) := bk.out.cell 4 rfl
       have fbk_5 : w69.cell? ⟨wr.heap.size, 5, none⟩ = some (.slice E2 N[t].val.names.length e2) := bk.out.cell 5 rfl
       have fbk_z := bk.out.frozen
       refine tail_b rfl ?_ (by rfl)
       go_wp2_with (at_builtin; refine append_one (tOp (m + 1)) rfl _ _ 25 53 (.agg #[.int .i64 0, .slice none 0 0, .int .i64 0, .int .i64 0, .string ByteArray.empty, .slice none 0 0, .slice none 0 0]) 112 rfl Tryd.underlying25 info_OpS rfl (by rw [tOp_sz]; omega) (by decide) (S := SO2) (T := fun k => w6.heap.size ≤ k ∧ k < w69.heap.size) (S' := fun q => SO2 q ∨ w6.heap.size ≤ q) (v := v5) (xs := O2) (addO t N[t].val) [.int .i64 1, .slice B1 [numS t].length b1, .int .i64 N[t].val.kind, .int .i64 N[t].val.n, .string N[t].val.s, .slice G1 N[t].val.list.length g1, .slice G2 N[t].val.names.length g2] rfl rfl HM.out.ro (valO_O HW.out hY.out (fun k h => by have q1_ := h.1; have q2_ := h.2; have hzw_ := hzw.out; have z65_ := z65.out; have z66_ := z66.out; have z67_ := z67.out; have z68_ := z68.out; have z69_ := z69.out; exact ⟨by omega, by omega⟩) (fun k h => by have q1_ := h.1; have q2_ := h.2; have hzw_ := hzw.out; have z65_ := z65.out; have z66_ := z66.out; have z67_ := z67.out; have z68_ := z68.out; have z69_ := z69.out; exact ⟨by omega, by omega⟩) (fun k h h2 => by have q1_ := h.1; have q2_ := h.2; have q3_ := h2.1; have q4_ := h2.2; have hzw_ := hzw.out; have z65_ := z65.out; have z66_ := z66.out; have z67_ := z67.out; have z68_ := z68.out; have z69_ := z69.out; omega)) (fun k hk hl hs => by have := (HM0.out.so k hs).2.1; have q1_ := hk.1; omega) (fun k h => .inl h) (fun k h => .inr h.1) (fun k h => .inr (by have hzw_ := hzw.out; have z65_ := z65.out; have z66_ := z66.out; have z67_ := z67.out; have z68_ := z68.out; have z69_ := z69.out; omega)) (by first | omega | (simp; omega)) (fun v9 w9 hv hf => ?_))
       refine mixQ_n ?_
       refine tail_b rfl ?_ (by rfl)
       go_wp2_with fail
       refine mixQ_n ?_
       refine tail_nil ?_
       clear fbk_0 fbk_1 fbk_2 fbk_3 fbk_4 fbk_5 fbk_z
       have HM := Hd.mk (HM0.out.op hBz.out hv hf)
       have bk := Hd.mk (bk.out.fr hf (fun h => hns2.out h))
       clear hv hf HM0 hBz
       have HM0 := Hd.mk HM.out
       have fbk_0 : w9.cell? ⟨wr.heap.size, 0, none⟩ = some (.int .i64 N[t].key) := bk.out.cell 0 rfl
       have fbk_1 : w9.cell? ⟨wr.heap.size, 1, none⟩ = some (.int .i64 N[t].val.kind) := bk.out.cell 1 rfl
       have fbk_2 : w9.cell? ⟨wr.heap.size, 2, none⟩ = some (.int .i64 N[t].val.n) := bk.out.cell 2 rfl
       have fbk_3 : w9.cell? ⟨wr.heap.size, 3, none⟩ = some (.string N[t].val.s) := bk.out.cell 3 rfl
       have fbk_4 : w9.cell? ⟨wr.heap.size, 4, none⟩ = some (.slice E1 N[t].val.list.length e1) := bk.out.cell 4 rfl
       have fbk_5 : w9.cell? ⟨wr.heap.size, 5, none⟩ = some (.slice E2 N[t].val.names.length e2) := bk.out.cell 5 rfl
       have fbk_z := bk.out.frozen
       go_wp2_with fail
       clear fbk_0 fbk_1 fbk_2 fbk_3 fbk_4 fbk_5 fbk_z
       apply calls_gen; intro W70 hW
       have hbW := Hd.mk (show Below w9.heap.size w9 W70 by rw [hW]; exact below_alloc (Below.refl _ _) _)
       have hvb : W70.heap[w9.heap.size]? = some (.cells [Value.int IntKind.i64 N[t].key, .int .i64 N[t].val.kind, .int .i64 N[t].val.n, .string N[t].val.s, .slice E1 N[t].val.list.length e1, .slice E2 N[t].val.names.length e2].toArray 50 (0, 0)) := by rw [hW]; exact heap_alloc_new _ _
       have hzW := Hd.mk (show w9.heap.size + 1 ≤ W70.heap.size by rw [hW]; simp)
       clear hW
       refine (slices_Insert_key (w0 := w) (m := m) (T := fun _ => False) (S' := fun q => SL q ∨ W70.heap.size ≤ q) _ L2 N[t] [Value.int IntKind.i64 N[t].key, .int .i64 N[t].val.kind, .int .i64 N[t].val.n, .string N[t].val.s, .slice E1 N[t].val.list.length e1, .slice E2 N[t].val.names.length e2] w9.heap.size t W70 (HM0.out.below hbW.out).rl hL3 hvb ⟨_, rfl, HKx.out⟩ (fun k h => h.elim) (fun h => by have := (HM0.out.sl _ h).2.1; omega) (fun k h => .inl h) (fun k h => h.elim) (fun k h => .inr h) (by omega)).mono ?_
       rintro e wI ⟨vi, rfl, hv, hX⟩
       have HM := Hd.mk (HM0.out.ins hbW.out hv hX)
       clear hv hX hvb HM0
       go_wp2_with fail
       go_roundw
       case rel => exact ⟨t + 1, _, _, _, _, by omega, by go_num, rfl, rfl, by rw [HCS.out, HST.out]; exact HM⟩
       case measure => simp [intOf] <;> omega
      ·have HST := Hd.mk (come1_new (O := O) (x := N[t]) (t := t) (L := L) (by rw [HAT.out]; omega))
       have hgt : ¬ ((t : Int) < at_) := by omega
       have hgtb : decide ((t : Int) < at_) = false := decide_eq_false hgt
       have hL2 : L.length ≤ L.length := Nat.le_refl _
       have hL3 : t ≤ L.length := hc1
       have fbk_0 : w62.cell? ⟨wr.heap.size, 0, none⟩ = some (.int .i64 N[t].key) := bk.out.cell 0 rfl
       have fbk_1 : w62.cell? ⟨wr.heap.size, 1, none⟩ = some (.int .i64 N[t].val.kind) := bk.out.cell 1 rfl
       have fbk_2 : w62.cell? ⟨wr.heap.size, 2, none⟩ = some (.int .i64 N[t].val.n) := bk.out.cell 2 rfl
       have fbk_3 : w62.cell? ⟨wr.heap.size, 3, none⟩ = some (.string N[t].val.s) := bk.out.cell 3 rfl
       have fbk_4 : w62.cell? ⟨wr.heap.size, 4, none⟩ = some (.slice E1 N[t].val.list.length e1) := bk.out.cell 4 rfl
       have fbk_5 : w62.cell? ⟨wr.heap.size, 5, none⟩ = some (.slice E2 N[t].val.names.length e2) := bk.out.cell 5 rfl
       have fbk_z := bk.out.frozen
       go_wp2_with fail
       clear fbk_0 fbk_1 fbk_2 fbk_3 fbk_4 fbk_5 fbk_z
       have HM0 := Hd.mk HM.out; have hBz := Hd.mk (Below.refl w62.heap.size w62)
       have fbk_0 : w62.cell? ⟨wr.heap.size, 0, none⟩ = some (.int .i64 N[t].key) := bk.out.cell 0 rfl
       have fbk_1 : w62.cell? ⟨wr.heap.size, 1, none⟩ = some (.int .i64 N[t].val.kind) := bk.out.cell 1 rfl
       have fbk_2 : w62.cell? ⟨wr.heap.size, 2, none⟩ = some (.int .i64 N[t].val.n) := bk.out.cell 2 rfl
       have fbk_3 : w62.cell? ⟨wr.heap.size, 3, none⟩ = some (.string N[t].val.s) := bk.out.cell 3 rfl
       have fbk_4 : w62.cell? ⟨wr.heap.size, 4, none⟩ = some (.slice E1 N[t].val.list.length e1) := bk.out.cell 4 rfl
       have fbk_5 : w62.cell? ⟨wr.heap.size, 5, none⟩ = some (.slice E2 N[t].val.names.length e2) := bk.out.cell 5 rfl
       have fbk_z := bk.out.frozen
       obtain ⟨rfbk_0, rfbk_1, rfbk_2, rfbk_3, rfbk_4⟩ := reg5 fbk_0 fbk_1 fbk_2 fbk_3 fbk_4
       have rfbk_5 := cell_regrown fbk_5
       refine region_mixT (.p 0 (.p 1 (.p 3 (.q 4 (.b 2 (.b 5 (.q 6 (.b 7 .fin)))))))) [8, 9] (by kernel_rfl) (by kernel_rfl) (fun _ _ _ _ _ h => h) ?_
       refine genT ?_
       intro W63 hW
       have hS := Hd.mk (show Below w62.heap.size w62 W63 by rw [hW]; exact below_drew (Below.refl _ _))
       have hz_ : w62.heap.size ≤ W63.heap.size := by rw [hW]; simp
       have hE : Below w62.heap.size w62 W63 := by rw [hW]; (repeat (first | with_reducible refine below_alloc ?_ _ | with_reducible refine below_drew ?_)); exact Below.refl _ _
       have hB := hB.th hE
       have hBz := Hd.mk (below_then hBz.out hE)
       have bk := bk.dn hE
       have HM := Hd.mk (RowsM.below HM.out hE)
       clear hW hE
       have z63 := Hd.mk hz_; clear hz_
       iterate 4 ((first | refine mixT_q rfl ?_ | refine mixT_p rfl ?_); go_big_quiet_want; go_big_quiet_op; go_big_quiet_on; refine wpQuiet_nil ?_)
       refine mixT_b rfl ?_ (by rfl)
       go_wp2_with fail
       apply calls_gen; intro W64 hW
       have hz_ : W63.heap.size ≤ W64.heap.size := by rw [hW]; simp
       have hE : Below W63.heap.size W63 W64 := by rw [hW]; (repeat (first | with_reducible refine below_alloc ?_ _ | with_reducible refine below_drew ?_)); exact Below.refl _ _
       have hB := hB.th hE
       have hBz := Hd.mk (below_then hBz.out hE)
       replace hS := Hd.mk (below_then hS.out hE)
       have bk := bk.dn hE
       have HM := Hd.mk (RowsM.below HM.out hE)
       clear hW hE
       have z64 := Hd.mk hz_; clear hz_
       refine (impl_wayOf t _ (by omega) (by omega) (HT.out.below HM.out.bl)).mono ?_
       rintro e w65 ⟨vw, rfl, hW, hX⟩
       have bk := bk.dn hX
       have HM := Hd.mk (RowsM.below HM.out hX)
       have hB := hB.th hX
       replace hS := Hd.mk (below_then hS.out hX)
       have hz_ := hX.size
       have hBz := Hd.mk (below_then hBz.out hX)
       clear hX
       have z65 := Hd.mk hz_; clear hz_
       obtain ⟨B1, b1, hvw, hb1, _⟩ := R_C hW
       subst hvw
       have HW := Hd.mk (show str.R 9 w65 (rng W64.heap.size w65.heap.size) _ [numS t] from R_bound hW); clear hW
       go_wp2_with fail
       refine ⟨cls_below hS.out, ?_⟩
       refine mixT_b rfl ?_ (by rfl)
       go_wp2_with fail
       apply calls_gen; intro W66 hW
       have hz_ : w65.heap.size ≤ W66.heap.size := by rw [hW]; simp
       have hE : Below w65.heap.size w65 W66 := by rw [hW]; (repeat (first | with_reducible refine below_alloc ?_ _ | with_reducible refine below_drew ?_)); exact Below.refl _ _
       have hB := hB.th hE
       have hBz := Hd.mk (below_then hBz.out hE)
       replace hS := Hd.mk (below_then hS.out hE)
       have bk := bk.dn hE
       have HM := Hd.mk (RowsM.below HM.out hE)
       have HW := Hd.mk (R_below HW.out hE)
       clear hW hE
       have z66 := Hd.mk hz_; clear hz_
       refine (impl_copyJson N[t].val _ _ (Ty.K_below _ HM.out.bl HKx.out) HBX.out).mono ?_
       rintro e w67 ⟨cy, rfl, hY, hX⟩
       have bk := bk.dn hX
       have HM := Hd.mk (RowsM.below HM.out hX)
       have HW := Hd.mk (R_below HW.out hX)
       have hB := hB.th hX
       replace hS := Hd.mk (below_then hS.out hX)
       have hz_ := hX.size
       have hBz := Hd.mk (below_then hBz.out hX)
       clear hX
       have z67 := Hd.mk hz_; clear hz_
       obtain ⟨v3, v4, _, _, hcy, _, h3_, h4_, _⟩ := tJ_O.1 hY
       obtain ⟨G1, g1, rfl, _, _⟩ := R_C h3_
       obtain ⟨G2, g2, rfl, _, _⟩ := R_C h4_
       clear h3_ h4_
       subst hcy
       replace hY := Hd.mk (show (tJ (m + 1)).O w67 (rng W66.heap.size w67.heap.size) N[t].val _ from Ty.O_bound _ hY)
       go_wp2_with fail
       refine ⟨cls_below hS.out, ?_⟩
       refine mixT_q rfl ?_
       go_big_quiet_want; go_big_quiet_op; go_big_quiet_on; refine wpQuiet_nil ?_
       refine mixT_b rfl ?_ (by rfl)
       go_wp2_with fail
       refine ⟨cls_below (below_alloc hS.out _), ?_⟩
       refine mixT_fin ?_
       clear hS
       clear rfbk_0 rfbk_1 rfbk_2 rfbk_3 rfbk_4 rfbk_5
       clear fbk_0 fbk_1 fbk_2 fbk_3 fbk_4 fbk_5 fbk_z
       have fbk_0 : w67.cell? ⟨wr.heap.size, 0, none⟩ = some (.int .i64 N[t].key) := bk.out.cell 0 rfl
       have fbk_1 : w67.cell? ⟨wr.heap.size, 1, none⟩ = some (.int .i64 N[t].val.kind) := bk.out.cell 1 rfl
       have fbk_2 : w67.cell? ⟨wr.heap.size, 2, none⟩ = some (.int .i64 N[t].val.n) := bk.out.cell 2 rfl
       have fbk_3 : w67.cell? ⟨wr.heap.size, 3, none⟩ = some (.string N[t].val.s) := bk.out.cell 3 rfl
       have fbk_4 : w67.cell? ⟨wr.heap.size, 4, none⟩ = some (.slice E1 N[t].val.list.length e1) := bk.out.cell 4 rfl
       have fbk_5 : w67.cell? ⟨wr.heap.size, 5, none⟩ = some (.slice E2 N[t].val.names.length e2) := bk.out.cell 5 rfl
       have fbk_z := bk.out.frozen
       refine tail_b rfl ?_ (by rfl)
       go_wp2_with (at_builtin; refine append_one (tOp (m + 1)) rfl _ _ 25 53 (.agg #[.int .i64 0, .slice none 0 0, .int .i64 0, .int .i64 0, .string ByteArray.empty, .slice none 0 0, .slice none 0 0]) 112 rfl Tryd.underlying25 info_OpS rfl (by rw [tOp_sz]; omega) (by decide) (S := SO) (T := fun k => w62.heap.size ≤ k ∧ k < w67.heap.size) (S' := fun q => SO q ∨ w62.heap.size ≤ q) (v := vo) (xs := O) (addO t N[t].val) [.int .i64 1, .slice B1 [numS t].length b1, .int .i64 N[t].val.kind, .int .i64 N[t].val.n, .string N[t].val.s, .slice G1 N[t].val.list.length g1, .slice G2 N[t].val.names.length g2] rfl rfl HM.out.ro (valO_O HW.out hY.out (fun k h => by have q1_ := h.1; have q2_ := h.2; have z61_ := z61.out; have z62_ := z62.out; have z63_ := z63.out; have z64_ := z64.out; have z65_ := z65.out; have z66_ := z66.out; have z67_ := z67.out; exact ⟨by omega, by omega⟩) (fun k h => by have q1_ := h.1; have q2_ := h.2; have z61_ := z61.out; have z62_ := z62.out; have z63_ := z63.out; have z64_ := z64.out; have z65_ := z65.out; have z66_ := z66.out; have z67_ := z67.out; exact ⟨by omega, by omega⟩) (fun k h h2 => by have q1_ := h.1; have q2_ := h.2; have q3_ := h2.1; have q4_ := h2.2; have z61_ := z61.out; have z62_ := z62.out; have z63_ := z63.out; have z64_ := z64.out; have z65_ := z65.out; have z66_ := z66.out; have z67_ := z67.out; omega)) (fun k hk hl hs => by have := (HM0.out.so k hs).2.1; have q1_ := hk.1; omega) (fun k h => .inl h) (fun k h => .inr h.1) (fun k h => .inr (by have z61_ := z61.out; have z62_ := z62.out; have z63_ := z63.out; have z64_ := z64.out; have z65_ := z65.out; have z66_ := z66.out; have z67_ := z67.out; omega)) (by first | omega | (simp; omega)) (fun v9 w9 hv hf => ?_))
       refine mixQ_n ?_
       refine tail_b rfl ?_ (by rfl)
       go_wp2_with fail
       refine mixQ_n ?_
       refine tail_nil ?_
       clear fbk_0 fbk_1 fbk_2 fbk_3 fbk_4 fbk_5 fbk_z
       have HM := Hd.mk (HM0.out.op hBz.out hv hf)
       have bk := Hd.mk (bk.out.fr hf (fun h => hns.out.1 h))
       clear hv hf HM0 hBz
       have HM0 := Hd.mk HM.out
       have fbk_0 : w9.cell? ⟨wr.heap.size, 0, none⟩ = some (.int .i64 N[t].key) := bk.out.cell 0 rfl
       have fbk_1 : w9.cell? ⟨wr.heap.size, 1, none⟩ = some (.int .i64 N[t].val.kind) := bk.out.cell 1 rfl
       have fbk_2 : w9.cell? ⟨wr.heap.size, 2, none⟩ = some (.int .i64 N[t].val.n) := bk.out.cell 2 rfl
       have fbk_3 : w9.cell? ⟨wr.heap.size, 3, none⟩ = some (.string N[t].val.s) := bk.out.cell 3 rfl
       have fbk_4 : w9.cell? ⟨wr.heap.size, 4, none⟩ = some (.slice E1 N[t].val.list.length e1) := bk.out.cell 4 rfl
       have fbk_5 : w9.cell? ⟨wr.heap.size, 5, none⟩ = some (.slice E2 N[t].val.names.length e2) := bk.out.cell 5 rfl
       have fbk_z := bk.out.frozen
       go_wp2_with fail
       clear fbk_0 fbk_1 fbk_2 fbk_3 fbk_4 fbk_5 fbk_z
       apply calls_gen; intro W68 hW
       have hbW := Hd.mk (show Below w9.heap.size w9 W68 by rw [hW]; exact below_alloc (Below.refl _ _) _)
       have hvb : W68.heap[w9.heap.size]? = some (.cells [Value.int IntKind.i64 N[t].key, .int .i64 N[t].val.kind, .int .i64 N[t].val.n, .string N[t].val.s, .slice E1 N[t].val.list.length e1, .slice E2 N[t].val.names.length e2].toArray 50 (0, 0)) := by rw [hW]; exact heap_alloc_new _ _
       have hzW := Hd.mk (show w9.heap.size + 1 ≤ W68.heap.size by rw [hW]; simp)
       clear hW
       refine (slices_Insert_key (w0 := w) (m := m) (T := fun _ => False) (S' := fun q => SL q ∨ W68.heap.size ≤ q) _ L N[t] [Value.int IntKind.i64 N[t].key, .int .i64 N[t].val.kind, .int .i64 N[t].val.n, .string N[t].val.s, .slice E1 N[t].val.list.length e1, .slice E2 N[t].val.names.length e2] w9.heap.size t W68 (HM0.out.below hbW.out).rl hL3 hvb ⟨_, rfl, HKx.out⟩ (fun k h => h.elim) (fun h => by have := (HM0.out.sl _ h).2.1; omega) (fun k h => .inl h) (fun k h => h.elim) (fun k h => .inr h) (by omega)).mono ?_
       rintro e wI ⟨vi, rfl, hv, hX⟩
       have HM := Hd.mk (HM0.out.ins hbW.out hv hX)
       clear hv hX hvb HM0
       go_wp2_with fail
       go_roundw
       case rel => exact ⟨t + 1, _, _, _, _, by omega, by go_num, rfl, rfl, by rw [HCS.out, HST.out]; exact HM⟩
       case measure => simp [intOf] <;> omega
    ·obtain rfl : t = N.length := by omega
     go_wp2_with fail
     go_ret
     exact ⟨_, rfl, by rw [HV.out]; exact R_mono (fun k hk => (HM.out.so k hk).1) HM.out.ro, HM.out.bl⟩
end Go.Proofs.YtegcecnjmimbiaaDoor.X
namespace Go.Proofs.YtegcecnjmimbiaaDoor.X
open Go.RowKit Go.Sort
set_option linter.unusedVariables false
set_option linter.unusedSimpArgs false
open Ty
structure KeysM (m : Nat) (w wr : World) (vk vo : Value) (K : List Int) (O : List JOp) (SK SO : Nat → Prop) : Prop where
 rk : int.R 3 wr SK vk K
 ro : (tOp (m + 1)).R 53 wr SO vo O
 sk : ∀ k, SK k → w.heap.size ≤ k ∧ k < wr.heap.size ∧ ¬ SO k
 so : ∀ k, SO k → w.heap.size ≤ k ∧ k < wr.heap.size
 bl : Below w.heap.size w wr
namespace KeysM
variable {m : Nat} {w wr wa w1 : World} {SK SO : Nat → Prop} {vk vo v1 : Value} {K K' : List Int} {O O' : List JOp}
theorem below (h : KeysM m w wr vk vo K O SK SO) (hb : Below wr.heap.size wr w1) : KeysM m w w1 vk vo K O SK SO :=
 ⟨R_below h.rk hb, R_below h.ro hb, fun k hk => by have h1 := h.sk k hk; have h2 := hb.size; exact ⟨h1.1, by omega, h1.2.2⟩, fun k hk => by have h1 := h.so k hk; have h2 := hb.size; exact ⟨h1.1, by omega⟩, below_then h.bl hb⟩
theorem op (h : KeysM m w wr vk vo K O SK SO) (hb : Below wr.heap.size wr wa) (hv : (tOp (m + 1)).R 53 w1 (fun q => SO q ∨ wr.heap.size ≤ q) v1 O') (hf : Fr wa w1 SO) :
  KeysM m w w1 vk v1 K O' SK (fun q => (SO q ∨ wr.heap.size ≤ q) ∧ q < w1.heap.size) := by
 have h2 := h.below hb
 have hz := hf.size
 have hz2 := hb.size
 refine ⟨R_fr h2.rk hf (fun k hk _ hs => (h.sk k hk).2.2 hs), R_bound hv, fun k hk => ?_, fun k hk => ?_, below_frS h2.bl hf (fun k hk => (h.so k hk).1)⟩
 ·have h3 := h.sk k hk
  refine ⟨h3.1, by omega, fun hs => ?_⟩
  rcases hs.1 with h4 | h4
  ·exact h3.2.2 h4
  ·omega
 ·have h5 := hk.2
  rcases hk.1 with h4 | h4
  ·exact ⟨(h.so k h4).1, h5⟩
  ·exact ⟨by have := h.bl.size; omega, h5⟩
theorem op2 {U : Nat → Prop} (h : KeysM m w wr vk vo K O SK SO) (hU : ∀ k, U k → w.heap.size ≤ k ∧ ¬ SK k) (hb : Below wr.heap.size wr wa) (hv : (tOp (m + 1)).R 53 w1 (fun q => SO q ∨ U q ∨ wr.heap.size ≤ q) v1 O') (hf : Fr wa w1 SO) :
  KeysM m w w1 vk v1 K O' SK (fun q => (SO q ∨ U q ∨ wr.heap.size ≤ q) ∧ q < w1.heap.size) := by
 have h2 := h.below hb
 have hz := hf.size
 have hz2 := hb.size
 refine ⟨R_fr h2.rk hf (fun k hk _ hs => (h.sk k hk).2.2 hs), R_bound hv, fun k hk => ?_, fun k hk => ?_, below_frS h2.bl hf (fun k hk => (h.so k hk).1)⟩
 ·have h3 := h.sk k hk
  refine ⟨h3.1, by omega, fun hs => ?_⟩
  rcases hs.1 with h4 | h4 | h4
  ·exact h3.2.2 h4
  ·exact (hU k h4).2 hk
  ·omega
 ·have h5 := hk.2
  rcases hk.1 with h4 | h4 | h4
  ·exact ⟨(h.so k h4).1, h5⟩
  ·exact ⟨(hU k h4).1, h5⟩
  ·exact ⟨by have := h.bl.size; omega, h5⟩
theorem keys (h : KeysM m w wr vk vo K O SK SO) (hb : Below wr.heap.size wr w1) (hv : int.R 3 w1 (fun k => wr.heap.size ≤ k) v1 K') : KeysM m w w1 v1 vo K' O (fun k => wr.heap.size ≤ k ∧ k < w1.heap.size) SO := by
 have h2 := h.below hb
 exact ⟨R_bound hv, h2.ro, fun k hk => ⟨by have := h.bl.size; have := hk.1; omega, hk.2, fun hs => by have := (h.so k hs).2; have := hk.1; omega⟩, h2.so, h2.bl⟩
end KeysM
end Go.Proofs.YtegcecnjmimbiaaDoor.X
namespace Go.Proofs.YtegcecnjmimbiaaDoor.X
open Go.RowKit Go.Sort
set_option linter.unusedVariables false
set_option linter.unusedSimpArgs false
open Ty
set_option maxHeartbeats 8000000 in
set_option maxRecDepth 100000 in
theorem spec_l5Rows {m : Nat} (A1 : Option Addr) (c1 : Nat) (old : List J) (A2 : Option Addr) (c2 : Nat) (ok : List Int) (A3 : Option Addr) (c3 : Nat) (now : List J) (A4 : Option Addr) (c4 : Nat) (nk : List Int) (w : World) (h1 : (tJ (m + 1)).C w A1 old) (h2 : int.C w A2 ok) (hc2 : ok.length ≤ c2) (h3 : (tJ (m + 1)).C w A3 now) (h4 : int.C w A4 nk) (hc4 : nk.length ≤ c4) (hn1 : old.length ≤ 1048576) (hn3 : now.length ≤ 1048576) (hk1 : keysOk ok old = true) (hk2 : keysOk nk now = true) :
  Calls Tryd.prog 18 #[.slice A1 old.length c1, .slice A2 ok.length c2, .slice A3 now.length c3, .slice A4 nk.length c4] w fun e w' => ∃ v, e = .returned v ∧ (tOp (m + 1)).R 53 w' (fun k => w.heap.size ≤ k) v (come (zipK ok old) (zipK nk now) (zipK nk now).length).2 ∧ Below w.heap.size w w' := by
 have H1 := Hd.mk h1; have H2 := Hd.mk h2; have H3 := Hd.mk h3; have H4 := Hd.mk h4
 clear h1 h2 h3 h4
 obtain ⟨P, hP⟩ : ∃ z, z = zipK ok old := ⟨_, rfl⟩
 obtain ⟨N, hN⟩ : ∃ z, z = zipK nk now := ⟨_, rfl⟩
 have hlo : ok.length = old.length := by unfold keysOk at hk1; rw [Bool.and_eq_true] at hk1; simpa using hk1.2
 have hln : nk.length = now.length := by unfold keysOk at hk2; rw [Bool.and_eq_true] at hk2; simpa using hk2.2
 rw [← hP, ← hN]
 have hPl : P.length = ok.length := by rw [hP]; unfold zipK; rw [List.length_zipWith]; omega
 have hNl : N.length = nk.length := by rw [hN]; unfold zipK; rw [List.length_zipWith]; omega
 have HKP := Hd.mk (show kOf P = ok by rw [hP]; exact kOf_zip hk1)
 have HKN := Hd.mk (show kOf N = nk by rw [hN]; exact kOf_zip hk2)
 have HD1 := Hd.mk (show Dist (kOf P) by rw [HKP.out]; exact dist_of hk1); have HD2 := Hd.mk (show Dist (kOf N) by rw [HKN.out]; exact dist_of hk2)
 have HPV := Hd.mk (show ∀ q (h : q < P.length) (h2 : q < old.length), P[q].val = old[q] from fun q h h2 => by subst hP; simp [zipK])
 have HNV := Hd.mk (show ∀ q (h : q < N.length) (h2 : q < now.length) (h3 : q < nk.length), N[q] = ⟨nk[q], now[q]⟩ from fun q h h2 h3 => by subst hN; simp [zipK])
 have hok := Hd.mk (show ∀ x ∈ N, jsonOk x.val = true by rw [hN]; exact zipK_ok hk2)
 have hok1 := Hd.mk (show ok.length ≤ 1048576 by omega)
 have hPb : P.length ≤ 1048576 := by omega
 have hNb : N.length ≤ 1048576 := by omega
 replace hlo := Hd.mk hlo; replace hln := Hd.mk hln; replace hPl := Hd.mk hPl; replace hNl := Hd.mk hNl
 clear hk1 hk2 hP hN
 have hokl := hok1.out
 go_enter Tryd.func18, Tryd.ntmps18
 go_wp2_with (at_builtin; refine append_scal (h1 := fun _ => rfl) rfl _ _ 23 3 (.int .i64 0) 8 rfl Tryd.underlying23 info_int rfl (by decide) (S := fun k => w.heap.size + 1 ≤ k) (ys := ok) (S' := fun k => w.heap.size + 1 ≤ k) rfl rfl (by have h_ := R_empty int 3 (w.alloc (.cells #[] 53)); simp only [show (w.alloc (.cells #[] 53)).heap.size = w.heap.size + 1 by simp] at h_; exact h_) (C_below H2.out (below_alloc (below_alloc (Below.refl _ _) _) _)) (fun _ h => h) (fun k h => by simp at h; omega) (by simp; omega) (fun v1 w1 hv hf => ?_))
 have HM := Hd.mk (show KeysM m w w1 v1 (.slice (some ⟨w.heap.size, 0, none⟩) 0 0) ok [] (fun k => w.heap.size + 1 ≤ k ∧ k < w1.heap.size) (fun k => w.heap.size ≤ k ∧ k < w.heap.size + 1) from
  have hz := hf.size
  have hz2 : w.heap.size + 2 ≤ w1.heap.size := by simpa using hz
  ⟨R_bound hv, R_fr (R_below (R_mono (S' := fun k => w.heap.size ≤ k ∧ k < w.heap.size + 1) (fun k hk => by have h1 := hk.2; simp at h1; exact ⟨hk.1, h1⟩) (R_bound (R_empty (tOp (m + 1)) 53 w))) (below_alloc (Below.refl _ _) _)) hf (fun k hk _ h => by have := hk.2; omega),
   fun k hk => ⟨by have := hk.1; omega, hk.2, fun h => by have := hk.1; have := h.2; omega⟩, fun k hk => ⟨hk.1, by have := hk.2; omega⟩, ((Fr.of_below (below_alloc (below_alloc (Below.refl _ _) _) _) _).then_ hf (fun k h _ => h)).below (fun k h => by omega)⟩)
 clear hv hf
 go_wp2_with fail
 go_loopw [9, 10, 11] (fun ov kv i wr => ∃ (t : Nat) (vk vo : Value) (SK SO : Nat → Prop), t ≤ P.length ∧ i = .int .i64 ((ok.length : Int) - 1 - t) ∧ vo = ov ∧ vk = kv ∧ Hd (KeysM m w wr vk vo (kOf (gone P N t).1) (gone P N t).2 SK SO)) (fun _ _ i _ => (intOf i + 1).toNat)
 case atStart => exact ⟨0, _, _, _, _, Nat.zero_le _, by go_num, rfl, rfl, by rw [show kOf (gone P N 0).1 = ok from HKP.out]; exact HM⟩
 case round =>
  clear HM
  obtain ⟨t, vk, vo, SK, SO, ht, rfl, rfl, rfl, HM⟩ := hrel
  have hPl2 := hPl.out
  by_cases hlt : t < P.length
  ·obtain ⟨q, hq⟩ : ∃ q : Nat, q = P.length - 1 - t := ⟨_, rfl⟩
   have hqi : ((ok.length : Int) - 1 - t) = (q : Int) := by omega
   rw [hqi]
   obtain ⟨L, O, key, hql, hG, hkq, hY, hNO, hg2, hg3⟩ := gone_open P N t q hlt hq
   have hkey := gone_at' P N t q hlt hq
   rw [hG] at HM hkey
   replace HM : Hd (KeysM m w wr vk vo (kOf L) O SK SO) := HM
   obtain ⟨K, hK⟩ : ∃ z, z = kOf L := ⟨_, rfl⟩
   rw [← hK] at HM
   have HKL := Hd.mk hK; clear hK
   have HY := Hd.mk hY; have HNO := Hd.mk hNO; have HG := Hd.mk hG
   have hqd := Hd.mk hqi
   have hqk : q < ok.length := by omega
   have hqP : q < 1048576 := by omega
   have hkok : ok[q] = key := by
    obtain ⟨h1, h2⟩ := hkey
    have h3 : P.getD q Keyed.no = P[q]'(by omega) := by rw [List.getD_eq_getElem?_getD, List.getElem?_eq_getElem (by omega)]; rfl
    have h4 : L[q] = P[q]'(by omega) := by rw [← h3]; exact h2
    rw [← hkq, h4]
    have h5 := congrArg (fun l => l[q]?) HKP.out
    simp only [List.getElem?_map] at h5
    rw [List.getElem?_eq_getElem hqk, List.getElem?_eq_getElem (by omega)] at h5
    simpa using h5.symm
   clear hqi hY hNO hG hq hkey hPl2
   obtain ⟨ad, hA2, x0⟩ := C_int_at H2.out HM.out.bl q hqk
   subst hA2
   rw [hkok] at x0
   have hq0 : (0 : Int) ≤ (q : Int) := by omega
   have hqL : (q : Int) < (ok.length : Int) := by omega
   have hB := Hd.mk (Below.refl wr.heap.size wr)
   go_wp2_with fail
   clear x0
   apply calls_gen; intro W61 hW
   have hz_ : wr.heap.size ≤ W61.heap.size := by rw [hW]; simp
   have hE : Below wr.heap.size wr W61 := by rw [hW]; (repeat (first | with_reducible refine below_alloc ?_ _ | with_reducible refine below_drew ?_)); exact Below.refl _ _
   have hB := hB.th hE
   have HM := Hd.mk (KeysM.below HM.out hE)
   clear hW hE
   have z61 := Hd.mk hz_; clear hz_
   refine (spec_l5At A4 c4 nk key _ (C_below H4.out HM.out.bl)).mono ?_
   rintro e w62 ⟨rfl, hX⟩
   have HM := Hd.mk (KeysM.below HM.out hX)
   have hB := hB.th hX
   have hz_ := hX.size
   clear hX
   have z62 := Hd.mk hz_; clear hz_
   obtain ⟨at_, hat⟩ : ∃ z, z = atI nk key := ⟨_, rfl⟩
   rw [← hat]
   have HAT := Hd.mk (show atK N key = at_ by rw [hat, ← HKN.out]; rfl); clear hat
   by_cases h0 : at_ < 0
   ·have HY := Hd.mk (HY.out (by rw [HAT.out]; exact h0)); clear HNO
    have hq1 : IntKind.i64.wrap ((q : Int) + 1) = (q : Int) + 1 := by rw [IntKind.wrap_i64]; omega
    obtain ⟨DK, dk, hvk, hdk, _⟩ := R_C HM.out.rk
    subst hvk
    go_wp2_with fail
    apply calls_gen; intro W63 hW
    have hz_ : w62.heap.size ≤ W63.heap.size := by rw [hW]; simp
    have hE : Below w62.heap.size w62 W63 := by rw [hW]; (repeat (first | with_reducible refine below_alloc ?_ _ | with_reducible refine below_drew ?_)); exact Below.refl _ _
    have hB := hB.th hE
    have HM := Hd.mk (KeysM.below HM.out hE)
    clear hW hE
    have z63 := Hd.mk hz_; clear hz_
    refine (spec_l2Digits (q : Int) _ (by omega) (by omega)).mono ?_
    rintro e w64 ⟨rfl, hX⟩
    have HM := Hd.mk (KeysM.below HM.out hX)
    have hB := hB.th hX
    have hz_ := hX.size
    clear hX
    have z64 := Hd.mk hz_; clear hz_
    obtain ⟨tx, ht_⟩ : ∃ z : ByteArray, z = ⟨(Lib.itoa (q : Int)).toArray⟩ := ⟨_, rfl⟩
    rw [← ht_]
    have Htx := Hd.mk (show tx = numS (q : Int) from ht_); clear ht_
    have hstx := Hd.mk (show tx.size ≤ 21 by rw [Htx.out]; exact numS_size _ (by omega) (by omega))
    have HM0 := Hd.mk HM.out
    go_wp2_with (at_builtin; refine append_oneN (tOp (m + 1)) (n := w64.heap.size + 1) (by simp) rfl _ _ 25 53 (.agg #[.int .i64 0, .slice none 0 0, .int .i64 0, .int .i64 0, .string ByteArray.empty, .slice none 0 0, .slice none 0 0]) 112 rfl Tryd.underlying25 info_OpS rfl (by rw [tOp_sz]; omega) (by decide) (S := SO) (T := fun k => k = w64.heap.size) (S' := fun q => SO q ∨ w64.heap.size ≤ q) (v := vo) (xs := O) (remO q) [.int .i64 2, .slice (some ⟨w64.heap.size, 0, none⟩) 1 1, .int .i64 0, .int .i64 0, .string ⟨#[]⟩, .slice none 0 0, .slice none 0 0] rfl rfl (R_below HM0.out.ro (below_alloc (Below.refl _ _) _)) (remO_O (by rw [← Htx.out]; exact R_one' tx (by have := hstx.out; omega) rfl)) (fun k hk hl hs => by have := (HM0.out.so k hs).2; omega) (fun k h => .inl h) (fun k h => .inr (by omega)) (fun k h => .inr (by omega)) (by omega) (fun v5 w5 hv hf => ?_); have HM5 := Hd.mk (HM0.out.op (below_alloc (Below.refl _ _) _) hv hf); clear hv hf)
    clear HM HM0
    have HM := HM5; clear HM5
    refine (spec_l5Without DK dk K q w5 (R_Cv HM.out.rk) hdk (by rw [HKL.out, kOf_len]; exact hql) (by rw [HKL.out, kOf_len]; omega)).mono ?_
    rintro e w6 ⟨vd, rfl, hv, hX⟩
    have HM := Hd.mk (HM.out.keys hX hv)
    clear hv hX
    go_wp2_with fail
    go_roundw
    case rel => exact ⟨t + 1, vd, v5, _, _, by omega, by rw [show (ok.length : Int) - 1 - ((t + 1 : Nat) : Int) = (q : Int) - 1 by have := hqd.out; omega], rfl, rfl, by rw [HY.out]; show Hd (KeysM m w w6 vd v5 (kOf (L.eraseIdx q)) _ _ _); rw [kOf_erase, ← HKL.out]; exact HM⟩
    case measure => simp [intOf] <;> omega
   ·have HNO := Hd.mk (HNO.out (by rw [HAT.out]; omega)); clear HY
    go_wp2_with fail
    go_roundw
    case rel => exact ⟨t + 1, _, vo, SK, SO, by omega, by rw [show (ok.length : Int) - 1 - ((t + 1 : Nat) : Int) = (q : Int) - 1 by have := hqd.out; omega], rfl, rfl, by rw [HNO.out]; show Hd (KeysM m w _ _ _ (kOf L) _ _ _); rw [← HKL.out]; exact HM⟩
    case measure => simp [intOf] <;> omega
  ·obtain rfl : t = P.length := by omega
   have hm1 : (ok.length : Int) - 1 - (P.length : Int) = -1 := by omega
   rw [hm1]
   clear hm1 hlt ht hPl2
   go_wp2_with fail
   go_loopw [9, 10, 12] (fun ov kv i wr => ∃ (t : Nat) (vk vo : Value) (SK SO : Nat → Prop), t ≤ N.length ∧ i = .int .i64 t ∧ vo = ov ∧ vk = kv ∧ Hd (KeysM m w wr vk vo (kOf (come P N t).1) (come P N t).2 SK SO)) (fun _ _ i _ => N.length - (intOf i).toNat)
   case atStart => exact ⟨0, _, _, _, _, Nat.zero_le _, by go_num, rfl, rfl, HM⟩
   case round =>
    clear HM
    obtain ⟨t, vk, vo, SK, SO, ht, rfl, rfl, rfl, HM⟩ := hrel
    by_cases hlt : t < N.length
    ·have htk : t < nk.length := by have := hNl.out; omega
     have htw : t < now.length := by have := hln.out; omega
     obtain ⟨L, O, hC, hc1, hc2, hc3, hc4, hc5, hc6⟩ := come_open2 P N HD1.out HD2.out t hlt
     rw [hC] at HM
     replace HM : Hd (KeysM m w wr vk vo (kOf L) O SK SO) := HM
     obtain ⟨K, hK⟩ : ∃ z, z = kOf L := ⟨_, rfl⟩
     rw [← hK] at HM hc5 hc6
     rw [HKP.out] at hc6
     have hNt := HNV.out t hlt htw htk
     have HNK := Hd.mk (show N[t].key = nk[t] by rw [hNt]); have HNW := Hd.mk (show N[t].val = now[t] by rw [hNt])
     rw [HNK.out] at hc5 hc6
     have HJX := Hd.mk (show jsonOk now[t] = true by rw [← HNW.out]; exact hok.out _ (List.getElem_mem hlt))
     have HBX := Hd.mk (show bulkJ (m + 1) now[t] ≤ 4194304 by have h_ := bulk_size (m + 1) 6 now[t] (of_decide_eq_true (show decide (sizeN 6 now[t] ≤ 400) = true from HJX.out)); have h2_ : sizeN 6 now[t] ≤ 400 := of_decide_eq_true (show decide (sizeN 6 now[t] ≤ 400) = true from HJX.out); omega)
     have HKL := Hd.mk hK; have HKn := Hd.mk (show K.length = L.length by rw [hK, kOf_len]); have HCS := Hd.mk hc4; have HGE := Hd.mk hc5; have HOA := Hd.mk hc6
     clear hK hc4 hc5 hc6 hC hNt
     obtain ⟨ad, hA4, x0⟩ := C_int_at H4.out HM.out.bl t htk
     subst hA4
     obtain ⟨DK, dk, hvk, hdk, _⟩ := R_C HM.out.rk
     subst hvk
     have hti : (t : Int) < (nk.length : Int) := by omega
     have htw2 : (t : Int) < (now.length : Int) := by omega
     have hB := Hd.mk (Below.refl wr.heap.size wr)
     go_wp2_with fail
     apply calls_gen; intro W61 hW
     have hz_ : wr.heap.size ≤ W61.heap.size := by rw [hW]; simp
     have hE : Below wr.heap.size wr W61 := by rw [hW]; (repeat (first | with_reducible refine below_alloc ?_ _ | with_reducible refine below_drew ?_)); exact Below.refl _ _
     have hB := hB.th hE
     have HM := Hd.mk (KeysM.below HM.out hE)
     clear hW hE
     have z61 := Hd.mk hz_; clear hz_
     refine (spec_l2Digits (t : Int) _ (by omega) (by omega)).mono ?_
     rintro e w62 ⟨rfl, hX⟩
     have HM := Hd.mk (KeysM.below HM.out hX)
     have hB := hB.th hX
     have hz_ := hX.size
     clear hX
     have z62 := Hd.mk hz_; clear hz_
     obtain ⟨tx, ht_⟩ : ∃ z : ByteArray, z = ⟨(Lib.itoa (t : Int)).toArray⟩ := ⟨_, rfl⟩
     rw [← ht_]
     have Htx := Hd.mk (show tx = numS (t : Int) from ht_); clear ht_
     have hstx := Hd.mk (show tx.size ≤ 21 by rw [Htx.out]; exact numS_size _ (by omega) (by omega))
     clear x0
     obtain ⟨ad2, ea, x0⟩ := C_int_at H4.out HM.out.bl t htk
     injection ea with ea; subst ea
     have lx0 := fun o => cell_below (below_alloc (Below.refl w62.heap.size w62) o) x0
     go_wp2_with fail
     clear lx0 x0
     apply calls_gen; intro W63 hW
     have HWy := Hd.mk (show str.R 9 W63 (fun k => k = w62.heap.size) (.slice (some ⟨w62.heap.size, 0, none⟩) 1 1) [numS t] by rw [hW, ← Htx.out]; exact R_one' tx (by have := hstx.out; omega) rfl)
     have hUU := Hd.mk (show ¬ SK w62.heap.size ∧ ¬ SO w62.heap.size from ⟨fun h => by have := (HM.out.sk _ h).2.1; omega, fun h => by have := (HM.out.so _ h).2; omega⟩)
     have hUw := Hd.mk (show w.heap.size ≤ w62.heap.size from HM.out.bl.size)
     have hz_ : w62.heap.size + 1 ≤ W63.heap.size := by rw [hW]; simp
     have hE : Below w62.heap.size w62 W63 := by rw [hW]; (repeat (first | with_reducible refine below_alloc ?_ _ | with_reducible refine below_drew ?_)); exact Below.refl _ _
     have hB := hB.th hE
     have HM := Hd.mk (KeysM.below HM.out hE)
     clear hW hE
     have z63 := Hd.mk hz_; clear hz_
     refine (spec_l5At DK dk K nk[t] _ (R_Cv HM.out.rk)).mono ?_
     rintro e w64 ⟨rfl, hX⟩
     have HM := Hd.mk (KeysM.below HM.out hX)
     have HWy := Hd.mk (R_below HWy.out hX)
     have hB := hB.th hX
     have hz_ := hX.size
     clear hX
     have z64 := Hd.mk hz_; clear hz_
     obtain ⟨at_, hat⟩ : ∃ z, z = atI K nk[t] := ⟨_, rfl⟩
     rw [← hat] at HGE HOA ⊢
     have HAT := Hd.mk (show atK L N[t].key = at_ by rw [HNK.out, hat, HKL.out]; rfl); clear hat
     by_cases heq : at_ = (t : Int)
     ·subst heq
      obtain ⟨hlL, q, hqP, hqa, hLP⟩ := HOA.out rfl
      have hqo : q < old.length := by have := hPl.out; have := hlo.out; omega
      have HLV := Hd.mk (show L[t].val = old[q] by rw [hLP]; exact HPV.out q hqP hqo)
      have HQA := Hd.mk hqa
      have hqoi : (q : Int) < (old.length : Int) := by omega
      have hq0 : (0 : Int) ≤ (q : Int) := by omega
      clear hqa hLP
      obtain ⟨ad2, ea, x0⟩ := C_int_at H4.out HM.out.bl t htk
      injection ea with ea; subst ea
      obtain ⟨bd, cs_, hA_, hK_, k0_, k1_⟩ := C_at H3.out (Below.refl _ _) t htw
      subst hA_
      obtain ⟨E1, e1, E2, e2, rfl, hs_, ⟨_, hr_⟩, _, hr2_⟩ := tJ_K.1 hK_
      have Hy := Hd.mk hK_; clear hK_ hr_ hr2_ hs_
      have y0 : w64.cell? (bd.add (t * 5)) = some (.int .i64 now[t].kind) := cell_below HM.out.bl (k0_ _ rfl)
      have y1 : w64.cell? ⟨(bd.add (t * 5)).block, (bd.add (t * 5)).off + 1, none⟩ = some (.int .i64 now[t].n) := cell_below HM.out.bl (k1_ 0 _ rfl)
      have y2 : w64.cell? ⟨(bd.add (t * 5)).block, (bd.add (t * 5)).off + 2, none⟩ = some (.string now[t].s) := cell_below HM.out.bl (k1_ 1 _ rfl)
      have y3 : w64.cell? ⟨(bd.add (t * 5)).block, (bd.add (t * 5)).off + 3, none⟩ = some (.slice E1 now[t].list.length e1) := cell_below HM.out.bl (k1_ 2 _ rfl)
      have y4 : w64.cell? ⟨(bd.add (t * 5)).block, (bd.add (t * 5)).off + 4, none⟩ = some (.slice E2 now[t].names.length e2) := cell_below HM.out.bl (k1_ 3 _ rfl)
      clear k0_ k1_
      obtain ⟨be, cs_, hA_, hK_, k0_, k1_⟩ := C_at H1.out (Below.refl _ _) q hqo
      subst hA_
      obtain ⟨F1, f1, F2, f2, rfl, hs_, ⟨_, hr_⟩, _, hr2_⟩ := tJ_K.1 hK_
      have Hz := Hd.mk hK_; clear hK_ hr_ hr2_ hs_
      have z0 : w64.cell? (be.add (q * 5)) = some (.int .i64 old[q].kind) := cell_below HM.out.bl (k0_ _ rfl)
      have z1 : w64.cell? ⟨(be.add (q * 5)).block, (be.add (q * 5)).off + 1, none⟩ = some (.int .i64 old[q].n) := cell_below HM.out.bl (k1_ 0 _ rfl)
      have z2 : w64.cell? ⟨(be.add (q * 5)).block, (be.add (q * 5)).off + 2, none⟩ = some (.string old[q].s) := cell_below HM.out.bl (k1_ 1 _ rfl)
      have z3 : w64.cell? ⟨(be.add (q * 5)).block, (be.add (q * 5)).off + 3, none⟩ = some (.slice F1 old[q].list.length f1) := cell_below HM.out.bl (k1_ 2 _ rfl)
      have z4 : w64.cell? ⟨(be.add (q * 5)).block, (be.add (q * 5)).off + 4, none⟩ = some (.slice F2 old[q].names.length f2) := cell_below HM.out.bl (k1_ 3 _ rfl)
      clear k0_ k1_
      go_wp2_with fail
      obtain ⟨rx0, ry0, ry1, ry2, ry3, ry4, rz0⟩ := reg7 x0 y0 y1 y2 y3 y4 z0
      have rz1 := cell_regrown z1
      have rz2 := cell_regrown z2
      have rz3 := cell_regrown z3
      have rz4 := cell_regrown z4
      refine region_mix [(true, 0), (true, 1), (true, 2), (true, 3), (true, 4), (true, 5), (true, 9), (true, 10), (true, 11), (true, 12), (false, 6), (true, 7), (true, 8), (false, 13), (true, 14)] (by kernel_rfl) (by kernel_rfl) (fun _ _ _ _ _ h => h) ?_
      (repeat (first | (refine mix_z rfl (by rfl) ?_; go_big_quiet_skip; refine wpQuiet_nil ?_) | (refine mix_q rfl ?_; first | (go_big_quiet_skip; refine wpQuiet_nil ?_) | (go_big_quiet_want; go_big_quiet_op; go_big_quiet_on; refine wpQuiet_nil ?_))))
      refine mix_b rfl ?_ (by rfl)
      go_wp2_with fail
      have hS := Hd.mk (Below.refl w64.heap.size w64)
      apply calls_gen; intro W65 hW
      have hz_ : w64.heap.size ≤ W65.heap.size := by rw [hW]; simp
      have hE : Below w64.heap.size w64 W65 := by rw [hW]; (repeat (first | with_reducible refine below_alloc ?_ _ | with_reducible refine below_drew ?_)); exact Below.refl _ _
      have hB := hB.th hE
      replace hS := Hd.mk (below_then hS.out hE)
      have HM := Hd.mk (KeysM.below HM.out hE)
      have HWy := Hd.mk (R_below HWy.out hE)
      clear hW hE
      have z65 := Hd.mk hz_; clear hz_
      refine (spec_l5At A2 c2 ok nk[t] _ (C_below H2.out HM.out.bl)).mono ?_
      rintro e w66 ⟨rfl, hX⟩
      have HM := Hd.mk (KeysM.below HM.out hX)
      have HWy := Hd.mk (R_below HWy.out hX)
      have hB := hB.th hX
      replace hS := Hd.mk (below_then hS.out hX)
      have hz_ := hX.size
      clear hX
      have z66 := Hd.mk hz_; clear hz_
      rw [HQA.out]
      go_wp2_with fail
      refine ⟨cls_below hS.out, ?_⟩
      (repeat (first | (refine mix_z rfl (by rfl) ?_; go_big_quiet_skip; refine wpQuiet_nil ?_) | (refine mix_q rfl ?_; first | (go_big_quiet_skip; refine wpQuiet_nil ?_) | (go_big_quiet_want; go_big_quiet_op; go_big_quiet_on; refine wpQuiet_nil ?_))))
      refine mix_b rfl ?_ (by rfl)
      go_wp2_with fail
      clear rx0 ry0 ry1 ry2 ry3 ry4 rz0 rz1 rz2 rz3 rz4
      clear x0 y0 y1 y2 y3 y4 z0 z1 z2 z3 z4
      apply calls_gen; intro W67 hW
      have hz_ : w66.heap.size ≤ W67.heap.size := by rw [hW]; simp
      have hE : Below w66.heap.size w66 W67 := by rw [hW]; (repeat (first | with_reducible refine below_alloc ?_ _ | with_reducible refine below_drew ?_)); exact Below.refl _ _
      have hB := hB.th hE
      replace hS := Hd.mk (below_then hS.out hE)
      have HM := Hd.mk (KeysM.below HM.out hE)
      have HWy := Hd.mk (R_below HWy.out hE)
      clear hW hE
      have z67 := Hd.mk hz_; clear hz_
      refine (same_all (m + 1) old[q] now[t] _ _ _ (Ty.K_below _ HM.out.bl Hz.out) (Ty.K_below _ HM.out.bl Hy.out)).mono ?_
      rintro e w68 ⟨rfl, hX⟩
      have HM := Hd.mk (KeysM.below HM.out hX)
      have HWy := Hd.mk (R_below HWy.out hX)
      have hB := hB.th hX
      replace hS := Hd.mk (below_then hS.out hX)
      have hz_ := hX.size
      clear hX
      have z68 := Hd.mk hz_; clear hz_
      cases hev : eqv old[q] now[t]
      ·go_wp2_with fail
       refine ⟨cls_below hS.out, ?_⟩
       (repeat (first | (refine mix_z rfl (by rfl) ?_; go_big_quiet_skip; refine wpQuiet_nil ?_) | (refine mix_q rfl ?_; first | (go_big_quiet_skip; refine wpQuiet_nil ?_) | (go_big_quiet_want; go_big_quiet_op; go_big_quiet_on; refine wpQuiet_nil ?_))))
       refine mix_nil ?_
       clear hS
       have HST := Hd.mk (show come1 N[t] t (L, O) = (L, O ++ [repO t now[t]]) by rw [come1_rep (O := O) HAT.out hlL (by rw [HLV.out, HNW.out]; exact hev), HNW.out])
       obtain ⟨bd3, cs_, hA_, hK_, k0_, k1_⟩ := C_at H3.out (Below.refl _ _) t htw
       try (injection hA_ with hA_)
       subst hA_
       obtain ⟨E1, e1, E2, e2, rfl, hs_, ⟨_, hr_⟩, _, hr2_⟩ := tJ_K.1 hK_
       have Hy3 := Hd.mk hK_; clear hK_ hr_ hr2_ hs_
       have y0 : w68.cell? (bd.add (t * 5)) = some (.int .i64 now[t].kind) := cell_below HM.out.bl (k0_ _ rfl)
       have y1 : w68.cell? ⟨(bd.add (t * 5)).block, (bd.add (t * 5)).off + 1, none⟩ = some (.int .i64 now[t].n) := cell_below HM.out.bl (k1_ 0 _ rfl)
       have y2 : w68.cell? ⟨(bd.add (t * 5)).block, (bd.add (t * 5)).off + 2, none⟩ = some (.string now[t].s) := cell_below HM.out.bl (k1_ 1 _ rfl)
       have y3 : w68.cell? ⟨(bd.add (t * 5)).block, (bd.add (t * 5)).off + 3, none⟩ = some (.slice E1 now[t].list.length e1) := cell_below HM.out.bl (k1_ 2 _ rfl)
       have y4 : w68.cell? ⟨(bd.add (t * 5)).block, (bd.add (t * 5)).off + 4, none⟩ = some (.slice E2 now[t].names.length e2) := cell_below HM.out.bl (k1_ 3 _ rfl)
       clear k0_ k1_
       go_wp2_with fail
       clear y0 y1 y2 y3 y4
       have HM0 := Hd.mk HM.out; have hBz := Hd.mk (Below.refl w68.heap.size w68)
       apply calls_gen; intro W70 hW
       have hz_ : w68.heap.size ≤ W70.heap.size := by rw [hW]; simp
       have hE : Below w68.heap.size w68 W70 := by rw [hW]; (repeat (first | with_reducible refine below_alloc ?_ _ | with_reducible refine below_drew ?_)); exact Below.refl _ _
       have hB := hB.th hE
       have hBz := Hd.mk (below_then hBz.out hE)
       have HM := Hd.mk (KeysM.below HM.out hE)
       have HWy := Hd.mk (R_below HWy.out hE)
       clear hW hE
       have z69 := Hd.mk hz_; clear hz_
       refine (spec_l1Copy now[t] _ _ (Ty.K_below _ HM.out.bl Hy3.out) HBX.out).mono ?_
       rintro e w71 ⟨cy, rfl, hY, hX⟩
       have HM := Hd.mk (KeysM.below HM.out hX)
       have HWy := Hd.mk (R_below HWy.out hX)
       have hB := hB.th hX
       have hz_ := hX.size
       have hBz := Hd.mk (below_then hBz.out hX)
       clear hX
       have z70 := Hd.mk hz_; clear hz_
       obtain ⟨v3, v4, _, _, hcy, _, h3_, h4_, _⟩ := tJ_O.1 hY
       obtain ⟨G1, g1, rfl, _, _⟩ := R_C h3_
       obtain ⟨G2, g2, rfl, _, _⟩ := R_C h4_
       clear h3_ h4_
       subst hcy
       replace hY := Hd.mk (show (tJ (m + 1)).O w71 (rng W70.heap.size w71.heap.size) now[t] _ from Ty.O_bound _ hY)
       have hUlt := Hd.mk (show w62.heap.size < W70.heap.size by have z61_ := z61.out; have z62_ := z62.out; have z63_ := z63.out; have z64_ := z64.out; have z65_ := z65.out; have z66_ := z66.out; have z67_ := z67.out; have z68_ := z68.out; have z69_ := z69.out; have z70_ := z70.out; omega)
       go_wp2_with (at_builtin; refine append_one (tOp (m + 1))  rfl _ _ 25 53 (.agg #[.int .i64 0, .slice none 0 0, .int .i64 0, .int .i64 0, .string ByteArray.empty, .slice none 0 0, .slice none 0 0]) 112 rfl Tryd.underlying25 info_OpS rfl (by rw [tOp_sz]; omega) (by decide) (S := SO) (T := fun k => k = w62.heap.size ∨ w68.heap.size ≤ k ∧ k < w71.heap.size) (S' := fun q => SO q ∨ q = w62.heap.size ∨ w68.heap.size ≤ q) (v := vo) (xs := O) (repO t now[t]) [.int .i64 3, .slice (some ⟨w62.heap.size, 0, none⟩) 1 1, .int .i64 now[t].kind, .int .i64 now[t].n, .string now[t].s, .slice G1 now[t].list.length g1, .slice G2 now[t].names.length g2] rfl rfl HM.out.ro (valO_O HWy.out hY.out (fun k h => .inl h) (fun k h => .inr (by have q1_ := h.1; have q2_ := h.2; have z61_ := z61.out; have z62_ := z62.out; have z63_ := z63.out; have z64_ := z64.out; have z65_ := z65.out; have z66_ := z66.out; have z67_ := z67.out; have z68_ := z68.out; have z69_ := z69.out; have z70_ := z70.out; exact ⟨by omega, by omega⟩)) (fun k h h2 => by have q3_ := h2.1; have q4_ := hUlt.out; (try simp only at h); omega)) (fun k hk hl hs => by rcases hk with hk | hk; (subst hk; exact hUU.out.2 hs); (have := (HM0.out.so k hs).2; have q1_ := hk.1; omega)) (fun k h => .inl h) (fun k h => .inr (by rcases h with h | h; exact .inl h; exact .inr h.1)) (fun k h => .inr (.inr (by have z61_ := z61.out; have z62_ := z62.out; have z63_ := z63.out; have z64_ := z64.out; have z65_ := z65.out; have z66_ := z66.out; have z67_ := z67.out; have z68_ := z68.out; have z69_ := z69.out; have z70_ := z70.out; omega))) (by first | omega | (simp; omega)) (fun v9 w9 hv hf => ?_); have HM9 := Hd.mk (HM0.out.op2 (U := fun q => q = w62.heap.size) (fun k hk => by subst hk; exact ⟨hUw.out, hUU.out.1⟩) hBz.out hv hf); clear hv hf)
       clear HM HM0 HWy hY hBz
       have HM := HM9; clear HM9
       go_wp2_with fail
       go_roundw
       case rel => exact ⟨t + 1, _, _, _, _, by omega, by go_num, rfl, rfl, by rw [HCS.out, HST.out]; show Hd (KeysM m w _ _ _ (kOf (L)) _ _ _); rw [← HKL.out]; exact HM⟩
       case measure => simp [intOf] <;> omega
      ·have HST := Hd.mk (come1_same (O := O) HAT.out hlL (by rw [HLV.out, HNW.out]; exact hev))
       go_wp2_with fail
       refine ⟨cls_below hS.out, ?_⟩
       (repeat (first | (refine mix_z rfl (by rfl) ?_; go_big_quiet_skip; refine wpQuiet_nil ?_) | (refine mix_q rfl ?_; first | (go_big_quiet_skip; refine wpQuiet_nil ?_) | (go_big_quiet_want; go_big_quiet_op; go_big_quiet_on; refine wpQuiet_nil ?_))))
       refine mix_nil ?_
       go_wp2_with fail
       go_roundw
       case rel => exact ⟨t + 1, _, _, _, _, by omega, by go_num, rfl, rfl, by rw [HCS.out, HST.out]; show Hd (KeysM m w _ _ _ (kOf (L)) _ _ _); rw [← HKL.out]; exact HM⟩
       case measure => simp [intOf] <;> omega
     ·have hne : ¬ at_ = (t : Int) := heq
      have hneb : (at_ == (t : Int)) = false := by simpa using heq
      by_cases hge : 0 ≤ at_
      ·obtain ⟨q, hq⟩ := Int.eq_ofNat_of_zero_le hge
       subst hq
       obtain ⟨hq1, hqL⟩ := HGE.out q rfl
       have hqn : q ≠ t := by omega
       have hq0 : (0 : Int) ≤ (q : Int) := by omega
       have HST := Hd.mk (show come1 N[t] t (L, O) = ((L.eraseIdx q).take t ++ N[t] :: (L.eraseIdx q).drop t, (O ++ [remO q]) ++ [addO t now[t]]) by rw [come1_move (O := O) HAT.out hqn, HNW.out])
       go_wp2_with fail
       apply calls_gen; intro W65 hW
       have hz_ : w64.heap.size ≤ W65.heap.size := by rw [hW]; simp
       have hE : Below w64.heap.size w64 W65 := by rw [hW]; (repeat (first | with_reducible refine below_alloc ?_ _ | with_reducible refine below_drew ?_)); exact Below.refl _ _
       have hB := hB.th hE
       have HM := Hd.mk (KeysM.below HM.out hE)
       have HWy := Hd.mk (R_below HWy.out hE)
       clear hW hE
       have z65 := Hd.mk hz_; clear hz_
       refine (spec_l2Digits (q : Int) _ (by omega) (by omega)).mono ?_
       rintro e w66 ⟨rfl, hX⟩
       have HM := Hd.mk (KeysM.below HM.out hX)
       have HWy := Hd.mk (R_below HWy.out hX)
       have hB := hB.th hX
       have hz_ := hX.size
       clear hX
       have z66 := Hd.mk hz_; clear hz_
       obtain ⟨ty, ht_⟩ : ∃ z : ByteArray, z = ⟨(Lib.itoa (q : Int)).toArray⟩ := ⟨_, rfl⟩
       rw [← ht_]
       have Hty := Hd.mk (show ty = numS (q : Int) from ht_); clear ht_
       have hsty := Hd.mk (show ty.size ≤ 21 by rw [Hty.out]; exact numS_size _ (by omega) (by omega))
       have hUc := Hd.mk (show w62.heap.size < w66.heap.size by have z61_ := z61.out; have z62_ := z62.out; have z63_ := z63.out; have z64_ := z64.out; have z65_ := z65.out; have z66_ := z66.out; omega)
       have HM0 := Hd.mk HM.out
       go_wp2_with (at_builtin; refine append_oneN (tOp (m + 1)) (n := w66.heap.size + 1) (by simp) rfl _ _ 25 53 (.agg #[.int .i64 0, .slice none 0 0, .int .i64 0, .int .i64 0, .string ByteArray.empty, .slice none 0 0, .slice none 0 0]) 112 rfl Tryd.underlying25 info_OpS rfl (by rw [tOp_sz]; omega) (by decide) (S := SO) (T := fun k => k = w66.heap.size) (S' := fun q => SO q ∨ w66.heap.size ≤ q) (v := vo) (xs := O) (remO q) [.int .i64 2, .slice (some ⟨w66.heap.size, 0, none⟩) 1 1, .int .i64 0, .int .i64 0, .string ⟨#[]⟩, .slice none 0 0, .slice none 0 0] rfl rfl (R_below HM0.out.ro (below_alloc (Below.refl _ _) _)) (remO_O (by rw [← Hty.out]; exact R_one' ty (by have := hsty.out; omega) rfl)) (fun k hk hl hs => by have := (HM0.out.so k hs).2; omega) (fun k h => .inl h) (fun k h => .inr (by omega)) (fun k h => .inr (by omega)) (by omega) (fun v5 w5 hv hf => ?_); have HM5 := Hd.mk (HM0.out.op (below_alloc (Below.refl _ _) _) hv hf); have HWy5 := Hd.mk (R_fr (R_below HWy.out (below_alloc (Below.refl _ _) _)) hf (fun k hk hl h => by have hk : k = w62.heap.size := hk; subst hk; exact hUU.out.2 h)); have hz5 := Hd.mk (show w66.heap.size + 1 ≤ w5.heap.size by have h_ := hf.size; simp at h_; omega); clear hv hf)
       clear HM HM0
       have HM := HM5; clear HM5
       clear HWy
       have HWy := HWy5; clear HWy5
       have hUO := Hd.mk (show ¬ ((SO w62.heap.size ∨ w66.heap.size ≤ w62.heap.size) ∧ w62.heap.size < w5.heap.size) from fun h => by rcases h.1 with h | h; exact hUU.out.2 h; (have := hUc.out; omega))
       obtain ⟨O2, hO2e⟩ : ∃ z, z = O ++ [remO q] := ⟨_, rfl⟩
       obtain ⟨SO2, hSO2⟩ : ∃ z : Nat → Prop, z = (fun q => (SO q ∨ w66.heap.size ≤ q) ∧ q < w5.heap.size) := ⟨_, rfl⟩
       replace hUO := Hd.mk (show ¬ SO2 w62.heap.size by rw [hSO2]; exact hUO.out)
       have hO2 : O2.length = O.length + 1 := by rw [hO2e]; simp
       rw [← hO2e] at HM HST
       rw [← hSO2] at HM
       clear hO2e hSO2
       refine (spec_l5Without DK dk K q w5 (R_Cv HM.out.rk) hdk (by rw [HKn.out]; exact hqL) (by rw [HKn.out]; omega)).mono ?_
       rintro e w6 ⟨vd, rfl, hv, hX⟩
       obtain ⟨DV, dv, hvd, hdv, _⟩ := R_C hv
       subst hvd
       have HM := Hd.mk (HM.out.keys hX hv)
       have HWy := Hd.mk (R_below HWy.out hX)
       have hUK := Hd.mk (show ¬ (w5.heap.size ≤ w62.heap.size ∧ w62.heap.size < w6.heap.size) from fun h => by have := hz5.out; have := hUc.out; have := h.1; omega)
       have hzw := Hd.mk (show w62.heap.size < w6.heap.size by have := hX.size; have := hz5.out; have := hUc.out; omega)
       clear hv hX
       obtain ⟨K2, hK2e⟩ : ∃ z, z = K.eraseIdx q := ⟨_, rfl⟩
       rw [← hK2e] at HM ⊢
       have HK2 := Hd.mk hK2e
       have hK2l : t ≤ K2.length ∧ K2.length ≤ 4194304 := by rw [hK2e, List.length_eraseIdx, HKn.out]; split <;> omega
       clear hK2e
       have hB := Hd.mk (Below.refl w6.heap.size w6)
       obtain ⟨bd3, cs_, hA_, hK_, k0_, k1_⟩ := C_at H3.out (Below.refl _ _) t htw
       try (injection hA_ with hA_)
       subst hA_
       obtain ⟨E1, e1, E2, e2, rfl, hs_, ⟨_, hr_⟩, _, hr2_⟩ := tJ_K.1 hK_
       have Hy3 := Hd.mk hK_; clear hK_ hr_ hr2_ hs_
       have y0 : w6.cell? (bd3.add (t * 5)) = some (.int .i64 now[t].kind) := cell_below HM.out.bl (k0_ _ rfl)
       have y1 : w6.cell? ⟨(bd3.add (t * 5)).block, (bd3.add (t * 5)).off + 1, none⟩ = some (.int .i64 now[t].n) := cell_below HM.out.bl (k1_ 0 _ rfl)
       have y2 : w6.cell? ⟨(bd3.add (t * 5)).block, (bd3.add (t * 5)).off + 2, none⟩ = some (.string now[t].s) := cell_below HM.out.bl (k1_ 1 _ rfl)
       have y3 : w6.cell? ⟨(bd3.add (t * 5)).block, (bd3.add (t * 5)).off + 3, none⟩ = some (.slice E1 now[t].list.length e1) := cell_below HM.out.bl (k1_ 2 _ rfl)
       have y4 : w6.cell? ⟨(bd3.add (t * 5)).block, (bd3.add (t * 5)).off + 4, none⟩ = some (.slice E2 now[t].names.length e2) := cell_below HM.out.bl (k1_ 3 _ rfl)
       clear k0_ k1_
       go_wp2_with fail
       clear y0 y1 y2 y3 y4
       have HM0 := Hd.mk HM.out; have hBz := Hd.mk (Below.refl w6.heap.size w6)
       apply calls_gen; intro W67 hW
       have hz_ : w6.heap.size ≤ W67.heap.size := by rw [hW]; simp
       have hE : Below w6.heap.size w6 W67 := by rw [hW]; (repeat (first | with_reducible refine below_alloc ?_ _ | with_reducible refine below_drew ?_)); exact Below.refl _ _
       have hB := hB.th hE
       have hBz := Hd.mk (below_then hBz.out hE)
       have HM := Hd.mk (KeysM.below HM.out hE)
       have HWy := Hd.mk (R_below HWy.out hE)
       clear hW hE
       have z67 := Hd.mk hz_; clear hz_
       refine (spec_l1Copy now[t] _ _ (Ty.K_below _ HM.out.bl Hy3.out) HBX.out).mono ?_
       rintro e w68 ⟨cy, rfl, hY, hX⟩
       have HM := Hd.mk (KeysM.below HM.out hX)
       have HWy := Hd.mk (R_below HWy.out hX)
       have hB := hB.th hX
       have hz_ := hX.size
       have hBz := Hd.mk (below_then hBz.out hX)
       clear hX
       have z68 := Hd.mk hz_; clear hz_
       obtain ⟨v3, v4, _, _, hcy, _, h3_, h4_, _⟩ := tJ_O.1 hY
       obtain ⟨G1, g1, rfl, _, _⟩ := R_C h3_
       obtain ⟨G2, g2, rfl, _, _⟩ := R_C h4_
       clear h3_ h4_
       subst hcy
       replace hY := Hd.mk (show (tJ (m + 1)).O w68 (rng W67.heap.size w68.heap.size) now[t] _ from Ty.O_bound _ hY)
       have hUlt := Hd.mk (show w62.heap.size < W67.heap.size by have hzw_ := hzw.out; have z67_ := z67.out; have z68_ := z68.out; omega)
       go_wp2_with (at_builtin; refine append_one (tOp (m + 1))  rfl _ _ 25 53 (.agg #[.int .i64 0, .slice none 0 0, .int .i64 0, .int .i64 0, .string ByteArray.empty, .slice none 0 0, .slice none 0 0]) 112 rfl Tryd.underlying25 info_OpS rfl (by rw [tOp_sz]; omega) (by decide) (S := SO2) (T := fun k => k = w62.heap.size ∨ w6.heap.size ≤ k ∧ k < w68.heap.size) (S' := fun q => SO2 q ∨ q = w62.heap.size ∨ w6.heap.size ≤ q) (v := v5) (xs := O2) (addO t now[t]) [.int .i64 1, .slice (some ⟨w62.heap.size, 0, none⟩) 1 1, .int .i64 now[t].kind, .int .i64 now[t].n, .string now[t].s, .slice G1 now[t].list.length g1, .slice G2 now[t].names.length g2] rfl rfl HM.out.ro (valO_O HWy.out hY.out (fun k h => .inl h) (fun k h => .inr (by have q1_ := h.1; have q2_ := h.2; have hzw_ := hzw.out; have z67_ := z67.out; have z68_ := z68.out; exact ⟨by omega, by omega⟩)) (fun k h h2 => by have q3_ := h2.1; have q4_ := hUlt.out; (try simp only at h); omega)) (fun k hk hl hs => by rcases hk with hk | hk; (subst hk; exact hUO.out hs); (have := (HM0.out.so k hs).2; have q1_ := hk.1; omega)) (fun k h => .inl h) (fun k h => .inr (by rcases h with h | h; exact .inl h; exact .inr h.1)) (fun k h => .inr (.inr (by have hzw_ := hzw.out; have z67_ := z67.out; have z68_ := z68.out; omega))) (by first | omega | (simp; omega)) (fun v9 w9 hv hf => ?_); have HM9 := Hd.mk (HM0.out.op2 (U := fun q => q = w62.heap.size) (fun k hk => by subst hk; exact ⟨hUw.out, hUK.out⟩) hBz.out hv hf); clear hv hf; obtain ⟨ad2, ea, x9⟩ := C_int_at H4.out HM9.out.bl t htk; injection ea with ea; subst ea)
       clear HM HM0 HWy hY hBz
       have HM := HM9; clear HM9
       clear x9
       refine (spec_l5Insert DV dv K2 t nk[t] w9 HM.out.rk hK2l.1 hK2l.2).mono ?_
       rintro e wI ⟨vi, rfl, hv, hX⟩
       have HM := Hd.mk (HM.out.keys hX hv)
       clear hv hX
       go_wp2_with fail
       go_roundw
       case rel => exact ⟨t + 1, _, _, _, _, by omega, by go_num, rfl, rfl, by rw [HCS.out, HST.out]; show Hd (KeysM m w _ _ _ (kOf ((L.eraseIdx q).take t ++ N[t] :: (L.eraseIdx q).drop t)) _ _ _); rw [kOf_ins, kOf_erase, ← HKL.out, HNK.out, ← HK2.out]; exact HM⟩
       case measure => simp [intOf] <;> omega
      ·have HST := Hd.mk (show come1 N[t] t (L, O) = (L.take t ++ N[t] :: L.drop t, O ++ [addO t now[t]]) by rw [come1_new (O := O) (x := N[t]) (t := t) (L := L) (by rw [HAT.out]; omega), HNW.out])
       have hK2l : t ≤ K.length ∧ K.length ≤ 4194304 := by rw [HKn.out]; omega
       obtain ⟨bd3, cs_, hA_, hK_, k0_, k1_⟩ := C_at H3.out (Below.refl _ _) t htw
       try (injection hA_ with hA_)
       subst hA_
       obtain ⟨E1, e1, E2, e2, rfl, hs_, ⟨_, hr_⟩, _, hr2_⟩ := tJ_K.1 hK_
       have Hy3 := Hd.mk hK_; clear hK_ hr_ hr2_ hs_
       have y0 : w64.cell? (bd3.add (t * 5)) = some (.int .i64 now[t].kind) := cell_below HM.out.bl (k0_ _ rfl)
       have y1 : w64.cell? ⟨(bd3.add (t * 5)).block, (bd3.add (t * 5)).off + 1, none⟩ = some (.int .i64 now[t].n) := cell_below HM.out.bl (k1_ 0 _ rfl)
       have y2 : w64.cell? ⟨(bd3.add (t * 5)).block, (bd3.add (t * 5)).off + 2, none⟩ = some (.string now[t].s) := cell_below HM.out.bl (k1_ 1 _ rfl)
       have y3 : w64.cell? ⟨(bd3.add (t * 5)).block, (bd3.add (t * 5)).off + 3, none⟩ = some (.slice E1 now[t].list.length e1) := cell_below HM.out.bl (k1_ 2 _ rfl)
       have y4 : w64.cell? ⟨(bd3.add (t * 5)).block, (bd3.add (t * 5)).off + 4, none⟩ = some (.slice E2 now[t].names.length e2) := cell_below HM.out.bl (k1_ 3 _ rfl)
       clear k0_ k1_
       go_wp2_with fail
       clear y0 y1 y2 y3 y4
       have HM0 := Hd.mk HM.out; have hBz := Hd.mk (Below.refl w64.heap.size w64)
       apply calls_gen; intro W65 hW
       have hz_ : w64.heap.size ≤ W65.heap.size := by rw [hW]; simp
       have hE : Below w64.heap.size w64 W65 := by rw [hW]; (repeat (first | with_reducible refine below_alloc ?_ _ | with_reducible refine below_drew ?_)); exact Below.refl _ _
       have hB := hB.th hE
       have hBz := Hd.mk (below_then hBz.out hE)
       have HM := Hd.mk (KeysM.below HM.out hE)
       have HWy := Hd.mk (R_below HWy.out hE)
       clear hW hE
       have z65 := Hd.mk hz_; clear hz_
       refine (spec_l1Copy now[t] _ _ (Ty.K_below _ HM.out.bl Hy3.out) HBX.out).mono ?_
       rintro e w66 ⟨cy, rfl, hY, hX⟩
       have HM := Hd.mk (KeysM.below HM.out hX)
       have HWy := Hd.mk (R_below HWy.out hX)
       have hB := hB.th hX
       have hz_ := hX.size
       have hBz := Hd.mk (below_then hBz.out hX)
       clear hX
       have z66 := Hd.mk hz_; clear hz_
       obtain ⟨v3, v4, _, _, hcy, _, h3_, h4_, _⟩ := tJ_O.1 hY
       obtain ⟨G1, g1, rfl, _, _⟩ := R_C h3_
       obtain ⟨G2, g2, rfl, _, _⟩ := R_C h4_
       clear h3_ h4_
       subst hcy
       replace hY := Hd.mk (show (tJ (m + 1)).O w66 (rng W65.heap.size w66.heap.size) now[t] _ from Ty.O_bound _ hY)
       have hUlt := Hd.mk (show w62.heap.size < W65.heap.size by have z61_ := z61.out; have z62_ := z62.out; have z63_ := z63.out; have z64_ := z64.out; have z65_ := z65.out; have z66_ := z66.out; omega)
       go_wp2_with (at_builtin; refine append_one (tOp (m + 1))  rfl _ _ 25 53 (.agg #[.int .i64 0, .slice none 0 0, .int .i64 0, .int .i64 0, .string ByteArray.empty, .slice none 0 0, .slice none 0 0]) 112 rfl Tryd.underlying25 info_OpS rfl (by rw [tOp_sz]; omega) (by decide) (S := SO) (T := fun k => k = w62.heap.size ∨ w64.heap.size ≤ k ∧ k < w66.heap.size) (S' := fun q => SO q ∨ q = w62.heap.size ∨ w64.heap.size ≤ q) (v := vo) (xs := O) (addO t now[t]) [.int .i64 1, .slice (some ⟨w62.heap.size, 0, none⟩) 1 1, .int .i64 now[t].kind, .int .i64 now[t].n, .string now[t].s, .slice G1 now[t].list.length g1, .slice G2 now[t].names.length g2] rfl rfl HM.out.ro (valO_O HWy.out hY.out (fun k h => .inl h) (fun k h => .inr (by have q1_ := h.1; have q2_ := h.2; have z61_ := z61.out; have z62_ := z62.out; have z63_ := z63.out; have z64_ := z64.out; have z65_ := z65.out; have z66_ := z66.out; exact ⟨by omega, by omega⟩)) (fun k h h2 => by have q3_ := h2.1; have q4_ := hUlt.out; (try simp only at h); omega)) (fun k hk hl hs => by rcases hk with hk | hk; (subst hk; exact hUU.out.2 hs); (have := (HM0.out.so k hs).2; have q1_ := hk.1; omega)) (fun k h => .inl h) (fun k h => .inr (by rcases h with h | h; exact .inl h; exact .inr h.1)) (fun k h => .inr (.inr (by have z61_ := z61.out; have z62_ := z62.out; have z63_ := z63.out; have z64_ := z64.out; have z65_ := z65.out; have z66_ := z66.out; omega))) (by first | omega | (simp; omega)) (fun v9 w9 hv hf => ?_); have HM9 := Hd.mk (HM0.out.op2 (U := fun q => q = w62.heap.size) (fun k hk => by subst hk; exact ⟨hUw.out, hUU.out.1⟩) hBz.out hv hf); clear hv hf; obtain ⟨ad2, ea, x9⟩ := C_int_at H4.out HM9.out.bl t htk; injection ea with ea; subst ea)
       clear HM HM0 HWy hY hBz
       have HM := HM9; clear HM9
       clear x9
       refine (spec_l5Insert DK dk K t nk[t] w9 HM.out.rk hK2l.1 hK2l.2).mono ?_
       rintro e wI ⟨vi, rfl, hv, hX⟩
       have HM := Hd.mk (HM.out.keys hX hv)
       clear hv hX
       go_wp2_with fail
       go_roundw
       case rel => exact ⟨t + 1, _, _, _, _, by omega, by go_num, rfl, rfl, by rw [HCS.out, HST.out]; show Hd (KeysM m w _ _ _ (kOf (L.take t ++ N[t] :: L.drop t)) _ _ _); rw [kOf_ins, ← HKL.out, HNK.out]; exact HM⟩
       case measure => simp [intOf] <;> omega
    ·obtain rfl : t = N.length := by omega
     have htn : ¬ ((N.length : Int) < (nk.length : Int)) := by have := hNl.out; omega
     go_wp2_with fail
     go_ret
     exact ⟨_, rfl, R_mono (fun k hk => (HM.out.so k hk).1) HM.out.ro, HM.out.bl⟩
set_option maxHeartbeats 2000000 in
set_option maxRecDepth 100000 in
theorem spec_Rows {m : Nat} (A1 : Option Addr) (c1 : Nat) (old : List J) (A2 : Option Addr) (c2 : Nat) (ok : List Int) (A3 : Option Addr) (c3 : Nat) (now : List J) (A4 : Option Addr) (c4 : Nat) (nk : List Int) (w : World) (h1 : (tJ (m + 1)).C w A1 old) (h2 : int.C w A2 ok) (hc2 : ok.length ≤ c2) (h3 : (tJ (m + 1)).C w A3 now) (h4 : int.C w A4 nk) (hc4 : nk.length ≤ c4) (hn1 : old.length ≤ 1048576) (hn3 : now.length ≤ 1048576) :
  Calls Tryd.prog 5 #[.slice A1 old.length c1, .slice A2 ok.length c2, .slice A3 now.length c3, .slice A4 nk.length c4] w fun e w' => ∃ v, e = .returned v ∧ (tOp (m + 1)).R 53 w' (fun k => w.heap.size ≤ k) v (rowsV ok old nk now) ∧ Below w.heap.size w w' := by
 have H1 := Hd.mk h1; have H2 := Hd.mk h2; have H3 := Hd.mk h3; have H4 := Hd.mk h4
 clear h1 h2 h3 h4
 go_enter Tryd.func5, Tryd.ntmps5
 go_wp2_with fail
 refine (spec_l5Keys (m := m) A2 c2 ok A1 c1 old w H2.out hc2 H1.out).mono ?_
 rintro e w1 ⟨rfl, hX⟩
 have hB := Hd.mk hX; clear hX
 cases hk1 : keysOk ok old
 ·have HV := Hd.mk (show rowsV ok old nk now = [] by unfold rowsV; rw [hk1]; rfl)
  clear hk1
  go_wp2_with fail
  go_ret
  exact ⟨_, rfl, by rw [HV.out]; exact R_mono (fun k hk => Nat.le_trans hB.out.size hk) (R_empty _ _ _), below_alloc hB.out _⟩
 have HK1 := Hd.mk hk1; clear hk1
 go_wp2_with fail
 refine (spec_l5Keys (m := m) A4 c4 nk A3 c3 now w1 (C_below H4.out hB.out) hc4 (C_below H3.out hB.out)).mono ?_
 rintro e w2 ⟨rfl, hX⟩
 have hB := hB.th hX; clear hX
 cases hk2 : keysOk nk now
 ·have HV := Hd.mk (show rowsV ok old nk now = [] by unfold rowsV; rw [HK1.out, hk2]; rfl)
  clear hk2
  go_wp2_with fail
  go_ret
  exact ⟨_, rfl, by rw [HV.out]; exact R_mono (fun k hk => Nat.le_trans hB.out.size hk) (R_empty _ _ _), below_alloc hB.out _⟩
 have HV := Hd.mk (show rowsV ok old nk now = (come (zipK ok old) (zipK nk now) (zipK nk now).length).2 by unfold rowsV; rw [HK1.out, hk2]; rfl)
 have HK2 := Hd.mk hk2; clear hk2
 go_wp2_with fail
 refine (spec_l5Rows (m := m) A1 c1 old A2 c2 ok A3 c3 now A4 c4 nk w2 (C_below H1.out hB.out) (C_below H2.out hB.out) hc2 (C_below H3.out hB.out) (C_below H4.out hB.out) hc4 hn1 hn3 HK1.out HK2.out).mono ?_
 rintro e w3 ⟨v, rfl, hR, hX⟩
 have HR := Hd.mk (show (tOp (m + 1)).R 53 w3 (fun k => w.heap.size ≤ k) v (rowsV ok old nk now) by rw [HV.out]; exact R_mono (fun k hk => Nat.le_trans hB.out.size hk) hR)
 have hB := hB.th hX; clear hR hX
 go_wp2_with fail
 go_ret
 exact ⟨_, rfl, HR.out, hB.out⟩
end Go.Proofs.YtegcecnjmimbiaaDoor.X
namespace Go.Proofs.YtegcecnjmimbiaaDoor.X
open Go.RowKit Go.Sort
set_option linter.unusedVariables false
set_option linter.unusedSimpArgs false
open Ty
theorem laws_szJsonS {m : Nat} (A : Option Addr) (c : Nat) (l : List J) (left : Int) (w : World) (hr : (tJ (m + 1)).C w A l) (h0 : 0 ≤ left) (h1 : left ≤ 1048576) :
  Calls Tryd.prog 4 #[.slice A l.length c, .int .i64 left] w fun e w' => e = .returned (.int .i64 (szR left (bulkJS (m + 1) l))) ∧ Below w.heap.size w w' := laws_szJsonS_of (szJ_all (m + 1)) A c l left w hr h0 h1
theorem laws_toJsonS {m : Nat} (A : Option Addr) (c : Nat) (l : List J) (w : World) (hr : (tJ (m + 1)).C w A l) (hl : bulkJS (m + 1) l ≤ 1048576) :
  Calls Tryd.prog 6 #[.slice A l.length c] w fun e w' => ∃ v, e = .returned v ∧ (tJ (m + 1)).R 43 w' (fun k => w.heap.size ≤ k) v l ∧ Below w.heap.size w w' := laws_toJsonS_of (toJ_all (m + 1)) A c l w hr hl
theorem laws_eqJsonS {m : Nat} (A A2 : Option Addr) (c c2 : Nat) (l l2 : List J) (w : World) (hr : (tJ (m + 1)).C w A l) (hr2 : (tJ (m + 1)).C w A2 l2) :
  Calls Tryd.prog 10 #[.slice A l.length c, .slice A2 l2.length c2] w fun e w' => e = .returned (.bool (eqv l l2)) ∧ Below w.heap.size w w' := laws_eqJsonS_of (eqJ_all (m + 1)) A A2 c c2 l l2 w hr hr2
theorem laws_markJsonS {m : Nat} {S : Nat → Prop} (v : Value) (l : List J) (k : Int) (w : World) (hR : (tJ (m + 1)).R 43 w S v l) (h0 : 0 ≤ k) (h1 : k + bulkL (cnJ (m + 1)) l ≤ 4611686018427387904) :
  Calls Tryd.prog 12 #[v, .int .i64 k] w fun e w' => e = .returned (.int .i64 (k + bulkL (cnJ (m + 1)) l)) ∧ (tJ (m + 1)).R 43 w' S v (markL (mkJ (m + 1)) (cnJ (m + 1)) k l) ∧ Fr w w' S := markJS_all (m + 1) S v l k w hR h0 h1
theorem null_ok : jsonOk J.null = true := by
 have h : ownB J.null = true := by unfold ownB; simp [J.null, ByteArray.toList_eq]
 refine decide_eq_true (p := sizeN 6 J.null ≤ 400) ?_
 show (if ownB J.null = true ∧ 1 + sumZ (sizeN 5) ([] : List J) ≤ 400 then 1 + sumZ (sizeN 5) ([] : List J) else 401) ≤ 400
 rw [if_pos ⟨h, by decide⟩]; decide
def OpG (o : JOp) : Prop := o.way.length = 1 ∧ jsonOk o.value = true
theorem gone_good (old next : List Keyed) : ∀ t, ∀ o ∈ (gone old next t).2, OpG o
 | 0, o, h => by cases h
 | t + 1, o, h => by
  unfold gone at h
  split at h
  ·rcases List.mem_append.1 h with h | h
   ·exact gone_good old next t o h
   ·obtain rfl := List.mem_singleton.1 h
    exact ⟨rfl, null_ok⟩
  ·exact gone_good old next t o h
theorem come_good (old next : List Keyed) (hn : ∀ x ∈ next, jsonOk x.val = true) : ∀ t, t ≤ next.length → ∀ o ∈ (come old next t).2, OpG o
 | 0, _, o, h => gone_good old next _ o h
 | t + 1, ht, o, h => by
  have ih := come_good old next hn t (by omega)
  have hx : jsonOk (next.getD t Keyed.no).val = true := by
   rw [List.getD_eq_getElem?_getD, List.getElem?_eq_getElem (by omega)]
   exact hn _ (List.getElem_mem _)
  have h : o ∈ (come1 (next.getD t Keyed.no) t (come old next t)).2 := h
  generalize come old next t = s at h ih
  unfold come1 at h
  have one : ∀ (l : List JOp) (p : JOp), OpG p → (∀ o ∈ l, OpG o) → ∀ o ∈ l ++ [p], OpG o := fun l p hp hl o ho => by
   rcases List.mem_append.1 ho with h | h
   ·exact hl o h
   ·obtain rfl := List.mem_singleton.1 h
    exact hp
  by_cases g1 : atK s.1 (next.getD t Keyed.no).key = (t : Int)
  ·rw [if_pos g1] at h
   by_cases g2 : eqv (s.1.getD t Keyed.no).val (next.getD t Keyed.no).val = true
   ·rw [if_pos g2] at h
    exact ih o h
   ·rw [if_neg g2] at h
    exact one s.2 (repO t (next.getD t Keyed.no).val) ⟨rfl, hx⟩ ih o h
  ·rw [if_neg g1] at h
   by_cases g2 : 0 ≤ atK s.1 (next.getD t Keyed.no).key
   ·rw [if_pos g2] at h
    exact one (s.2 ++ [remO (atK s.1 (next.getD t Keyed.no).key).toNat]) (addO t (next.getD t Keyed.no).val) ⟨rfl, hx⟩ (one s.2 (remO (atK s.1 (next.getD t Keyed.no).key).toNat) ⟨rfl, null_ok⟩ ih) o h
   ·rw [if_neg g2] at h
    exact one s.2 (addO t (next.getD t Keyed.no).val) ⟨rfl, hx⟩ ih o h
theorem bulkL_const {α : Type} (f : α → Nat) (B : Nat) : ∀ l : List α, (∀ x ∈ l, f x ≤ B) → bulkL f l ≤ l.length * B
 | [], _ => by simp [bulkL]
 | x :: l, h => by
  have h1 := bulkL_const f B l (fun y hy => h y (by simp [hy]))
  have h2 := h x (by simp)
  simp only [bulkL, List.length_cons, Nat.add_mul]
  omega
theorem cnt_rows (m : Nat) (ok : List Int) (old : List J) (nk : List Int) (now : List J) (h1 : old.length ≤ 1048576) (h2 : now.length ≤ 1048576) : (bulkL (cnOp (m + 1)) (rowsV ok old nk now) : Int) ≤ 1099511627776 := by
 unfold rowsV
 split
 ·rename_i hk
  rw [Bool.and_eq_true] at hk
  have hd := dist_of hk.2
  have hl : (zipK nk now).length ≤ 1048576 := by unfold zipK; rw [List.length_zipWith]; omega
  have hlo : (zipK ok old).length ≤ 1048576 := by unfold zipK; rw [List.length_zipWith]; omega
  have hi := (come_inv (zipK ok old) (zipK nk now) (by rw [kOf_zip hk.2]; exact hd) (zipK nk now).length (Nat.le_refl _)).ops
  have hg := come_good (zipK ok old) (zipK nk now) (zipK_ok hk.2) (zipK nk now).length (Nat.le_refl _)
  have hb := bulkL_const (cnOp (m + 1)) 200000 (come (zipK ok old) (zipK nk now) (zipK nk now).length).2 (fun o ho => by
   obtain ⟨h3, h4⟩ := hg o ho
   have h5 : sizeN 6 o.value ≤ 400 := of_decide_eq_true (show decide (sizeN 6 o.value ≤ 400) = true from h4)
   have h6 := bulk_size (m + 1) 6 o.value h5
   have h7 := cnJ_le (m + 1) o.value
   simp only [cnOp] at *
   omega)
  have : (come (zipK ok old) (zipK nk now) (zipK nk now).length).2.length * 200000 ≤ 3145728 * 200000 := Nat.mul_le_mul_right _ (by omega)
  omega
 ·simp [bulkL]
end Go.Proofs.YtegcecnjmimbiaaDoor.X
namespace Go.Proofs.YtegcecnjmimbiaaDoor.X
open Go.RowKit Go.Sort
set_option linter.unusedVariables false
set_option linter.unusedSimpArgs false
open Ty
set_option maxHeartbeats 16000000 in
set_option maxRecDepth 100000 in
theorem laws_FnExactRows {w : World} (B0 : Nat) (A0 : Option Addr) (c0 : Nat) (old : List J) (hv0 : old.length ≤ c0) (hk0 : (tJ (B0 + 1)).C w A0 old) (A1 : Option Addr) (c1 : Nat) (ok : List Int) (hv1 : ok.length ≤ c1) (hk1 : int.C w A1 ok) (B2 : Nat) (A2 : Option Addr) (c2 : Nat) (now : List J) (hv2 : now.length ≤ c2) (hk2 : (tJ (B2 + 1)).C w A2 now) (A3 : Option Addr) (c3 : Nat) (nk : List Int) (hv3 : nk.length ≤ c3) (hk3 : int.C w A3 nk) (hT : EnvT w) :
  Calls Tryd.prog 3 #[.slice A0 old.length c0, .slice A1 ok.length c1, .slice A2 now.length c2, .slice A3 nk.length c3] w fun e w' => e = .returned (.bool true) ∧ Below w.heap.size w w' := by
 obtain ⟨m, hm⟩ : ∃ m : Nat, B0 ≤ m ∧ B2 ≤ m := ⟨B0 + B2, by omega⟩
 replace hk0 : (tJ (m + 1)).C w A0 old := (tJ_le (by omega : B0 + 1 ≤ m + 1)).C hk0
 replace hk2 : (tJ (m + 1)).C w A2 now := (tJ_le (by omega : B2 + 1 ≤ m + 1)).C hk2
 clear hm
 obtain ⟨y, hy⟩ : ∃ z, z = rowsV ok old nk now := ⟨_, rfl⟩
 have Hy := Hd.mk hy; clear hy
 have hm0 := hk0.1
 have hK0 := Hd.mk hk0; clear hk0
 have hm1 := hk1.1
 have hK1 := Hd.mk hk1; clear hk1
 have hm2 := hk2.1
 have hK2 := Hd.mk hk2; clear hk2
 have hm3 := hk3.1
 have hK3 := Hd.mk hk3; clear hk3
 replace hT := Hd.mk hT
 go_enter Tryd.func3, Tryd.ntmps3
 by_cases hs1 : (1048576 : Int) < (ok.length : Int)
 ·go_wp2_with fail
  go_ret
  exact ⟨rfl, by (repeat (with_reducible refine below_alloc ?_ _)); exact Below.refl _ _⟩
 have HL1 := Hd.mk (⟨by omega, trivial⟩ : ok.length ≤ 1048576 ∧ True)
 by_cases hs3 : (1048576 : Int) < (nk.length : Int)
 ·go_wp2_with fail
  go_ret
  exact ⟨rfl, by (repeat (with_reducible refine below_alloc ?_ _)); exact Below.refl _ _⟩
 have HL3 := Hd.mk (⟨by omega, trivial⟩ : nk.length ≤ 1048576 ∧ True)
 go_wp2_with fail
 apply calls_gen; intro W0 hW
 have hE : Below w.heap.size w W0 := by rw [hW]; (repeat (with_reducible refine below_alloc ?_ _)); exact Below.refl _ _
 clear hW
 have hB := Hd.mk hE; clear hE
 refine (laws_szJsonS _ _ old _ _ (C_below hK0.out hB.out) (by omega) (by omega)).mono ?_
 rintro e w1 ⟨rfl, hX⟩
 replace hB := hB.th hX
 clear hX
 by_cases hz0 : szR 1048576 (bulkJS (m + 1) old) < 0
 ·go_wp2_with fail
  go_ret
  exact ⟨rfl, hB.out⟩
 have HL0 := Hd.mk (szR_le (Int.not_lt.1 hz0) (by omega))
 have hy0 := HL0.out.2.1
 have hx0 := HL0.out.2.2.1
 clear hz0
 go_wp2_with fail
 apply calls_gen; intro W2 hW
 have hE : Below w1.heap.size w1 W2 := by rw [hW]; (repeat (first | with_reducible refine below_alloc ?_ _ | with_reducible refine below_drew ?_)); exact Below.refl _ _
 clear hW
 replace hB := hB.th hE
 clear hE
 refine (laws_szJsonS _ _ now _ _ (C_below hK2.out hB.out) hy0 hx0).mono ?_
 rintro e w3 ⟨rfl, hX⟩
 replace hB := hB.th hX
 clear hX
 by_cases hz2 : szR (szR 1048576 (bulkJS (m + 1) old)) (bulkJS (m + 1) now) < 0
 ·go_wp2_with fail
  go_ret
  exact ⟨rfl, hB.out⟩
 have HL2 := Hd.mk (szR_le (Int.not_lt.1 hz2) hx0)
 have hy2 := HL2.out.2.1
 have hx2 := HL2.out.2.2.1
 clear hz2
 go_wp2_with fail
 have hx_0 : ((bulkL (cnJ (m + 1)) old : Int) : Int) ≤ 8388608 := by have := cnt_Jsons (m + 1) old; have := HL0.out.1; omega
 have hx_1 : (ok.length : Int) ≤ 8388608 := by have := HL1.out.1; omega
 have hx_2 : ((bulkL (cnJ (m + 1)) now : Int) : Int) ≤ 8388608 := by have := cnt_Jsons (m + 1) now; have := HL2.out.1; omega
 have hx_3 : (nk.length : Int) ≤ 8388608 := by have := HL3.out.1; omega
 have hx_y : ((bulkL (cnOp (m + 1)) y : Int) : Int) ≤ 1099511627776 := by (rw [Hy.out]; exact cnt_rows m ok old nk now (by have := HL0.out.1; simp only [bulkJS] at this; omega) (by have := HL2.out.1; simp only [bulkJS] at this; omega))
 apply calls_gen; intro W4 hW
 have hE : Below w3.heap.size w3 W4 := by rw [hW]; (repeat (first | with_reducible refine below_alloc ?_ _ | with_reducible refine below_drew ?_)); exact Below.refl _ _
 clear hW
 replace hB := hB.th hE
 clear hE
 refine (laws_toJsonS _ _ old _ (C_below hK0.out hB.out) HL0.out.1).mono ?_
 rintro e w5 ⟨v_, rfl, hO, hX⟩
 have as0 := Hd.mk hB.out.size
 replace hB := hB.th hX
 clear hX
 replace hO := R_bound hO
 obtain ⟨As0, cs0, hvs0, hcs0, _⟩ := R_C hO
 subst hvs0
 have s0 := Hd.mk (show (tJ (m + 1)).R 43 w5 (rng W4.heap.size w5.heap.size) (.slice As0 old.length cs0) old from hO); clear hO
 have hms0 := (R_Cv s0.out).1
 have es0 := Hd.mk (Nat.le_refl w5.heap.size)
 go_wp2_with fail
 apply calls_gen; intro W6 hW
 have hE : Below w5.heap.size w5 W6 := by rw [hW]; (repeat (first | with_reducible refine below_alloc ?_ _ | with_reducible refine below_drew ?_)); exact Below.refl _ _
 clear hW
 replace s0 := Hd.mk (R_below s0.out hE)
 replace es0 := upE es0 hE
 replace hB := hB.th hE
 clear hE
 refine (laws_toIntS _ _ ok _ (C_below hK1.out hB.out) HL1.out.1).mono ?_
 rintro e w7 ⟨v_, rfl, hO, hX⟩
 have ds0_s1 := Hd.mk es0.out
 have as1 := Hd.mk hB.out.size
 replace s0 := Hd.mk (R_below s0.out hX)
 replace es0 := upE es0 hX
 replace hB := hB.th hX
 clear hX
 replace hO := R_bound hO
 obtain ⟨As1, cs1, hvs1, hcs1, _⟩ := R_C hO
 subst hvs1
 have s1 := Hd.mk (show int.R 3 w7 (rng W6.heap.size w7.heap.size) (.slice As1 ok.length cs1) ok from hO); clear hO
 have hms1 := (R_Cv s1.out).1
 have es1 := Hd.mk (Nat.le_refl w7.heap.size)
 go_wp2_with fail
 apply calls_gen; intro W8 hW
 have hE : Below w7.heap.size w7 W8 := by rw [hW]; (repeat (first | with_reducible refine below_alloc ?_ _ | with_reducible refine below_drew ?_)); exact Below.refl _ _
 clear hW
 replace s0 := Hd.mk (R_below s0.out hE)
 replace es0 := upE es0 hE
 replace s1 := Hd.mk (R_below s1.out hE)
 replace es1 := upE es1 hE
 replace hB := hB.th hE
 clear hE
 refine (laws_toJsonS _ _ now _ (C_below hK2.out hB.out) HL2.out.1).mono ?_
 rintro e w9 ⟨v_, rfl, hO, hX⟩
 have ds0_s2 := Hd.mk es0.out
 have ds1_s2 := Hd.mk es1.out
 have as2 := Hd.mk hB.out.size
 replace s0 := Hd.mk (R_below s0.out hX)
 replace es0 := upE es0 hX
 replace s1 := Hd.mk (R_below s1.out hX)
 replace es1 := upE es1 hX
 replace hB := hB.th hX
 clear hX
 replace hO := R_bound hO
 obtain ⟨As2, cs2, hvs2, hcs2, _⟩ := R_C hO
 subst hvs2
 have s2 := Hd.mk (show (tJ (m + 1)).R 43 w9 (rng W8.heap.size w9.heap.size) (.slice As2 now.length cs2) now from hO); clear hO
 have hms2 := (R_Cv s2.out).1
 have es2 := Hd.mk (Nat.le_refl w9.heap.size)
 go_wp2_with fail
 apply calls_gen; intro W10 hW
 have hE : Below w9.heap.size w9 W10 := by rw [hW]; (repeat (first | with_reducible refine below_alloc ?_ _ | with_reducible refine below_drew ?_)); exact Below.refl _ _
 clear hW
 replace s0 := Hd.mk (R_below s0.out hE)
 replace es0 := upE es0 hE
 replace s1 := Hd.mk (R_below s1.out hE)
 replace es1 := upE es1 hE
 replace s2 := Hd.mk (R_below s2.out hE)
 replace es2 := upE es2 hE
 replace hB := hB.th hE
 clear hE
 refine (laws_toIntS _ _ nk _ (C_below hK3.out hB.out) HL3.out.1).mono ?_
 rintro e w11 ⟨v_, rfl, hO, hX⟩
 have ds0_s3 := Hd.mk es0.out
 have ds1_s3 := Hd.mk es1.out
 have ds2_s3 := Hd.mk es2.out
 have as3 := Hd.mk hB.out.size
 replace s0 := Hd.mk (R_below s0.out hX)
 replace es0 := upE es0 hX
 replace s1 := Hd.mk (R_below s1.out hX)
 replace es1 := upE es1 hX
 replace s2 := Hd.mk (R_below s2.out hX)
 replace es2 := upE es2 hX
 replace hB := hB.th hX
 clear hX
 replace hO := R_bound hO
 obtain ⟨As3, cs3, hvs3, hcs3, _⟩ := R_C hO
 subst hvs3
 have s3 := Hd.mk (show int.R 3 w11 (rng W10.heap.size w11.heap.size) (.slice As3 nk.length cs3) nk from hO); clear hO
 have hms3 := (R_Cv s3.out).1
 have es3 := Hd.mk (Nat.le_refl w11.heap.size)
 go_wp2_with fail
 apply calls_gen; intro W12 hW
 have hE : Below w11.heap.size w11 W12 := by rw [hW]; (repeat (first | with_reducible refine below_alloc ?_ _ | with_reducible refine below_drew ?_)); exact Below.refl _ _
 clear hW
 replace s0 := Hd.mk (R_below s0.out hE)
 replace es0 := upE es0 hE
 replace s1 := Hd.mk (R_below s1.out hE)
 replace es1 := upE es1 hE
 replace s2 := Hd.mk (R_below s2.out hE)
 replace es2 := upE es2 hE
 replace s3 := Hd.mk (R_below s3.out hE)
 replace es3 := upE es3 hE
 replace hB := hB.th hE
 clear hE
 refine (spec_Rows (m := m) _ _ old _ _ ok _ _ now _ _ nk _ (R_Cv s0.out) (R_Cv s1.out) (by assumption) (R_Cv s2.out) (R_Cv s3.out) (by assumption) (by have := HL0.out.1; simp only [bulkJS] at this; omega) (by have := HL2.out.1; simp only [bulkJS] at this; omega)).mono ?_
 rintro e w13 ⟨v_, rfl, hO, hX⟩
 have ds0_w0 := Hd.mk es0.out
 have ds1_w0 := Hd.mk es1.out
 have ds2_w0 := Hd.mk es2.out
 have ds3_w0 := Hd.mk es3.out
 have aw0 := Hd.mk hB.out.size
 replace s0 := Hd.mk (R_below s0.out hX)
 replace es0 := upE es0 hX
 replace s1 := Hd.mk (R_below s1.out hX)
 replace es1 := upE es1 hX
 replace s2 := Hd.mk (R_below s2.out hX)
 replace es2 := upE es2 hX
 replace s3 := Hd.mk (R_below s3.out hX)
 replace es3 := upE es3 hX
 replace hB := hB.th hX
 clear hX
 rw [← Hy.out] at hO
 replace hO := R_bound hO
 obtain ⟨Aw0, cw0, hvw0, hcw0, _⟩ := R_C hO
 subst hvw0
 have w0 := Hd.mk (show (tOp (m + 1)).R 53 w13 (rng W12.heap.size w13.heap.size) (.slice Aw0 y.length cw0) y from hO); clear hO
 have hmw0 := (R_Cv w0.out).1
 have ew0 := Hd.mk (Nat.le_refl w13.heap.size)
 clear s0 es0
 clear s1 es1
 clear s2 es2
 clear s3 es3
 go_wp2_with fail
 apply calls_gen; intro W14 hW
 have hE : Below w13.heap.size w13 W14 := by rw [hW]; (repeat (first | with_reducible refine below_alloc ?_ _ | with_reducible refine below_drew ?_)); exact Below.refl _ _
 clear hW
 replace w0 := Hd.mk (R_below w0.out hE)
 replace ew0 := upE ew0 hE
 replace hB := hB.th hE
 clear hE
 refine (laws_toJsonS _ _ old _ (C_below hK0.out hB.out) HL0.out.1).mono ?_
 rintro e w15 ⟨v_, rfl, hO, hX⟩
 have dw0_x0 := Hd.mk ew0.out
 have ax0 := Hd.mk hB.out.size
 replace w0 := Hd.mk (R_below w0.out hX)
 replace ew0 := upE ew0 hX
 replace hB := hB.th hX
 clear hX
 replace hO := R_bound hO
 obtain ⟨Ax0, cx0, hvx0, hcx0, _⟩ := R_C hO
 subst hvx0
 have x0 := Hd.mk (show (tJ (m + 1)).R 43 w15 (rng W14.heap.size w15.heap.size) (.slice Ax0 old.length cx0) old from hO); clear hO
 have hmx0 := (R_Cv x0.out).1
 have ex0 := Hd.mk (Nat.le_refl w15.heap.size)
 go_wp2_with fail
 apply calls_gen; intro W16 hW
 have hE : Below w15.heap.size w15 W16 := by rw [hW]; (repeat (first | with_reducible refine below_alloc ?_ _ | with_reducible refine below_drew ?_)); exact Below.refl _ _
 clear hW
 replace w0 := Hd.mk (R_below w0.out hE)
 replace ew0 := upE ew0 hE
 replace x0 := Hd.mk (R_below x0.out hE)
 replace ex0 := upE ex0 hE
 replace hB := hB.th hE
 clear hE
 refine (laws_toIntS _ _ ok _ (C_below hK1.out hB.out) HL1.out.1).mono ?_
 rintro e w17 ⟨v_, rfl, hO, hX⟩
 have dw0_x1 := Hd.mk ew0.out
 have dx0_x1 := Hd.mk ex0.out
 have ax1 := Hd.mk hB.out.size
 replace w0 := Hd.mk (R_below w0.out hX)
 replace ew0 := upE ew0 hX
 replace x0 := Hd.mk (R_below x0.out hX)
 replace ex0 := upE ex0 hX
 replace hB := hB.th hX
 clear hX
 replace hO := R_bound hO
 obtain ⟨Ax1, cx1, hvx1, hcx1, _⟩ := R_C hO
 subst hvx1
 have x1 := Hd.mk (show int.R 3 w17 (rng W16.heap.size w17.heap.size) (.slice Ax1 ok.length cx1) ok from hO); clear hO
 have hmx1 := (R_Cv x1.out).1
 have ex1 := Hd.mk (Nat.le_refl w17.heap.size)
 go_wp2_with fail
 apply calls_gen; intro W18 hW
 have hE : Below w17.heap.size w17 W18 := by rw [hW]; (repeat (first | with_reducible refine below_alloc ?_ _ | with_reducible refine below_drew ?_)); exact Below.refl _ _
 clear hW
 replace w0 := Hd.mk (R_below w0.out hE)
 replace ew0 := upE ew0 hE
 replace x0 := Hd.mk (R_below x0.out hE)
 replace ex0 := upE ex0 hE
 replace x1 := Hd.mk (R_below x1.out hE)
 replace ex1 := upE ex1 hE
 replace hB := hB.th hE
 clear hE
 refine (laws_toJsonS _ _ now _ (C_below hK2.out hB.out) HL2.out.1).mono ?_
 rintro e w19 ⟨v_, rfl, hO, hX⟩
 have dw0_x2 := Hd.mk ew0.out
 have dx0_x2 := Hd.mk ex0.out
 have dx1_x2 := Hd.mk ex1.out
 have ax2 := Hd.mk hB.out.size
 replace w0 := Hd.mk (R_below w0.out hX)
 replace ew0 := upE ew0 hX
 replace x0 := Hd.mk (R_below x0.out hX)
 replace ex0 := upE ex0 hX
 replace x1 := Hd.mk (R_below x1.out hX)
 replace ex1 := upE ex1 hX
 replace hB := hB.th hX
 clear hX
 replace hO := R_bound hO
 obtain ⟨Ax2, cx2, hvx2, hcx2, _⟩ := R_C hO
 subst hvx2
 have x2 := Hd.mk (show (tJ (m + 1)).R 43 w19 (rng W18.heap.size w19.heap.size) (.slice Ax2 now.length cx2) now from hO); clear hO
 have hmx2 := (R_Cv x2.out).1
 have ex2 := Hd.mk (Nat.le_refl w19.heap.size)
 go_wp2_with fail
 apply calls_gen; intro W20 hW
 have hE : Below w19.heap.size w19 W20 := by rw [hW]; (repeat (first | with_reducible refine below_alloc ?_ _ | with_reducible refine below_drew ?_)); exact Below.refl _ _
 clear hW
 replace w0 := Hd.mk (R_below w0.out hE)
 replace ew0 := upE ew0 hE
 replace x0 := Hd.mk (R_below x0.out hE)
 replace ex0 := upE ex0 hE
 replace x1 := Hd.mk (R_below x1.out hE)
 replace ex1 := upE ex1 hE
 replace x2 := Hd.mk (R_below x2.out hE)
 replace ex2 := upE ex2 hE
 replace hB := hB.th hE
 clear hE
 refine (laws_toIntS _ _ nk _ (C_below hK3.out hB.out) HL3.out.1).mono ?_
 rintro e w21 ⟨v_, rfl, hO, hX⟩
 have dw0_x3 := Hd.mk ew0.out
 have dx0_x3 := Hd.mk ex0.out
 have dx1_x3 := Hd.mk ex1.out
 have dx2_x3 := Hd.mk ex2.out
 have ax3 := Hd.mk hB.out.size
 replace w0 := Hd.mk (R_below w0.out hX)
 replace ew0 := upE ew0 hX
 replace x0 := Hd.mk (R_below x0.out hX)
 replace ex0 := upE ex0 hX
 replace x1 := Hd.mk (R_below x1.out hX)
 replace ex1 := upE ex1 hX
 replace x2 := Hd.mk (R_below x2.out hX)
 replace ex2 := upE ex2 hX
 replace hB := hB.th hX
 clear hX
 replace hO := R_bound hO
 obtain ⟨Ax3, cx3, hvx3, hcx3, _⟩ := R_C hO
 subst hvx3
 have x3 := Hd.mk (show int.R 3 w21 (rng W20.heap.size w21.heap.size) (.slice Ax3 nk.length cx3) nk from hO); clear hO
 have hmx3 := (R_Cv x3.out).1
 have ex3 := Hd.mk (Nat.le_refl w21.heap.size)
 go_wp2_with fail
 apply calls_gen; intro W22 hW
 have hE : Below w21.heap.size w21 W22 := by rw [hW]; (repeat (first | with_reducible refine below_alloc ?_ _ | with_reducible refine below_drew ?_)); exact Below.refl _ _
 clear hW
 replace w0 := Hd.mk (R_below w0.out hE)
 replace ew0 := upE ew0 hE
 replace x0 := Hd.mk (R_below x0.out hE)
 replace ex0 := upE ex0 hE
 replace x1 := Hd.mk (R_below x1.out hE)
 replace ex1 := upE ex1 hE
 replace x2 := Hd.mk (R_below x2.out hE)
 replace ex2 := upE ex2 hE
 replace x3 := Hd.mk (R_below x3.out hE)
 replace ex3 := upE ex3 hE
 replace hB := hB.th hE
 clear hE
 refine (impl_Rows (m := m) _ _ old _ _ ok _ _ now _ _ nk _ (R_Cv x0.out) (R_Cv x1.out) (by assumption) (R_Cv x2.out) (R_Cv x3.out) (by assumption) (by have := HL0.out.1; simp only [bulkJS] at this; omega) (by have := HL2.out.1; simp only [bulkJS] at this; omega) (hT.out.below hB.out)).mono ?_
 rintro e w23 ⟨v_, rfl, hO, hX⟩
 have dw0_g0 := Hd.mk ew0.out
 have dx0_g0 := Hd.mk ex0.out
 have dx1_g0 := Hd.mk ex1.out
 have dx2_g0 := Hd.mk ex2.out
 have dx3_g0 := Hd.mk ex3.out
 have ag0 := Hd.mk hB.out.size
 replace w0 := Hd.mk (R_below w0.out hX)
 replace ew0 := upE ew0 hX
 replace x0 := Hd.mk (R_below x0.out hX)
 replace ex0 := upE ex0 hX
 replace x1 := Hd.mk (R_below x1.out hX)
 replace ex1 := upE ex1 hX
 replace x2 := Hd.mk (R_below x2.out hX)
 replace ex2 := upE ex2 hX
 replace x3 := Hd.mk (R_below x3.out hX)
 replace ex3 := upE ex3 hX
 replace hB := hB.th hX
 clear hX
 rw [← Hy.out] at hO
 replace hO := R_bound hO
 obtain ⟨Ag0, cg0, hvg0, hcg0, _⟩ := R_C hO
 subst hvg0
 have g0 := Hd.mk (show (tOp (m + 1)).R 53 w23 (rng W22.heap.size w23.heap.size) (.slice Ag0 y.length cg0) y from hO); clear hO
 have hmg0 := (R_Cv g0.out).1
 have eg0 := Hd.mk (Nat.le_refl w23.heap.size)
 go_wp2_with fail
 apply calls_gen; intro W24 hW
 have hE : Below w23.heap.size w23 W24 := by rw [hW]; (repeat (first | with_reducible refine below_alloc ?_ _ | with_reducible refine below_drew ?_)); exact Below.refl _ _
 clear hW
 replace w0 := Hd.mk (R_below w0.out hE)
 replace ew0 := upE ew0 hE
 replace x0 := Hd.mk (R_below x0.out hE)
 replace ex0 := upE ex0 hE
 replace x1 := Hd.mk (R_below x1.out hE)
 replace ex1 := upE ex1 hE
 replace x2 := Hd.mk (R_below x2.out hE)
 replace ex2 := upE ex2 hE
 replace x3 := Hd.mk (R_below x3.out hE)
 replace ex3 := upE ex3 hE
 replace g0 := Hd.mk (R_below g0.out hE)
 replace eg0 := upE eg0 hE
 replace hB := hB.th hE
 clear hE
 refine (laws_eqOpS _ _ _ _ y y _ (R_Cv g0.out) (R_Cv w0.out)).mono ?_
 rintro e w25 ⟨rfl, hX⟩
 replace w0 := Hd.mk (R_below w0.out hX)
 replace ew0 := upE ew0 hX
 replace x0 := Hd.mk (R_below x0.out hX)
 replace ex0 := upE ex0 hX
 replace x1 := Hd.mk (R_below x1.out hX)
 replace ex1 := upE ex1 hX
 replace x2 := Hd.mk (R_below x2.out hX)
 replace ex2 := upE ex2 hX
 replace x3 := Hd.mk (R_below x3.out hX)
 replace ex3 := upE ex3 hX
 replace g0 := Hd.mk (R_below g0.out hX)
 replace eg0 := upE eg0 hX
 replace hB := hB.th hX
 clear hX
 rw [eqv_self]
 go_wp2_with fail
 apply calls_gen; intro W26 hW
 have hE : Below w25.heap.size w25 W26 := by rw [hW]; (repeat (first | with_reducible refine below_alloc ?_ _ | with_reducible refine below_drew ?_)); exact Below.refl _ _
 clear hW
 replace w0 := Hd.mk (R_below w0.out hE)
 replace ew0 := upE ew0 hE
 replace x0 := Hd.mk (R_below x0.out hE)
 replace ex0 := upE ex0 hE
 replace x1 := Hd.mk (R_below x1.out hE)
 replace ex1 := upE ex1 hE
 replace x2 := Hd.mk (R_below x2.out hE)
 replace ex2 := upE ex2 hE
 replace x3 := Hd.mk (R_below x3.out hE)
 replace ex3 := upE ex3 hE
 replace g0 := Hd.mk (R_below g0.out hE)
 replace eg0 := upE eg0 hE
 replace hB := hB.th hE
 clear hE
 refine (laws_toJsonS _ _ old _ (C_below hK0.out hB.out) HL0.out.1).mono ?_
 rintro e w27 ⟨v_, rfl, hO, hX⟩
 have dw0_t0 := Hd.mk ew0.out
 have dx0_t0 := Hd.mk ex0.out
 have dx1_t0 := Hd.mk ex1.out
 have dx2_t0 := Hd.mk ex2.out
 have dx3_t0 := Hd.mk ex3.out
 have dg0_t0 := Hd.mk eg0.out
 have at0 := Hd.mk hB.out.size
 replace w0 := Hd.mk (R_below w0.out hX)
 replace ew0 := upE ew0 hX
 replace x0 := Hd.mk (R_below x0.out hX)
 replace ex0 := upE ex0 hX
 replace x1 := Hd.mk (R_below x1.out hX)
 replace ex1 := upE ex1 hX
 replace x2 := Hd.mk (R_below x2.out hX)
 replace ex2 := upE ex2 hX
 replace x3 := Hd.mk (R_below x3.out hX)
 replace ex3 := upE ex3 hX
 replace g0 := Hd.mk (R_below g0.out hX)
 replace eg0 := upE eg0 hX
 replace hB := hB.th hX
 clear hX
 replace hO := R_bound hO
 obtain ⟨At0, ct0, hvt0, hct0, _⟩ := R_C hO
 subst hvt0
 have t0 := Hd.mk (show (tJ (m + 1)).R 43 w27 (rng W26.heap.size w27.heap.size) (.slice At0 old.length ct0) old from hO); clear hO
 have hmt0 := (R_Cv t0.out).1
 have et0 := Hd.mk (Nat.le_refl w27.heap.size)
 go_wp2_with fail
 apply calls_gen; intro W28 hW
 have hE : Below w27.heap.size w27 W28 := by rw [hW]; (repeat (first | with_reducible refine below_alloc ?_ _ | with_reducible refine below_drew ?_)); exact Below.refl _ _
 clear hW
 replace w0 := Hd.mk (R_below w0.out hE)
 replace ew0 := upE ew0 hE
 replace x0 := Hd.mk (R_below x0.out hE)
 replace ex0 := upE ex0 hE
 replace x1 := Hd.mk (R_below x1.out hE)
 replace ex1 := upE ex1 hE
 replace x2 := Hd.mk (R_below x2.out hE)
 replace ex2 := upE ex2 hE
 replace x3 := Hd.mk (R_below x3.out hE)
 replace ex3 := upE ex3 hE
 replace g0 := Hd.mk (R_below g0.out hE)
 replace eg0 := upE eg0 hE
 replace t0 := Hd.mk (R_below t0.out hE)
 replace et0 := upE et0 hE
 replace hB := hB.th hE
 clear hE
 refine (laws_eqJsonS _ _ _ _ old old _ (R_Cv x0.out) (R_Cv t0.out)).mono ?_
 rintro e w29 ⟨rfl, hX⟩
 replace w0 := Hd.mk (R_below w0.out hX)
 replace ew0 := upE ew0 hX
 replace x0 := Hd.mk (R_below x0.out hX)
 replace ex0 := upE ex0 hX
 replace x1 := Hd.mk (R_below x1.out hX)
 replace ex1 := upE ex1 hX
 replace x2 := Hd.mk (R_below x2.out hX)
 replace ex2 := upE ex2 hX
 replace x3 := Hd.mk (R_below x3.out hX)
 replace ex3 := upE ex3 hX
 replace g0 := Hd.mk (R_below g0.out hX)
 replace eg0 := upE eg0 hX
 replace t0 := Hd.mk (R_below t0.out hX)
 replace et0 := upE et0 hX
 replace hB := hB.th hX
 clear hX
 rw [eqv_self]
 clear t0 et0
 go_wp2_with fail
 apply calls_gen; intro W30 hW
 have hE : Below w29.heap.size w29 W30 := by rw [hW]; (repeat (first | with_reducible refine below_alloc ?_ _ | with_reducible refine below_drew ?_)); exact Below.refl _ _
 clear hW
 replace w0 := Hd.mk (R_below w0.out hE)
 replace ew0 := upE ew0 hE
 replace x0 := Hd.mk (R_below x0.out hE)
 replace ex0 := upE ex0 hE
 replace x1 := Hd.mk (R_below x1.out hE)
 replace ex1 := upE ex1 hE
 replace x2 := Hd.mk (R_below x2.out hE)
 replace ex2 := upE ex2 hE
 replace x3 := Hd.mk (R_below x3.out hE)
 replace ex3 := upE ex3 hE
 replace g0 := Hd.mk (R_below g0.out hE)
 replace eg0 := upE eg0 hE
 replace hB := hB.th hE
 clear hE
 refine (laws_toIntS _ _ ok _ (C_below hK1.out hB.out) HL1.out.1).mono ?_
 rintro e w31 ⟨v_, rfl, hO, hX⟩
 have dw0_t1 := Hd.mk ew0.out
 have dx0_t1 := Hd.mk ex0.out
 have dx1_t1 := Hd.mk ex1.out
 have dx2_t1 := Hd.mk ex2.out
 have dx3_t1 := Hd.mk ex3.out
 have dg0_t1 := Hd.mk eg0.out
 have at1 := Hd.mk hB.out.size
 replace w0 := Hd.mk (R_below w0.out hX)
 replace ew0 := upE ew0 hX
 replace x0 := Hd.mk (R_below x0.out hX)
 replace ex0 := upE ex0 hX
 replace x1 := Hd.mk (R_below x1.out hX)
 replace ex1 := upE ex1 hX
 replace x2 := Hd.mk (R_below x2.out hX)
 replace ex2 := upE ex2 hX
 replace x3 := Hd.mk (R_below x3.out hX)
 replace ex3 := upE ex3 hX
 replace g0 := Hd.mk (R_below g0.out hX)
 replace eg0 := upE eg0 hX
 replace hB := hB.th hX
 clear hX
 replace hO := R_bound hO
 obtain ⟨At1, ct1, hvt1, hct1, _⟩ := R_C hO
 subst hvt1
 have t1 := Hd.mk (show int.R 3 w31 (rng W30.heap.size w31.heap.size) (.slice At1 ok.length ct1) ok from hO); clear hO
 have hmt1 := (R_Cv t1.out).1
 have et1 := Hd.mk (Nat.le_refl w31.heap.size)
 go_wp2_with fail
 apply calls_gen; intro W32 hW
 have hE : Below w31.heap.size w31 W32 := by rw [hW]; (repeat (first | with_reducible refine below_alloc ?_ _ | with_reducible refine below_drew ?_)); exact Below.refl _ _
 clear hW
 replace w0 := Hd.mk (R_below w0.out hE)
 replace ew0 := upE ew0 hE
 replace x0 := Hd.mk (R_below x0.out hE)
 replace ex0 := upE ex0 hE
 replace x1 := Hd.mk (R_below x1.out hE)
 replace ex1 := upE ex1 hE
 replace x2 := Hd.mk (R_below x2.out hE)
 replace ex2 := upE ex2 hE
 replace x3 := Hd.mk (R_below x3.out hE)
 replace ex3 := upE ex3 hE
 replace g0 := Hd.mk (R_below g0.out hE)
 replace eg0 := upE eg0 hE
 replace t1 := Hd.mk (R_below t1.out hE)
 replace et1 := upE et1 hE
 replace hB := hB.th hE
 clear hE
 refine (laws_eqIntS _ _ _ _ ok ok _ (R_Cv x1.out) (R_Cv t1.out)).mono ?_
 rintro e w33 ⟨rfl, hX⟩
 replace w0 := Hd.mk (R_below w0.out hX)
 replace ew0 := upE ew0 hX
 replace x0 := Hd.mk (R_below x0.out hX)
 replace ex0 := upE ex0 hX
 replace x1 := Hd.mk (R_below x1.out hX)
 replace ex1 := upE ex1 hX
 replace x2 := Hd.mk (R_below x2.out hX)
 replace ex2 := upE ex2 hX
 replace x3 := Hd.mk (R_below x3.out hX)
 replace ex3 := upE ex3 hX
 replace g0 := Hd.mk (R_below g0.out hX)
 replace eg0 := upE eg0 hX
 replace t1 := Hd.mk (R_below t1.out hX)
 replace et1 := upE et1 hX
 replace hB := hB.th hX
 clear hX
 rw [eqv_self]
 clear t1 et1
 go_wp2_with fail
 apply calls_gen; intro W34 hW
 have hE : Below w33.heap.size w33 W34 := by rw [hW]; (repeat (first | with_reducible refine below_alloc ?_ _ | with_reducible refine below_drew ?_)); exact Below.refl _ _
 clear hW
 replace w0 := Hd.mk (R_below w0.out hE)
 replace ew0 := upE ew0 hE
 replace x0 := Hd.mk (R_below x0.out hE)
 replace ex0 := upE ex0 hE
 replace x1 := Hd.mk (R_below x1.out hE)
 replace ex1 := upE ex1 hE
 replace x2 := Hd.mk (R_below x2.out hE)
 replace ex2 := upE ex2 hE
 replace x3 := Hd.mk (R_below x3.out hE)
 replace ex3 := upE ex3 hE
 replace g0 := Hd.mk (R_below g0.out hE)
 replace eg0 := upE eg0 hE
 replace hB := hB.th hE
 clear hE
 refine (laws_toJsonS _ _ now _ (C_below hK2.out hB.out) HL2.out.1).mono ?_
 rintro e w35 ⟨v_, rfl, hO, hX⟩
 have dw0_t2 := Hd.mk ew0.out
 have dx0_t2 := Hd.mk ex0.out
 have dx1_t2 := Hd.mk ex1.out
 have dx2_t2 := Hd.mk ex2.out
 have dx3_t2 := Hd.mk ex3.out
 have dg0_t2 := Hd.mk eg0.out
 have at2 := Hd.mk hB.out.size
 replace w0 := Hd.mk (R_below w0.out hX)
 replace ew0 := upE ew0 hX
 replace x0 := Hd.mk (R_below x0.out hX)
 replace ex0 := upE ex0 hX
 replace x1 := Hd.mk (R_below x1.out hX)
 replace ex1 := upE ex1 hX
 replace x2 := Hd.mk (R_below x2.out hX)
 replace ex2 := upE ex2 hX
 replace x3 := Hd.mk (R_below x3.out hX)
 replace ex3 := upE ex3 hX
 replace g0 := Hd.mk (R_below g0.out hX)
 replace eg0 := upE eg0 hX
 replace hB := hB.th hX
 clear hX
 replace hO := R_bound hO
 obtain ⟨At2, ct2, hvt2, hct2, _⟩ := R_C hO
 subst hvt2
 have t2 := Hd.mk (show (tJ (m + 1)).R 43 w35 (rng W34.heap.size w35.heap.size) (.slice At2 now.length ct2) now from hO); clear hO
 have hmt2 := (R_Cv t2.out).1
 have et2 := Hd.mk (Nat.le_refl w35.heap.size)
 go_wp2_with fail
 apply calls_gen; intro W36 hW
 have hE : Below w35.heap.size w35 W36 := by rw [hW]; (repeat (first | with_reducible refine below_alloc ?_ _ | with_reducible refine below_drew ?_)); exact Below.refl _ _
 clear hW
 replace w0 := Hd.mk (R_below w0.out hE)
 replace ew0 := upE ew0 hE
 replace x0 := Hd.mk (R_below x0.out hE)
 replace ex0 := upE ex0 hE
 replace x1 := Hd.mk (R_below x1.out hE)
 replace ex1 := upE ex1 hE
 replace x2 := Hd.mk (R_below x2.out hE)
 replace ex2 := upE ex2 hE
 replace x3 := Hd.mk (R_below x3.out hE)
 replace ex3 := upE ex3 hE
 replace g0 := Hd.mk (R_below g0.out hE)
 replace eg0 := upE eg0 hE
 replace t2 := Hd.mk (R_below t2.out hE)
 replace et2 := upE et2 hE
 replace hB := hB.th hE
 clear hE
 refine (laws_eqJsonS _ _ _ _ now now _ (R_Cv x2.out) (R_Cv t2.out)).mono ?_
 rintro e w37 ⟨rfl, hX⟩
 replace w0 := Hd.mk (R_below w0.out hX)
 replace ew0 := upE ew0 hX
 replace x0 := Hd.mk (R_below x0.out hX)
 replace ex0 := upE ex0 hX
 replace x1 := Hd.mk (R_below x1.out hX)
 replace ex1 := upE ex1 hX
 replace x2 := Hd.mk (R_below x2.out hX)
 replace ex2 := upE ex2 hX
 replace x3 := Hd.mk (R_below x3.out hX)
 replace ex3 := upE ex3 hX
 replace g0 := Hd.mk (R_below g0.out hX)
 replace eg0 := upE eg0 hX
 replace t2 := Hd.mk (R_below t2.out hX)
 replace et2 := upE et2 hX
 replace hB := hB.th hX
 clear hX
 rw [eqv_self]
 clear t2 et2
 go_wp2_with fail
 apply calls_gen; intro W38 hW
 have hE : Below w37.heap.size w37 W38 := by rw [hW]; (repeat (first | with_reducible refine below_alloc ?_ _ | with_reducible refine below_drew ?_)); exact Below.refl _ _
 clear hW
 replace w0 := Hd.mk (R_below w0.out hE)
 replace ew0 := upE ew0 hE
 replace x0 := Hd.mk (R_below x0.out hE)
 replace ex0 := upE ex0 hE
 replace x1 := Hd.mk (R_below x1.out hE)
 replace ex1 := upE ex1 hE
 replace x2 := Hd.mk (R_below x2.out hE)
 replace ex2 := upE ex2 hE
 replace x3 := Hd.mk (R_below x3.out hE)
 replace ex3 := upE ex3 hE
 replace g0 := Hd.mk (R_below g0.out hE)
 replace eg0 := upE eg0 hE
 replace hB := hB.th hE
 clear hE
 refine (laws_toIntS _ _ nk _ (C_below hK3.out hB.out) HL3.out.1).mono ?_
 rintro e w39 ⟨v_, rfl, hO, hX⟩
 have dw0_t3 := Hd.mk ew0.out
 have dx0_t3 := Hd.mk ex0.out
 have dx1_t3 := Hd.mk ex1.out
 have dx2_t3 := Hd.mk ex2.out
 have dx3_t3 := Hd.mk ex3.out
 have dg0_t3 := Hd.mk eg0.out
 have at3 := Hd.mk hB.out.size
 replace w0 := Hd.mk (R_below w0.out hX)
 replace ew0 := upE ew0 hX
 replace x0 := Hd.mk (R_below x0.out hX)
 replace ex0 := upE ex0 hX
 replace x1 := Hd.mk (R_below x1.out hX)
 replace ex1 := upE ex1 hX
 replace x2 := Hd.mk (R_below x2.out hX)
 replace ex2 := upE ex2 hX
 replace x3 := Hd.mk (R_below x3.out hX)
 replace ex3 := upE ex3 hX
 replace g0 := Hd.mk (R_below g0.out hX)
 replace eg0 := upE eg0 hX
 replace hB := hB.th hX
 clear hX
 replace hO := R_bound hO
 obtain ⟨At3, ct3, hvt3, hct3, _⟩ := R_C hO
 subst hvt3
 have t3 := Hd.mk (show int.R 3 w39 (rng W38.heap.size w39.heap.size) (.slice At3 nk.length ct3) nk from hO); clear hO
 have hmt3 := (R_Cv t3.out).1
 have et3 := Hd.mk (Nat.le_refl w39.heap.size)
 go_wp2_with fail
 apply calls_gen; intro W40 hW
 have hE : Below w39.heap.size w39 W40 := by rw [hW]; (repeat (first | with_reducible refine below_alloc ?_ _ | with_reducible refine below_drew ?_)); exact Below.refl _ _
 clear hW
 replace w0 := Hd.mk (R_below w0.out hE)
 replace ew0 := upE ew0 hE
 replace x0 := Hd.mk (R_below x0.out hE)
 replace ex0 := upE ex0 hE
 replace x1 := Hd.mk (R_below x1.out hE)
 replace ex1 := upE ex1 hE
 replace x2 := Hd.mk (R_below x2.out hE)
 replace ex2 := upE ex2 hE
 replace x3 := Hd.mk (R_below x3.out hE)
 replace ex3 := upE ex3 hE
 replace g0 := Hd.mk (R_below g0.out hE)
 replace eg0 := upE eg0 hE
 replace t3 := Hd.mk (R_below t3.out hE)
 replace et3 := upE et3 hE
 replace hB := hB.th hE
 clear hE
 refine (laws_eqIntS _ _ _ _ nk nk _ (R_Cv x3.out) (R_Cv t3.out)).mono ?_
 rintro e w41 ⟨rfl, hX⟩
 replace w0 := Hd.mk (R_below w0.out hX)
 replace ew0 := upE ew0 hX
 replace x0 := Hd.mk (R_below x0.out hX)
 replace ex0 := upE ex0 hX
 replace x1 := Hd.mk (R_below x1.out hX)
 replace ex1 := upE ex1 hX
 replace x2 := Hd.mk (R_below x2.out hX)
 replace ex2 := upE ex2 hX
 replace x3 := Hd.mk (R_below x3.out hX)
 replace ex3 := upE ex3 hX
 replace g0 := Hd.mk (R_below g0.out hX)
 replace eg0 := upE eg0 hX
 replace t3 := Hd.mk (R_below t3.out hX)
 replace et3 := upE et3 hX
 replace hB := hB.th hX
 clear hX
 rw [eqv_self]
 clear t3 et3
 go_wp2_with fail
 apply calls_gen; intro W42 hW
 have hE : Below w41.heap.size w41 W42 := by rw [hW]; (repeat (first | with_reducible refine below_alloc ?_ _ | with_reducible refine below_drew ?_)); exact Below.refl _ _
 clear hW
 replace w0 := Hd.mk (R_below w0.out hE)
 replace ew0 := upE ew0 hE
 replace x0 := Hd.mk (R_below x0.out hE)
 replace ex0 := upE ex0 hE
 replace x1 := Hd.mk (R_below x1.out hE)
 replace ex1 := upE ex1 hE
 replace x2 := Hd.mk (R_below x2.out hE)
 replace ex2 := upE ex2 hE
 replace x3 := Hd.mk (R_below x3.out hE)
 replace ex3 := upE ex3 hE
 replace g0 := Hd.mk (R_below g0.out hE)
 replace eg0 := upE eg0 hE
 replace hB := hB.th hE
 clear hE
 refine (laws_markJsonS _ _ (1) _ x0.out (by omega) (by omega)).mono ?_
 rintro e w43 ⟨rfl, hM, hX⟩
 have hsz_ := hX.size
 replace w0 := Hd.mk (R_fr w0.out hX (rng_off (Or.inl dw0_x0.out)))
 replace ew0 := Hd.mk (Nat.le_trans ew0.out hsz_)
 replace ex0 := Hd.mk (Nat.le_trans ex0.out hsz_)
 replace x1 := Hd.mk (R_fr x1.out hX (rng_off (Or.inr dx0_x1.out)))
 replace ex1 := Hd.mk (Nat.le_trans ex1.out hsz_)
 replace x2 := Hd.mk (R_fr x2.out hX (rng_off (Or.inr dx0_x2.out)))
 replace ex2 := Hd.mk (Nat.le_trans ex2.out hsz_)
 replace x3 := Hd.mk (R_fr x3.out hX (rng_off (Or.inr dx0_x3.out)))
 replace ex3 := Hd.mk (Nat.le_trans ex3.out hsz_)
 replace g0 := Hd.mk (R_fr g0.out hX (rng_off (Or.inr dx0_g0.out)))
 replace eg0 := Hd.mk (Nat.le_trans eg0.out hsz_)
 replace hB := Hd.mk (below_rng hB.out hX ax0.out)
 clear hsz_
 clear hX
 clear hM
 clear x0 ex0
 go_wp2_with fail
 apply calls_gen; intro W44 hW
 have hE : Below w43.heap.size w43 W44 := by rw [hW]; (repeat (first | with_reducible refine below_alloc ?_ _ | with_reducible refine below_drew ?_)); exact Below.refl _ _
 clear hW
 replace w0 := Hd.mk (R_below w0.out hE)
 replace ew0 := upE ew0 hE
 replace x1 := Hd.mk (R_below x1.out hE)
 replace ex1 := upE ex1 hE
 replace x2 := Hd.mk (R_below x2.out hE)
 replace ex2 := upE ex2 hE
 replace x3 := Hd.mk (R_below x3.out hE)
 replace ex3 := upE ex3 hE
 replace g0 := Hd.mk (R_below g0.out hE)
 replace eg0 := upE eg0 hE
 replace hB := hB.th hE
 clear hE
 refine (laws_markIntS _ _ (1 + (bulkL (cnJ (m + 1)) old : Int)) _ x1.out (by omega) (by omega)).mono ?_
 rintro e w45 ⟨rfl, hM, hX⟩
 have hsz_ := hX.size
 replace w0 := Hd.mk (R_fr w0.out hX (rng_off (Or.inl dw0_x1.out)))
 replace ew0 := Hd.mk (Nat.le_trans ew0.out hsz_)
 replace ex1 := Hd.mk (Nat.le_trans ex1.out hsz_)
 replace x2 := Hd.mk (R_fr x2.out hX (rng_off (Or.inr dx1_x2.out)))
 replace ex2 := Hd.mk (Nat.le_trans ex2.out hsz_)
 replace x3 := Hd.mk (R_fr x3.out hX (rng_off (Or.inr dx1_x3.out)))
 replace ex3 := Hd.mk (Nat.le_trans ex3.out hsz_)
 replace g0 := Hd.mk (R_fr g0.out hX (rng_off (Or.inr dx1_g0.out)))
 replace eg0 := Hd.mk (Nat.le_trans eg0.out hsz_)
 replace hB := Hd.mk (below_rng hB.out hX ax1.out)
 clear hsz_
 clear hX
 clear hM
 clear x1 ex1
 go_wp2_with fail
 apply calls_gen; intro W46 hW
 have hE : Below w45.heap.size w45 W46 := by rw [hW]; (repeat (first | with_reducible refine below_alloc ?_ _ | with_reducible refine below_drew ?_)); exact Below.refl _ _
 clear hW
 replace w0 := Hd.mk (R_below w0.out hE)
 replace ew0 := upE ew0 hE
 replace x2 := Hd.mk (R_below x2.out hE)
 replace ex2 := upE ex2 hE
 replace x3 := Hd.mk (R_below x3.out hE)
 replace ex3 := upE ex3 hE
 replace g0 := Hd.mk (R_below g0.out hE)
 replace eg0 := upE eg0 hE
 replace hB := hB.th hE
 clear hE
 refine (laws_markJsonS _ _ (1 + (bulkL (cnJ (m + 1)) old : Int) + (ok.length : Int)) _ x2.out (by omega) (by omega)).mono ?_
 rintro e w47 ⟨rfl, hM, hX⟩
 have hsz_ := hX.size
 replace w0 := Hd.mk (R_fr w0.out hX (rng_off (Or.inl dw0_x2.out)))
 replace ew0 := Hd.mk (Nat.le_trans ew0.out hsz_)
 replace ex2 := Hd.mk (Nat.le_trans ex2.out hsz_)
 replace x3 := Hd.mk (R_fr x3.out hX (rng_off (Or.inr dx2_x3.out)))
 replace ex3 := Hd.mk (Nat.le_trans ex3.out hsz_)
 replace g0 := Hd.mk (R_fr g0.out hX (rng_off (Or.inr dx2_g0.out)))
 replace eg0 := Hd.mk (Nat.le_trans eg0.out hsz_)
 replace hB := Hd.mk (below_rng hB.out hX ax2.out)
 clear hsz_
 clear hX
 clear hM
 clear x2 ex2
 go_wp2_with fail
 apply calls_gen; intro W48 hW
 have hE : Below w47.heap.size w47 W48 := by rw [hW]; (repeat (first | with_reducible refine below_alloc ?_ _ | with_reducible refine below_drew ?_)); exact Below.refl _ _
 clear hW
 replace w0 := Hd.mk (R_below w0.out hE)
 replace ew0 := upE ew0 hE
 replace x3 := Hd.mk (R_below x3.out hE)
 replace ex3 := upE ex3 hE
 replace g0 := Hd.mk (R_below g0.out hE)
 replace eg0 := upE eg0 hE
 replace hB := hB.th hE
 clear hE
 refine (laws_markIntS _ _ (1 + (bulkL (cnJ (m + 1)) old : Int) + (ok.length : Int) + (bulkL (cnJ (m + 1)) now : Int)) _ x3.out (by omega) (by omega)).mono ?_
 rintro e w49 ⟨rfl, hM, hX⟩
 have hsz_ := hX.size
 replace w0 := Hd.mk (R_fr w0.out hX (rng_off (Or.inl dw0_x3.out)))
 replace ew0 := Hd.mk (Nat.le_trans ew0.out hsz_)
 replace ex3 := Hd.mk (Nat.le_trans ex3.out hsz_)
 replace g0 := Hd.mk (R_fr g0.out hX (rng_off (Or.inr dx3_g0.out)))
 replace eg0 := Hd.mk (Nat.le_trans eg0.out hsz_)
 replace hB := Hd.mk (below_rng hB.out hX ax3.out)
 clear hsz_
 clear hX
 clear hM
 clear x3 ex3
 have hkp : (0 : Int) ≤ 1 + (bulkL (cnJ (m + 1)) old : Int) + (ok.length : Int) + (bulkL (cnJ (m + 1)) now : Int) + (nk.length : Int) := by omega
 go_wp2_with fail
 apply calls_gen; intro W50 hW
 have hE : Below w49.heap.size w49 W50 := by rw [hW]; (repeat (first | with_reducible refine below_alloc ?_ _ | with_reducible refine below_drew ?_)); exact Below.refl _ _
 clear hW
 replace w0 := Hd.mk (R_below w0.out hE)
 replace ew0 := upE ew0 hE
 replace g0 := Hd.mk (R_below g0.out hE)
 replace eg0 := upE eg0 hE
 replace hB := hB.th hE
 clear hE
 refine (laws_eqOpS _ _ _ _ y y _ (R_Cv g0.out) (R_Cv w0.out)).mono ?_
 rintro e w51 ⟨rfl, hX⟩
 replace w0 := Hd.mk (R_below w0.out hX)
 replace ew0 := upE ew0 hX
 replace g0 := Hd.mk (R_below g0.out hX)
 replace eg0 := upE eg0 hX
 replace hB := hB.th hX
 clear hX
 rw [eqv_self]
 go_wp2_with fail
 apply calls_gen; intro W52 hW
 have hE : Below w51.heap.size w51 W52 := by rw [hW]; (repeat (first | with_reducible refine below_alloc ?_ _ | with_reducible refine below_drew ?_)); exact Below.refl _ _
 clear hW
 replace w0 := Hd.mk (R_below w0.out hE)
 replace ew0 := upE ew0 hE
 replace g0 := Hd.mk (R_below g0.out hE)
 replace eg0 := upE eg0 hE
 replace hB := hB.th hE
 clear hE
 refine (laws_markOpS _ _ (1) _ g0.out (by omega) (by omega)).mono ?_
 rintro e w53 ⟨rfl, hM, hX⟩
 have hsz_ := hX.size
 replace w0 := Hd.mk (R_fr w0.out hX (rng_off (Or.inl dw0_g0.out)))
 replace ew0 := Hd.mk (Nat.le_trans ew0.out hsz_)
 replace eg0 := Hd.mk (Nat.le_trans eg0.out hsz_)
 replace hB := Hd.mk (below_rng hB.out hX ag0.out)
 clear hsz_
 clear hX
 replace g0 := Hd.mk hM; clear hM
 have hqp : (0 : Int) ≤ 1 + (bulkL (cnOp (m + 1)) y : Int) := by omega
 go_wp2_with fail
 apply calls_gen; intro W54 hW
 have hE : Below w53.heap.size w53 W54 := by rw [hW]; (repeat (first | with_reducible refine below_alloc ?_ _ | with_reducible refine below_drew ?_)); exact Below.refl _ _
 clear hW
 replace w0 := Hd.mk (R_below w0.out hE)
 replace ew0 := upE ew0 hE
 replace g0 := Hd.mk (R_below g0.out hE)
 replace eg0 := upE eg0 hE
 replace hB := hB.th hE
 clear hE
 have hlen : (markL (mkOp (m + 1)) (cnOp (m + 1)) 1 y).length = y.length := markL_length _ _
 rw [← hlen]
 refine (laws_heldOpS _ _ _ y 1 _ (R_Cv g0.out) rfl (by omega) (by omega)).mono ?_
 rintro e w55 ⟨rfl, hX⟩
 replace w0 := Hd.mk (R_below w0.out hX)
 replace ew0 := upE ew0 hX
 replace g0 := Hd.mk (R_below g0.out hX)
 replace eg0 := upE eg0 hX
 replace hB := hB.th hX
 clear hX
 go_wp2_with fail
 apply calls_gen; intro W56 hW
 have hE : Below w55.heap.size w55 W56 := by rw [hW]; (repeat (first | with_reducible refine below_alloc ?_ _ | with_reducible refine below_drew ?_)); exact Below.refl _ _
 clear hW
 replace w0 := Hd.mk (R_below w0.out hE)
 replace ew0 := upE ew0 hE
 replace g0 := Hd.mk (R_below g0.out hE)
 replace eg0 := upE eg0 hE
 replace hB := hB.th hE
 clear hE
 refine (laws_toJsonS _ _ old _ (C_below hK0.out hB.out) HL0.out.1).mono ?_
 rintro e w57 ⟨v_, rfl, hO, hX⟩
 have dw0_r0 := Hd.mk ew0.out
 have dg0_r0 := Hd.mk eg0.out
 have ar0 := Hd.mk hB.out.size
 replace w0 := Hd.mk (R_below w0.out hX)
 replace ew0 := upE ew0 hX
 replace g0 := Hd.mk (R_below g0.out hX)
 replace eg0 := upE eg0 hX
 replace hB := hB.th hX
 clear hX
 replace hO := R_bound hO
 obtain ⟨Ar0, cr0, hvr0, hcr0, _⟩ := R_C hO
 subst hvr0
 have r0 := Hd.mk (show (tJ (m + 1)).R 43 w57 (rng W56.heap.size w57.heap.size) (.slice Ar0 old.length cr0) old from hO); clear hO
 have hmr0 := (R_Cv r0.out).1
 have er0 := Hd.mk (Nat.le_refl w57.heap.size)
 go_wp2_with fail
 apply calls_gen; intro W58 hW
 have hE : Below w57.heap.size w57 W58 := by rw [hW]; (repeat (first | with_reducible refine below_alloc ?_ _ | with_reducible refine below_drew ?_)); exact Below.refl _ _
 clear hW
 replace w0 := Hd.mk (R_below w0.out hE)
 replace ew0 := upE ew0 hE
 replace g0 := Hd.mk (R_below g0.out hE)
 replace eg0 := upE eg0 hE
 replace r0 := Hd.mk (R_below r0.out hE)
 replace er0 := upE er0 hE
 replace hB := hB.th hE
 clear hE
 refine (laws_toIntS _ _ ok _ (C_below hK1.out hB.out) HL1.out.1).mono ?_
 rintro e w59 ⟨v_, rfl, hO, hX⟩
 have dw0_r1 := Hd.mk ew0.out
 have dg0_r1 := Hd.mk eg0.out
 have dr0_r1 := Hd.mk er0.out
 have ar1 := Hd.mk hB.out.size
 replace w0 := Hd.mk (R_below w0.out hX)
 replace ew0 := upE ew0 hX
 replace g0 := Hd.mk (R_below g0.out hX)
 replace eg0 := upE eg0 hX
 replace r0 := Hd.mk (R_below r0.out hX)
 replace er0 := upE er0 hX
 replace hB := hB.th hX
 clear hX
 replace hO := R_bound hO
 obtain ⟨Ar1, cr1, hvr1, hcr1, _⟩ := R_C hO
 subst hvr1
 have r1 := Hd.mk (show int.R 3 w59 (rng W58.heap.size w59.heap.size) (.slice Ar1 ok.length cr1) ok from hO); clear hO
 have hmr1 := (R_Cv r1.out).1
 have er1 := Hd.mk (Nat.le_refl w59.heap.size)
 go_wp2_with fail
 apply calls_gen; intro W60 hW
 have hE : Below w59.heap.size w59 W60 := by rw [hW]; (repeat (first | with_reducible refine below_alloc ?_ _ | with_reducible refine below_drew ?_)); exact Below.refl _ _
 clear hW
 replace w0 := Hd.mk (R_below w0.out hE)
 replace ew0 := upE ew0 hE
 replace g0 := Hd.mk (R_below g0.out hE)
 replace eg0 := upE eg0 hE
 replace r0 := Hd.mk (R_below r0.out hE)
 replace er0 := upE er0 hE
 replace r1 := Hd.mk (R_below r1.out hE)
 replace er1 := upE er1 hE
 replace hB := hB.th hE
 clear hE
 refine (laws_toJsonS _ _ now _ (C_below hK2.out hB.out) HL2.out.1).mono ?_
 rintro e w61 ⟨v_, rfl, hO, hX⟩
 have dw0_r2 := Hd.mk ew0.out
 have dg0_r2 := Hd.mk eg0.out
 have dr0_r2 := Hd.mk er0.out
 have dr1_r2 := Hd.mk er1.out
 have ar2 := Hd.mk hB.out.size
 replace w0 := Hd.mk (R_below w0.out hX)
 replace ew0 := upE ew0 hX
 replace g0 := Hd.mk (R_below g0.out hX)
 replace eg0 := upE eg0 hX
 replace r0 := Hd.mk (R_below r0.out hX)
 replace er0 := upE er0 hX
 replace r1 := Hd.mk (R_below r1.out hX)
 replace er1 := upE er1 hX
 replace hB := hB.th hX
 clear hX
 replace hO := R_bound hO
 obtain ⟨Ar2, cr2, hvr2, hcr2, _⟩ := R_C hO
 subst hvr2
 have r2 := Hd.mk (show (tJ (m + 1)).R 43 w61 (rng W60.heap.size w61.heap.size) (.slice Ar2 now.length cr2) now from hO); clear hO
 have hmr2 := (R_Cv r2.out).1
 have er2 := Hd.mk (Nat.le_refl w61.heap.size)
 go_wp2_with fail
 apply calls_gen; intro W62 hW
 have hE : Below w61.heap.size w61 W62 := by rw [hW]; (repeat (first | with_reducible refine below_alloc ?_ _ | with_reducible refine below_drew ?_)); exact Below.refl _ _
 clear hW
 replace w0 := Hd.mk (R_below w0.out hE)
 replace ew0 := upE ew0 hE
 replace g0 := Hd.mk (R_below g0.out hE)
 replace eg0 := upE eg0 hE
 replace r0 := Hd.mk (R_below r0.out hE)
 replace er0 := upE er0 hE
 replace r1 := Hd.mk (R_below r1.out hE)
 replace er1 := upE er1 hE
 replace r2 := Hd.mk (R_below r2.out hE)
 replace er2 := upE er2 hE
 replace hB := hB.th hE
 clear hE
 refine (laws_toIntS _ _ nk _ (C_below hK3.out hB.out) HL3.out.1).mono ?_
 rintro e w63 ⟨v_, rfl, hO, hX⟩
 have dw0_r3 := Hd.mk ew0.out
 have dg0_r3 := Hd.mk eg0.out
 have dr0_r3 := Hd.mk er0.out
 have dr1_r3 := Hd.mk er1.out
 have dr2_r3 := Hd.mk er2.out
 have ar3 := Hd.mk hB.out.size
 replace w0 := Hd.mk (R_below w0.out hX)
 replace ew0 := upE ew0 hX
 replace g0 := Hd.mk (R_below g0.out hX)
 replace eg0 := upE eg0 hX
 replace r0 := Hd.mk (R_below r0.out hX)
 replace er0 := upE er0 hX
 replace r1 := Hd.mk (R_below r1.out hX)
 replace er1 := upE er1 hX
 replace r2 := Hd.mk (R_below r2.out hX)
 replace er2 := upE er2 hX
 replace hB := hB.th hX
 clear hX
 replace hO := R_bound hO
 obtain ⟨Ar3, cr3, hvr3, hcr3, _⟩ := R_C hO
 subst hvr3
 have r3 := Hd.mk (show int.R 3 w63 (rng W62.heap.size w63.heap.size) (.slice Ar3 nk.length cr3) nk from hO); clear hO
 have hmr3 := (R_Cv r3.out).1
 have er3 := Hd.mk (Nat.le_refl w63.heap.size)
 go_wp2_with fail
 apply calls_gen; intro W64 hW
 have hE : Below w63.heap.size w63 W64 := by rw [hW]; (repeat (first | with_reducible refine below_alloc ?_ _ | with_reducible refine below_drew ?_)); exact Below.refl _ _
 clear hW
 replace w0 := Hd.mk (R_below w0.out hE)
 replace ew0 := upE ew0 hE
 replace g0 := Hd.mk (R_below g0.out hE)
 replace eg0 := upE eg0 hE
 replace r0 := Hd.mk (R_below r0.out hE)
 replace er0 := upE er0 hE
 replace r1 := Hd.mk (R_below r1.out hE)
 replace er1 := upE er1 hE
 replace r2 := Hd.mk (R_below r2.out hE)
 replace er2 := upE er2 hE
 replace r3 := Hd.mk (R_below r3.out hE)
 replace er3 := upE er3 hE
 replace hB := hB.th hE
 clear hE
 refine (impl_Rows (m := m) _ _ old _ _ ok _ _ now _ _ nk _ (R_Cv r0.out) (R_Cv r1.out) (by assumption) (R_Cv r2.out) (R_Cv r3.out) (by assumption) (by have := HL0.out.1; simp only [bulkJS] at this; omega) (by have := HL2.out.1; simp only [bulkJS] at this; omega) (hT.out.below hB.out)).mono ?_
 rintro e w65 ⟨v_, rfl, hO, hX⟩
 have dw0_h0 := Hd.mk ew0.out
 have dg0_h0 := Hd.mk eg0.out
 have dr0_h0 := Hd.mk er0.out
 have dr1_h0 := Hd.mk er1.out
 have dr2_h0 := Hd.mk er2.out
 have dr3_h0 := Hd.mk er3.out
 have ah0 := Hd.mk hB.out.size
 replace w0 := Hd.mk (R_below w0.out hX)
 replace ew0 := upE ew0 hX
 replace g0 := Hd.mk (R_below g0.out hX)
 replace eg0 := upE eg0 hX
 replace r0 := Hd.mk (R_below r0.out hX)
 replace er0 := upE er0 hX
 replace r1 := Hd.mk (R_below r1.out hX)
 replace er1 := upE er1 hX
 replace r2 := Hd.mk (R_below r2.out hX)
 replace er2 := upE er2 hX
 replace r3 := Hd.mk (R_below r3.out hX)
 replace er3 := upE er3 hX
 replace hB := hB.th hX
 clear hX
 rw [← Hy.out] at hO
 replace hO := R_bound hO
 obtain ⟨Ah0, ch0, hvh0, hch0, _⟩ := R_C hO
 subst hvh0
 have h0 := Hd.mk (show (tOp (m + 1)).R 53 w65 (rng W64.heap.size w65.heap.size) (.slice Ah0 y.length ch0) y from hO); clear hO
 have hmh0 := (R_Cv h0.out).1
 have eh0 := Hd.mk (Nat.le_refl w65.heap.size)
 clear r0 er0
 clear r1 er1
 clear r2 er2
 clear r3 er3
 go_wp2_with fail
 apply calls_gen; intro W66 hW
 have hE : Below w65.heap.size w65 W66 := by rw [hW]; (repeat (first | with_reducible refine below_alloc ?_ _ | with_reducible refine below_drew ?_)); exact Below.refl _ _
 clear hW
 replace w0 := Hd.mk (R_below w0.out hE)
 replace ew0 := upE ew0 hE
 replace g0 := Hd.mk (R_below g0.out hE)
 replace eg0 := upE eg0 hE
 replace h0 := Hd.mk (R_below h0.out hE)
 replace eh0 := upE eh0 hE
 replace hB := hB.th hE
 clear hE
 refine (laws_eqOpS _ _ _ _ y y _ (R_Cv h0.out) (R_Cv w0.out)).mono ?_
 rintro e w67 ⟨rfl, hX⟩
 replace w0 := Hd.mk (R_below w0.out hX)
 replace ew0 := upE ew0 hX
 replace g0 := Hd.mk (R_below g0.out hX)
 replace eg0 := upE eg0 hX
 replace h0 := Hd.mk (R_below h0.out hX)
 replace eh0 := upE eh0 hX
 replace hB := hB.th hX
 clear hX
 rw [eqv_self]
 go_wp2_with fail
 apply calls_gen; intro W68 hW
 have hE : Below w67.heap.size w67 W68 := by rw [hW]; (repeat (first | with_reducible refine below_alloc ?_ _ | with_reducible refine below_drew ?_)); exact Below.refl _ _
 clear hW
 replace w0 := Hd.mk (R_below w0.out hE)
 replace ew0 := upE ew0 hE
 replace g0 := Hd.mk (R_below g0.out hE)
 replace eg0 := upE eg0 hE
 replace h0 := Hd.mk (R_below h0.out hE)
 replace eh0 := upE eh0 hE
 replace hB := hB.th hE
 clear hE
 have hlen : (markL (mkOp (m + 1)) (cnOp (m + 1)) 1 y).length = y.length := markL_length _ _
 rw [← hlen]
 refine (laws_heldOpS _ _ _ y 1 _ (R_Cv g0.out) rfl (by omega) (by omega)).mono ?_
 rintro e w69 ⟨rfl, hX⟩
 replace w0 := Hd.mk (R_below w0.out hX)
 replace ew0 := upE ew0 hX
 replace g0 := Hd.mk (R_below g0.out hX)
 replace eg0 := upE eg0 hX
 replace h0 := Hd.mk (R_below h0.out hX)
 replace eh0 := upE eh0 hX
 replace hB := hB.th hX
 clear hX
 go_wp2_with fail
 go_ret
 exact ⟨rfl, hB.out⟩
end Go.Proofs.YtegcecnjmimbiaaDoor.X
namespace Go.Proofs.YtegcecnjmimbiaaDoor.X
open Go.RowKit
set_option linter.unusedVariables false
set_option linter.unusedSimpArgs false
open Ty
def Opens {α : Type} (d : Ty α) (P : Program) (t : TypeId) (wf : α → Prop) (B : Nat) : Prop :=
 ∀ (H : Type) (enc : TypeId × Value → H) (W : World) (base : Nat) (spare : Nat → Bool) (held : Bool) (fuel : Nat) (_ : fuel ≤ B) (cs : List Value) (x : DataW H × List MemPlace),
  DataW.trod enc P W base spare held fuel t cs = some x → ∃ v : α, d.K W v cs ∧ wf v
section
variable {P : Program} {t e : TypeId} {B : Nat}
theorem opens_int (ht : P.underlying t = some (.int .i64)) : Opens int P t (fun n => -9223372036854775808 ≤ n ∧ n ≤ 9223372036854775807) B := by
 intro H enc W base spare held fuel hB cs x h
 obtain ⟨n, rfl, _, hw⟩ := DataW.trod_int ht h
 exact ⟨n, rfl, bounds_i64 hw⟩
theorem opens_bool (ht : P.underlying t = some .bool) : Opens Ty.bool P t (fun _ => True) B := by
 intro H enc W base spare held fuel hB cs x h
 obtain ⟨n, rfl, _⟩ := DataW.trod_bool ht h
 exact ⟨n, rfl, trivial⟩
theorem opens_str (ht : P.underlying t = some .string) : Opens str P t (fun s => s.size ≤ 9223372036854775807) B := by
 intro H enc W base spare held fuel hB cs x h
 obtain ⟨s, rfl, _, hs⟩ := DataW.trod_string ht h
 exact ⟨s, ⟨rfl, by simpa [maxLen] using hs⟩, by simpa [maxLen] using hs⟩
theorem opens_sl {α : Type} {d : Ty α} {wf : α → Prop} {e' : TypeId} (ht : P.underlying t = some (.slice e)) (hc : P.cellsOf e = d.sz) (ho : Opens d P e wf B) : Opens (sl e' d) P t (fun l => ∀ x ∈ l, wf x) B := by
 intro H enc W base spare held fuel hB cs x h
 rcases DataW.trod_slice ht h with ⟨rfl, _⟩ | ⟨a, len, cap, elems, rest, n, hfu, rfl, _, hb, hl, hm, hel, hx, _⟩
 ·exact ⟨[], ⟨none, 0, rfl, Nat.le_refl _, C_nil _⟩, by simp⟩
 ·have key : ∀ i, i < len → ∃ (v : α) (cs : List Value), d.K W v cs ∧ wf v ∧ ∀ j u, cs[j]? = some u → W.cell? (a.add (i * d.sz + j)) = some u := by
   intro i hi
   have h1 := hx i hi
   rw [List.getElem?_eq_getElem (by omega)] at h1
   obtain ⟨cs, h2, h3⟩ := Option.bind_eq_some_iff.1 h1
   obtain ⟨_, h4, h5⟩ := World.cells?_some h2
   obtain ⟨v, hk, hw⟩ := ho H enc W base spare held n (by omega) cs _ h3
   refine ⟨v, cs, hk, hw, fun j u hu => ?_⟩
   have hj : j < cs.length := (List.getElem?_eq_some_iff.1 hu).1
   rw [← hc, ← Addr.add_add, h5 j (by omega), hu]
  have hg : ∀ i x, (List.ofFn (fun i : Fin len => Classical.choose (key i i.2)))[i]? = some x → ∃ hi : i < len, x = Classical.choose (key i hi) := by
   intro i x hi
   rw [List.getElem?_ofFn] at hi
   split at hi
   ·rename_i h1; injection hi with hi; exact ⟨h1, hi.symm⟩
   ·cases hi
  have hll : (List.ofFn (fun i : Fin len => Classical.choose (key i i.2))).length = len := by simp
  refine ⟨List.ofFn (fun i : Fin len => Classical.choose (key i i.2)), ⟨some a, cap, by rw [hll], by rw [hll]; exact hl, by rw [hll]; simp only [maxLen] at hm; omega, fun i x hi => ?_⟩, fun x hx => ?_⟩
  ·obtain ⟨h1, rfl⟩ := hg i x hi
   obtain ⟨cs, hk, _, hcell⟩ := Classical.choose_spec (key i h1)
   exact ⟨a, cs, rfl, hk, hcell⟩
  ·obtain ⟨i, hi⟩ := List.mem_iff_getElem?.1 hx
   obtain ⟨h1, rfl⟩ := hg i x hi
   obtain ⟨cs, _, hw, _⟩ := Classical.choose_spec (key i h1)
   exact hw
theorem pr_split {α β : Type} {a : Ty α} {b : Ty β} {w : World} {x : α} {y : β} {cs : List Value} (k : Nat) (h1 : a.K w x (cs.take k)) (h2 : b.K w y (cs.drop k)) : (pr a b).K w (x, y) cs :=
 ⟨_, _, (List.take_append_drop k cs).symm, h1, h2⟩
theorem opens_fields {H : Type} {enc : TypeId × Value → H} {W : World} {base : Nat} {spare : Nat → Bool} {held : Bool} {fuel : Nat} {cs : List Value} {x : DataW H × List MemPlace} {fs : Array Field} (ht : P.underlying t = some (.struct fs)) (h : DataW.trod enc P W base spare held fuel t cs = some x) :
  cs.length = P.cellsOf t ∧ ∃ n, n < fuel ∧ ∀ (i : Nat) (f : Field), fs[i]? = some f → ∃ y, DataW.trod enc P W base spare held n f.type ((cs.drop f.offset).take (P.cellsOf f.type)) = some y := by
 obtain ⟨xs, n, hfu, _, hl, hxl, hf⟩ := DataW.trod_struct ht h
 refine ⟨hl, n, by omega, fun i f hi => ?_⟩
 have := hf i f hi
 rw [List.getElem?_eq_getElem (by rw [hxl]; exact (Array.getElem?_eq_some_iff.1 hi).1)] at this
 exact ⟨_, this⟩
end
open Go.RowKit
def I64 (n : Int) : Prop := -9223372036854775808 ≤ n ∧ n ≤ 9223372036854775807
theorem cells_int : Tryd.prog.cellsOf 3 = 1 := by kernel_rfl
theorem o_int (B : Nat) : Opens int Tryd.prog 3 (I64) B := opens_int Tryd.underlying3
theorem cells_bool : Tryd.prog.cellsOf 4 = 1 := by kernel_rfl
theorem o_bool (B : Nat) : Opens Ty.bool Tryd.prog 4 (fun _ => True) B := opens_bool Tryd.underlying4
theorem cells_ints : Tryd.prog.cellsOf 23 = 1 := by kernel_rfl
theorem o_ints (B : Nat) : Opens (sl 3 int) Tryd.prog 23 (fun l => ∀ x ∈ l, I64 x) B := opens_sl Tryd.underlying23 cells_int (o_int B)
theorem cells_str : Tryd.prog.cellsOf 9 = 1 := by kernel_rfl
theorem o_str (B : Nat) : Opens str Tryd.prog 9 (fun s => s.size ≤ 9223372036854775807) B := opens_str Tryd.underlying9
theorem cells_strs : Tryd.prog.cellsOf 38 = 1 := by kernel_rfl
theorem o_strs (B : Nat) : Opens (sl 9 str) Tryd.prog 38 (fun l => ∀ x ∈ l, x.size ≤ 9223372036854775807) B := opens_sl Tryd.underlying38 cells_str (o_str B)
theorem cells_Json : Tryd.prog.cellsOf 40 = 5 := by kernel_rfl
theorem cells_Jsons : Tryd.prog.cellsOf 22 = 1 := by kernel_rfl
theorem o_Json : ∀ (B : Nat), Opens (tJ (B + 1)) Tryd.prog 40 (fun _ => True) B
 | 0 => by
  intro H enc W base spare held fuel hB cs x h
  obtain rfl : fuel = 0 := by omega
  simp [DataW.trod] at h
 | B + 1 => by
  intro H enc W base spare held fuel hB cs x h
  obtain ⟨hl, n, hn, hf⟩ := opens_fields Tryd.underlying40 h
  rw [cells_Json] at hl
  obtain ⟨y0, h0⟩ := hf 0 _ rfl
  obtain ⟨y1, h1⟩ := hf 1 _ rfl
  obtain ⟨y2, h2⟩ := hf 2 _ rfl
  obtain ⟨y3, h3⟩ := hf 3 _ rfl
  obtain ⟨y4, h4⟩ := hf 4 _ rfl
  have h0 : DataW.trod enc Tryd.prog W base spare held n 3 ((cs.drop 0).take (Tryd.prog.cellsOf 3)) = some y0 := h0
  have h1 : DataW.trod enc Tryd.prog W base spare held n 3 ((cs.drop 1).take (Tryd.prog.cellsOf 3)) = some y1 := h1
  have h2 : DataW.trod enc Tryd.prog W base spare held n 9 ((cs.drop 2).take (Tryd.prog.cellsOf 9)) = some y2 := h2
  have h3 : DataW.trod enc Tryd.prog W base spare held n 22 ((cs.drop 3).take (Tryd.prog.cellsOf 22)) = some y3 := h3
  have h4 : DataW.trod enc Tryd.prog W base spare held n 38 ((cs.drop 4).take (Tryd.prog.cellsOf 38)) = some y4 := h4
  rw [cells_int] at h0 h1
  rw [cells_str] at h2
  rw [cells_Jsons] at h3
  rw [cells_strs] at h4
  obtain ⟨v0, k0, _⟩ := o_int (B + 1) H enc W base spare held n (by omega) _ _ h0
  obtain ⟨v1, k1, _⟩ := o_int (B + 1) H enc W base spare held n (by omega) _ _ h1
  obtain ⟨v2, k2, _⟩ := o_str (B + 1) H enc W base spare held n (by omega) _ _ h2
  obtain ⟨v3, k3, _⟩ := opens_sl (e' := 43) (d := tJ (B + 1)) Tryd.underlying22 (by rw [cells_Json, tJ_sz]) (o_Json B) H enc W base spare held n (by omega) _ _ h3
  obtain ⟨v4, k4, _⟩ := o_strs (B + 1) H enc W base spare held n (by omega) _ _ h4
  exact ⟨.mk v0 v1 v2 v3 v4, pr_split 1 (by simpa using k0) (pr_split 1 (by simpa using k1) (pr_split 1 (by simpa using k2) (pr_split 1 (by simpa using k3) (by rw [List.take_of_length_le (by simp; omega)] at k4; simpa using k4)))), trivial⟩
theorem o_Jsons (B : Nat) : Opens (sl 43 (tJ (B + 1))) Tryd.prog 22 (fun _ => True) B := fun H enc W base spare held fuel hB cs x h => let ⟨v, k, _⟩ := opens_sl (e' := 43) (d := tJ (B + 1)) Tryd.underlying22 (by rw [cells_Json, tJ_sz]) (o_Json B) H enc W base spare held fuel hB cs x h; ⟨v, k, trivial⟩
/-! The program's head says 'cut': read off its first word alone (the kernel doesn't walk the whole text of the head). -/
theorem cut_of {P : Program} (l : List Char) (h : P.initOrder = String.ofList l) (h2 : ((behindMainWord (wordsSigns l)).head? == some "cut".toList) = true) : ∃ rest, behindMainWord (wordsSigns P.initOrder.toList) = "cut".toList :: rest := by
 rw [h, String.toList_ofList]
 cases hb : behindMainWord (wordsSigns l) with
 | nil => rw [hb] at h2; cases h2
 | cons c r =>
  rw [hb] at h2
  have : c = "cut".toList := by simpa using h2
  exact ⟨r, by rw [this]⟩
theorem make_cut {P : Program} (h : ∃ rest, behindMainWord (wordsSigns P.initOrder.toList) = "cut".toList :: rest) : P.make = some .cut := by
 obtain ⟨r, h⟩ := h
 unfold Program.make
 rw [h]
 rfl
theorem lifts_cut {P : Program} (h : ∃ rest, behindMainWord (wordsSigns P.initOrder.toList) = "cut".toList :: rest) : P.headLifts = [] := by
 obtain ⟨r, h⟩ := h
 unfold Program.headLifts
 rw [h]
 rfl
theorem final_cut {P : Program} (h : ∃ rest, behindMainWord (wordsSigns P.initOrder.toList) = "cut".toList :: rest) : P.liftsFinal = false := by
 have h1 := lifts_cut h
 obtain ⟨r, h⟩ := h
 unfold Program.liftsFinal
 rw [h1, h]
 rfl
theorem enter_cut {P : Program} (h : ∃ rest, behindMainWord (wordsSigns P.initOrder.toList) = "cut".toList :: rest) (h2 : (!P.laysLater && !P.bearsReflect && P.doorFits []) = true) : P.mayEnter = true := by
 obtain ⟨r, h⟩ := h
 simp only [Bool.and_eq_true] at h2
 unfold Program.mayEnter
 rw [h]
 have e : stripLifts liftWords ("cut".toList :: r) = ([], "cut".toList :: r) := rfl
 simp only [e, h2.1.1, h2.1.2, h2.2]
 rfl
set_option maxRecDepth 100000 in
theorem head_cut : ∃ rest, behindMainWord (wordsSigns Tryd.prog.initOrder.toList) = "cut".toList :: rest := cut_of _ rfl (by kernel_rfl)
theorem enter_ : Tryd.prog.mayEnter = true := enter_cut head_cut (by kernel_rfl)
theorem final_ : (false == Tryd.prog.liftsFinal) = true := by rw [final_cut head_cut]; rfl
theorem make_ : (Tryd.prog.make == some .cut) = true := by rw [make_cut head_cut]; rfl
theorem andB {a b : Bool} (ha : a = true) (hb : b = true) : (a && b) = true := by rw [ha, hb]; rfl
end Go.Proofs.YtegcecnjmimbiaaDoor.X
