/- What is proved here: lemmas about the functions that the statement reaches, and what they compute (part 2). Conditions: none. -/
import Derived.Test.YtoaifagjdjgcbaaDoorM1
import Derived.Lib.Replace
import Derived.Lib.Split
import Derived.Lib.ItoaNum
import Derived.Lib.ItoaMem
import Derived.Lib.AtoiAll
import Derived.Test.YtoaifagjdjgcbaaDoorShS
import Derived.Test.YtoaifagjdjgcbaaDoorProg
import Derived.ProofKit
import Derived.OpenShut
namespace Go.Proofs.YtoaifagjdjgcbaaDoor.X
open Go.RowKit Go.Sort
set_option linter.unusedVariables false
set_option linter.unusedSimpArgs false
open Ty
theorem R_elem5 {m : Nat} {w : World} {S : Nat → Prop} {g c q : Nat} {l : List J} (hR : (tJ (m + 1)).R 27 w S (.slice (some ⟨g, 0, none⟩) l.length c) l) (hq : q < l.length) :
  ∃ (Si : Nat → Prop) (A B : Option Addr) (a b : Nat), (tJ (m + 1)).H 27 w S (.slice (some ⟨g, 0, none⟩) l.length c) l q Si [.int .i64 l[q].kind, .int .i64 l[q].n, .string l[q].s, .slice A l[q].list.length a, .slice B l[q].names.length b] ∧
   (tJ (m + 1)).O w Si l[q] [.int .i64 l[q].kind, .int .i64 l[q].n, .string l[q].s, .slice A l[q].list.length a, .slice B l[q].names.length b] ∧ S g ∧ g < w.heap.size ∧
   (w.cell? ⟨g, q * 5, none⟩ = some (.int .i64 l[q].kind) ∧ w.cell? ⟨g, q * 5 + 1, none⟩ = some (.int .i64 l[q].n) ∧ w.cell? ⟨g, q * 5 + 2, none⟩ = some (.string l[q].s) ∧ w.cell? ⟨g, q * 5 + 3, none⟩ = some (.slice A l[q].list.length a) ∧ w.cell? ⟨g, q * 5 + 4, none⟩ = some (.slice B l[q].names.length b)) ∧
   (∀ j, w.frozen? ⟨g, j, none⟩ = false) ∧ l.length ≤ c ∧ c ≤ 9223372036854775807 := by
 obtain ⟨Si, cs, hH, hO⟩ := R_H hR (List.getElem?_eq_getElem hq)
 obtain ⟨v3, v4, _, _, rfl, _, h3, h4, _⟩ := tJ_O.1 hO
 obtain ⟨A, a, rfl, _, _⟩ := R_C h3
 obtain ⟨B, b, rfl, _, _⟩ := R_C h4
 obtain ⟨g2, cap, hv, hl, hc, hS, hg, _, hcell, hfz⟩ := H_cells hH (show 0 < 5 by decide)
 injection hv with e1 _ e3
 injection e1 with e1
 injection e1 with e1 _ _
 subst e1; subst e3
 exact ⟨Si, A, B, a, b, hH, hO, hS, hg, ⟨hcell 0 _ rfl, hcell 1 _ rfl, hcell 2 _ rfl, hcell 3 _ rfl, hcell 4 _ rfl⟩, hfz, hl, hc⟩
theorem one_cell {u : Value} (h : u.oneCell' = true) : u.cells = #[u] := by
 cases u <;> first | rfl | (exact absurd h (by simp [Value.oneCell']))
theorem H_set5 {m : Nat} {w : World} {S S' Si T : Nat → Prop} {g c q : Nat} {l : List J} {cs : List Value} {z : J} {d0 d1 d2 d3 d4 : Value} (hH : (tJ (m + 1)).H 27 w S (.slice (some ⟨g, 0, none⟩) l.length c) l q Si cs) (hcs : cs.length = 5)
  (hO : (tJ (m + 1)).O w T z [d0, d1, d2, d3, d4]) (hTg : ¬ T g) (hT : ∀ k, T k → Si k ∨ ¬ S k) (hS : ∀ k, S k → S' k) (hT' : ∀ k, T k → S' k) :
  (tJ (m + 1)).R 27 (((((w.setCell ⟨g, q * 5, none⟩ d0).setCell ⟨g, q * 5 + 1, none⟩ d1).setCell ⟨g, q * 5 + 2, none⟩ d2).setCell ⟨g, q * 5 + 3, none⟩ d3).setCell ⟨g, q * 5 + 4, none⟩ d4) S' (.slice (some ⟨g, 0, none⟩) l.length c) (l.set q z) := by
 have h1 := Ty.K_one _ (Ty.O_K _ hO)
 have k0 := one_cell (h1 d0 (by simp)); have k1 := one_cell (h1 d1 (by simp)); have k2 := one_cell (h1 d2 (by simp)); have k3 := one_cell (h1 d3 (by simp)); have k4 := one_cell (h1 d4 (by simp))
 have e := H_store (H_store (H_store (H_store (H_store hH 0 (show 0 < 5 by decide) d0 k0) 1 (show 1 < 5 by decide) d1 k1) 2 (show 2 < 5 by decide) d2 k2) 3 (show 3 < 5 by decide) d3 k3) 4 (show 4 < 5 by decide) d4 k4
 have hc : ((((cs.set 0 d0).set 1 d1).set 2 d2).set 3 d3).set 4 d4 = [d0, d1, d2, d3, d4] := by
  match cs, hcs with
  | [a, b, c, d, e], _ => rfl
 rw [hc] at e
 refine H_back (x' := z) (T := T) e ?_ hT hS hT'
 exact Ty.O_setCell (Ty.O_setCell (Ty.O_setCell (Ty.O_setCell (Ty.O_setCell hO hTg _) hTg _) hTg _) hTg _) hTg _
theorem Fr.set5 (w : World) (g a0 a1 a2 a3 a4 : Nat) (d0 d1 d2 d3 d4 : Value) : Fr w (((((w.setCell ⟨g, a0, none⟩ d0).setCell ⟨g, a1, none⟩ d1).setCell ⟨g, a2, none⟩ d2).setCell ⟨g, a3, none⟩ d3).setCell ⟨g, a4, none⟩ d4) (fun k => k = g) :=
 (((((Fr.refl w (fun k => k = g)).setCell _ (fun _ => rfl) d0).setCell _ (fun _ => rfl) d1).setCell _ (fun _ => rfl) d2).setCell _ (fun _ => rfl) d3).setCell _ (fun _ => rfl) d4
def PatPost (m : Nat) (w : World) (S : Nat → Prop) (r : Option J) (e : Ending) (w' : World) : Prop :=
 (∃ z cs', r = some z ∧ e = .returned (.tuple #[.agg cs'.toArray, .bool true]) ∧ (tJ m).O w' (fun k => w.heap.size ≤ k ∨ S k) z cs' ∧ Fr w w' S) ∨
 (∃ (a b : Int) (s : ByteArray) (A B : Option Addr) (n c n2 d : Nat), r = none ∧ e = .returned (.tuple #[.agg #[.int .i64 a, .int .i64 b, .string s, .slice A n c, .slice B n2 d], .bool false]) ∧ Fr w w' S)
theorem pat_some {m : Nat} {w w' : World} {S : Nat → Prop} {r : Option J} {e : Ending} {z : J} {cs : List Value} (h1 : r = some z) (h2 : e = .returned (.tuple #[.agg cs.toArray, .bool true])) (h3 : (tJ m).O w' (fun k => w.heap.size ≤ k ∨ S k) z cs) (h4 : Fr w w' S) : PatPost m w S r e w' := .inl ⟨z, cs, h1, h2, h3, h4⟩
theorem pat_none {m : Nat} {w w' : World} {S : Nat → Prop} {r : Option J} {e : Ending} {a b : Int} {s : ByteArray} {A B : Option Addr} {n c n2 d : Nat} (h1 : r = none) (h2 : e = .returned (.tuple #[.agg #[.int .i64 a, .int .i64 b, .string s, .slice A n c, .slice B n2 d], .bool false])) (h4 : Fr w w' S) : PatPost m w S r e w' := .inr ⟨a, b, s, A, B, n, c, n2, d, h1, h2, h4⟩
def Bnd (B : Nat) (j : J) : Prop := ∀ m, bulkJ m j ≤ B
theorem Bnd.list {B : Nat} {j : J} (h : Bnd B j) : j.list.length ≤ B := by
 have h1 := h 1
 simp only [bulkJ] at h1
 omega
theorem Bnd.names {B : Nat} {j : J} (h : Bnd B j) : j.names.length ≤ B ∧ ∀ s ∈ j.names, s.size ≤ B := by
 have h1 := h 1
 simp only [bulkJ, bulkStringS] at h1
 exact ⟨by omega, fun s hs => by have := bulkL_mem ByteArray.size hs; omega⟩
theorem Bnd.elem {B : Nat} {j : J} (h : Bnd B j) {x : J} (hx : x ∈ j.list) : Bnd B x := by
 intro m
 have h1 := h (m + 1)
 have h2 := bulkL_mem (bulkJ m) hx
 simp only [bulkJ] at h1
 omega
def drawWays : List ByteArray := [⟨#[97]⟩, ⟨#[48]⟩, ⟨#[49]⟩, ⟨#[45]⟩, ⟨#[114, 111, 119, 115]⟩, ⟨#[48, 48]⟩, ⟨#[122, 122]⟩]
theorem R_none {w : World} {S : Nat → Prop} {v : Value} {l : List J} {p : Nat} (h : (tJ 0).R 27 w S v l) (hp : p < l.length) : False := by
 obtain ⟨inner, f, _, _, hx⟩ := h
 exact hx p l[p] (by simp [hp])
theorem R_emptyS {W : World} {n : Nat} (hn : W.heap.size = n) : str.R 9 (W.alloc (.cells #[] 9)) (fun k => n ≤ k) (.slice (some ⟨n, 0, none⟩) 0 0) [] := by
 subst hn
 exact R_empty str 9 W
theorem R_str1 {W0 : World} (s : ByteArray) (hs : s.size ≤ 9223372036854775807) : str.R 9 (W0.alloc (.cells #[.string s] 9)) (fun k => k = W0.heap.size) (.slice (some ⟨W0.heap.size, 0, none⟩) 1 1) [s] := by
 refine R_block (xs := [s]) (cap := 1) (heap_alloc_new W0 _) rfl (Nat.le_refl _) (by omega) (by simp [show str.sz = 1 from rfl]) (fun _ => 0) (fun i x h => ?_)
 rcases i with _ | i
 ·simp at h
  subst h
  exact ⟨rfl, hs⟩
 ·simp at h
end Go.Proofs.YtoaifagjdjgcbaaDoor.X
namespace Go.Proofs.YtoaifagjdjgcbaaDoor.X
open Go.Lib
set_option linter.unusedVariables false
set_option linter.unusedSimpArgs false

/-! Replacing -/
def repAll (old new s : List UInt8) : List UInt8 := replaceK old new (count s old) s
theorem index_nil_ (old : List UInt8) (h : old ≠ []) : index [] old = -1 := by
  unfold index
  cases old with
  | nil => exact absurd rfl h
  | cons a t => rfl
theorem index_cons_no {old : List UInt8} {b : UInt8} {l : List UInt8} (h : old.isPrefixOf (b :: l) = false) : index (b :: l) old = if index l old = -1 then -1 else index l old + 1 := by
  rw [index, h]
  by_cases h2 : index l old = -1 <;> simp [h2]
theorem index_pre {old s : List UInt8} (h : old.isPrefixOf s = true) (hne : old ≠ []) : index s old = 0 := by
  cases s with
  | nil => cases old with
    | nil => exact absurd rfl hne
    | cons a t => simp at h
  | cons b l => rw [index, h]; rfl
theorem count_nil_ (old : List UInt8) (h : old ≠ []) : count [] old = 0 := count_miss (index_nil_ old h)
theorem count_cons_no {old : List UInt8} (hne : old ≠ []) {b : UInt8} {l : List UInt8} (h : old.isPrefixOf (b :: l) = false) : count (b :: l) old = count l old := by
  have h1 := index_cons_no h
  by_cases h2 : index l old = -1
  · rw [if_pos h2] at h1
    rw [count_miss h1, count_miss h2]
  · rw [if_neg h2] at h1
    have hg := index_ge l old
    obtain ⟨i, hi⟩ : ∃ i : Nat, index l old = i := ⟨(index l old).toNat, by omega⟩
    rw [hi] at h1
    rw [count_hit hne hi, count_hit hne (i := i + 1) (by rw [h1]; rfl), show i + 1 + old.length = (i + old.length) + 1 by omega, List.drop_succ_cons]
theorem replaceK_cons_no {old new : List UInt8} {b : UInt8} {l : List UInt8} (h : old.isPrefixOf (b :: l) = false) (k : Nat) : replaceK old new k (b :: l) = b :: replaceK old new k l := by
  cases k with
  | zero => rfl
  | succ k =>
    have h1 := index_cons_no h
    by_cases h2 : index l old = -1
    · rw [if_pos h2] at h1
      rw [replaceK, replaceK, h1, h2]; rfl
    · rw [if_neg h2] at h1
      have hg := index_ge l old
      obtain ⟨i, hi⟩ : ∃ i : Nat, index l old = i := ⟨(index l old).toNat, by omega⟩
      rw [hi] at h1
      rw [replaceK_hit old new k l i hi, replaceK_hit old new k (b :: l) (i + 1) (by rw [h1]; rfl), show i + 1 + old.length = (i + old.length) + 1 by omega, List.drop_succ_cons, List.take_succ_cons]
      rfl
theorem repAll_nil (old new : List UInt8) (h : old ≠ []) : repAll old new [] = [] := by
  unfold repAll
  rw [count_nil_ old h]; rfl
theorem repAll_no {old : List UInt8} (new : List UInt8) (hne : old ≠ []) {b : UInt8} {l : List UInt8} (h : old.isPrefixOf (b :: l) = false) : repAll old new (b :: l) = b :: repAll old new l := by
  unfold repAll
  rw [count_cons_no hne h, replaceK_cons_no h]
theorem repAll_hit {old : List UInt8} (new : List UInt8) (hne : old ≠ []) (r : List UInt8) : repAll old new (old ++ r) = new ++ repAll old new r := by
  have hp : old.isPrefixOf (old ++ r) = true := by simp
  have h0 : index (old ++ r) old = ((0 : Nat) : Int) := index_pre hp hne
  unfold repAll
  rw [count_hit hne h0, Nat.add_comm 1, replaceK_hit old new _ _ 0 h0, Nat.zero_add, List.drop_left]
  rfl
theorem replaceAll_eq (s old new : List UInt8) (h : old ≠ new) : replaceAll s old new = repAll old new s := by
  unfold replaceAll replace repAll replaceNum
  rw [if_neg (by simpa using h), if_pos (.inl (by omega))]
def rep1 (c : UInt8) (new s : List UInt8) : List UInt8 := s.flatMap (fun b => if b = c then new else [b])
theorem rep1_eq (c : UInt8) (new : List UInt8) : ∀ s, repAll [c] new s = rep1 c new s
  | [] => repAll_nil _ _ (by simp)
  | b :: l => by
    have ih := rep1_eq c new l
    by_cases hb : b = c
    · subst hb
      rw [show b :: l = [b] ++ l from rfl, repAll_hit new (by simp) l, ih]
      simp [rep1]
    · rw [repAll_no new (by simp) (by simp [List.isPrefixOf]; exact fun h => absurd h.symm hb), ih]
      simp [rep1, hb]
def rep2 (a b c : UInt8) : List UInt8 → List UInt8
  | [] => []
  | [x] => [x]
  | x :: y :: r => if x = a ∧ y = b then c :: rep2 a b c r else x :: rep2 a b c (y :: r)
theorem rep2_cons2 (a b c x y : UInt8) (r : List UInt8) : rep2 a b c (x :: y :: r) = if x = a ∧ y = b then c :: rep2 a b c r else x :: rep2 a b c (y :: r) := by rw [rep2.eq_def]
theorem rep2_eq (a b c : UInt8) : ∀ s, repAll [a, b] [c] s = rep2 a b c s
  | [] => repAll_nil _ _ (by simp)
  | [x] => by rw [repAll_no _ (by simp) (by simp [List.isPrefixOf]), repAll_nil _ _ (by simp)]; simp [rep2]
  | x :: y :: r => by
    by_cases h : x = a ∧ y = b
    · obtain ⟨rfl, rfl⟩ := h
      rw [rep2_cons2, if_pos ⟨rfl, rfl⟩, show x :: y :: r = [x, y] ++ r from rfl, repAll_hit [c] (by simp) r, rep2_eq x y c r]
      rfl
    · rw [repAll_no _ (by simp) (by simp [List.isPrefixOf]; exact fun h1 h2 => h ⟨h1.symm, h2.symm⟩), rep2_eq a b c (y :: r), rep2_cons2, if_neg h]
theorem repAll_length (old new : List UInt8) (h1 : old ≠ []) : ∀ s, (repAll old new s).length ≤ s.length * (new.length + 1) := by
  intro s
  generalize hn : s.length = n
  induction n using Nat.strongRecOn generalizing s with
  | _ n ih =>
    cases s with
    | nil => rw [repAll_nil _ _ h1]; simp
    | cons b l =>
      by_cases hp : old.isPrefixOf (b :: l) = true
      · obtain ⟨r, hr⟩ := List.isPrefixOf_iff_prefix.1 hp
        have hl : old.length + r.length = n := by rw [← hn, ← hr]; simp
        have ho : 0 < old.length := List.length_pos_iff.2 h1
        rw [← hr, repAll_hit new h1 r, List.length_append]
        have := ih r.length (by omega) r rfl
        have h2 : (r.length + 1) * (new.length + 1) ≤ n * (new.length + 1) := Nat.mul_le_mul_right _ (by omega)
        rw [Nat.add_mul] at h2
        omega
      · rw [Bool.not_eq_true] at hp
        rw [repAll_no new h1 hp]
        have := ih l.length (by rw [← hn]; simp) l rfl
        have h2 : (l.length + 1) * (new.length + 1) = n * (new.length + 1) := by rw [← hn]; simp
        rw [Nat.add_mul] at h2
        simp only [List.length_cons]
        omega

/-! Ways -/
def esc1 (b : UInt8) : List UInt8 := if b = 126 then [126, 48] else if b = 47 then [126, 49] else [b]
def esc (t : List UInt8) : List UInt8 := t.flatMap esc1
def wayT (way : List (List UInt8)) : List UInt8 := way.flatMap (fun t => 47 :: esc t)
theorem esc_eq (t : List UInt8) : rep1 47 [126, 49] (rep1 126 [126, 48] t) = esc t := by
  induction t with
  | nil => rfl
  | cons b l ih =>
    simp only [rep1, esc, List.flatMap_cons, List.flatMap_append] at ih ⊢
    rw [ih]
    congr 1
    unfold esc1
    by_cases h : b = 126
    · simp [h]
    · by_cases h2 : b = 47
      · simp [h, h2]
      · simp [h, h2]
theorem esc_cons (b : UInt8) (t : List UInt8) : esc (b :: t) = esc1 b ++ esc t := rfl
theorem esc_append (a b : List UInt8) : esc (a ++ b) = esc a ++ esc b := by simp [esc]
theorem esc_length (t : List UInt8) : (esc t).length ≤ 2 * t.length := by
  induction t with
  | nil => simp [esc]
  | cons b l ih =>
    rw [esc_cons, List.length_append]
    have : (esc1 b).length ≤ 2 := by
      unfold esc1
      split
      · simp
      · split <;> simp
    simp only [List.length_cons]
    omega
theorem esc_no (t : List UInt8) : 47 ∉ esc t := by
  induction t with
  | nil => simp [esc]
  | cons b l ih =>
    rw [esc_cons, List.mem_append]
    rintro (h | h)
    · unfold esc1 at h
      split at h
      · simp at h
      · split at h
        · simp at h
        · rename_i h2
          simp only [List.mem_singleton] at h
          exact h2 h.symm
    · exact ih h
def unesc (t : List UInt8) : List UInt8 := rep2 126 48 126 (rep2 126 49 47 t)
theorem unesc_eq (t : List UInt8) : replaceAll (replaceAll t [126, 49] [47]) [126, 48] [126] = unesc t := by
  rw [replaceAll_eq _ _ _ (by simp), replaceAll_eq _ _ _ (by simp), rep2_eq, rep2_eq]; rfl
theorem escw_eq (t : List UInt8) : replaceAll (replaceAll t [126] [126, 48]) [47] [126, 49] = esc t := by
  rw [replaceAll_eq _ _ _ (by simp), replaceAll_eq _ _ _ (by simp), rep1_eq, rep1_eq, esc_eq]
def esc0 (t : List UInt8) : List UInt8 := t.flatMap (fun b => if b = 126 then [126, 48] else [b])
theorem rep2_skip (a b c x : UInt8) (r : List UInt8) (h : x ≠ a) : rep2 a b c (x :: r) = x :: rep2 a b c r := by
  cases r with
  | nil => rfl
  | cons y r => rw [rep2_cons2, if_neg (fun h2 => h h2.1)]
theorem unesc1 : ∀ t, rep2 126 49 47 (esc t) = esc0 t
  | [] => rfl
  | b :: t => by
    rw [esc_cons]
    unfold esc1
    by_cases h : b = 126
    · subst h
      rw [if_pos rfl]
      show rep2 126 49 47 (126 :: 48 :: esc t) = _
      rw [rep2_cons2, if_neg (by simp), rep2_skip _ _ _ _ _ (by decide), unesc1 t]
      simp [esc0]
    · rw [if_neg h]
      by_cases h2 : b = 47
      · subst h2
        rw [if_pos rfl]
        show rep2 126 49 47 (126 :: 49 :: esc t) = _
        rw [rep2_cons2, if_pos ⟨rfl, rfl⟩, unesc1 t]
        simp [esc0]
      · rw [if_neg h2]
        show rep2 126 49 47 (b :: esc t) = _
        rw [rep2_skip _ _ _ _ _ h, unesc1 t]
        simp [esc0, h]
theorem unesc2 : ∀ t, rep2 126 48 126 (esc0 t) = t
  | [] => rfl
  | b :: t => by
    by_cases h : b = 126
    · subst h
      show rep2 126 48 126 (126 :: 48 :: esc0 t) = _
      rw [rep2_cons2, if_pos ⟨rfl, rfl⟩, unesc2 t]
    · have : esc0 (b :: t) = b :: esc0 t := by simp [esc0, h]
      rw [this, rep2_skip _ _ _ _ _ h, unesc2 t]
theorem unesc_esc (t : List UInt8) : unesc (esc t) = t := by unfold unesc; rw [unesc1, unesc2]

/-! Cutting -/
def spl (c : UInt8) : List UInt8 → List (List UInt8)
  | [] => [[]]
  | b :: l => if b = c then [] :: spl c l else match spl c l with
    | h :: t => (b :: h) :: t
    | [] => []
theorem splitK_cons_no {c b : UInt8} (hb : b ≠ c) (l : List UInt8) (k : Nat) : splitK [c] 0 k (b :: l) = match splitK [c] 0 k l with
    | h :: t => (b :: h) :: t
    | [] => [] := by
  cases k with
  | zero => rfl
  | succ k =>
    have h1 := index_cons_no (old := [c]) (b := b) (l := l) (by simp [List.isPrefixOf]; exact fun h => absurd h.symm hb)
    by_cases h2 : index l [c] = -1
    · rw [if_pos h2] at h1
      rw [splitK, splitK, h1, h2]; rfl
    · rw [if_neg h2] at h1
      have hg := index_ge l [c]
      obtain ⟨i, hi⟩ : ∃ i : Nat, index l [c] = i := ⟨(index l [c]).toNat, by omega⟩
      have h3 : index (b :: l) [c] = ((i + 1 : Nat) : Int) := by rw [h1, hi]; rfl
      rw [splitK, splitK, h3, hi, if_neg (by simp <;> omega), if_neg (by simp <;> omega)]
      simp
theorem split_one (c : UInt8) : ∀ s, split s [c] = spl c s
  | [] => by
    unfold split
    rw [count_nil_ [c] (by simp)]; rfl
  | b :: l => by
    have ih := split_one c l
    unfold split at ih ⊢
    by_cases hb : b = c
    · subst hb
      have h0 : index (b :: l) [b] = ((0 : Nat) : Int) := index_pre (by simp [List.isPrefixOf]) (by simp)
      rw [count_hit (by simp) h0, Nat.add_comm 1, splitK, h0, if_neg (by simp)]
      simp only [spl, if_pos]
      simpa using ih
    · rw [count_cons_no (by simp) (by simp [List.isPrefixOf]; exact fun h => absurd h.symm hb), splitK_cons_no hb, ih, spl, if_neg hb]
theorem spl_none {c : UInt8} : ∀ {x : List UInt8}, c ∉ x → spl c x = [x]
  | [], _ => rfl
  | b :: l, h => by
    simp only [List.mem_cons, not_or] at h
    rw [spl, if_neg (fun e => h.1 e.symm), spl_none h.2]
theorem spl_app {c : UInt8} : ∀ {x : List UInt8} (r : List UInt8), c ∉ x → spl c (x ++ c :: r) = x :: spl c r
  | [], r, _ => by simp [spl]
  | b :: l, r, h => by
    simp only [List.mem_cons, not_or] at h
    rw [List.cons_append, spl, if_neg (fun e => h.1 e.symm), spl_app r h.2]
theorem spl_way (t : List UInt8) : ∀ w : List (List UInt8), spl 47 (esc t ++ wayT w) = esc t :: w.map esc := by
  intro w
  induction w generalizing t with
  | nil => simp [wayT]; exact spl_none (esc_no t)
  | cons t2 w ih =>
    have : wayT (t2 :: w) = 47 :: (esc t2 ++ wayT w) := by simp [wayT]
    rw [this, spl_app _ (esc_no t), ih t2]; rfl

/-! The way of a text -/
def wayI (s : List UInt8) : Option (List (List UInt8)) :=
  if s = [] then some [] else
    let w := (split s [47]).tail.map unesc
    if 6 < w.length ∨ wayT w ≠ s then none else some w
def dec : List UInt8 → List (List UInt8) → List UInt8 → Option (List (List UInt8))
  | [], out, now => some (out ++ [now])
  | c :: r, out, now =>
    if c = 47 then dec r (out ++ [now]) [] else
    if c = 126 then (match r with
      | [] => none
      | d :: r2 => if d = 48 then dec r2 out (now ++ [126]) else if d = 49 then dec r2 out (now ++ [47]) else none)
    else dec r out (now ++ [c])
def cut6 (o : Option (List (List UInt8))) : Option (List (List UInt8)) := match o with
  | some w => if 6 < w.length then none else some w
  | none => none
def wayS : List UInt8 → Option (List (List UInt8))
  | [] => some []
  | c :: r => if c = 47 then cut6 (dec r [] []) else none
theorem dec_cons (c : UInt8) (r : List UInt8) (out : List (List UInt8)) (now : List UInt8) : dec (c :: r) out now = if c = 47 then dec r (out ++ [now]) [] else if c = 126 then (match r with
      | [] => none
      | d :: r2 => if d = 48 then dec r2 out (now ++ [126]) else if d = 49 then dec r2 out (now ++ [47]) else none) else dec r out (now ++ [c]) := by
  rw [dec.eq_def]
theorem dec_esc (r : List UInt8) (out : List (List UInt8)) : ∀ (t now : List UInt8), dec (esc t ++ r) out now = dec r out (now ++ t)
  | [], now => by simp [esc]
  | b :: t, now => by
    rw [esc_cons, List.append_assoc]
    unfold esc1
    by_cases h : b = 126
    · subst h
      rw [if_pos rfl]
      show dec (126 :: 48 :: (esc t ++ r)) out now = _
      rw [dec_cons, if_neg (by decide), if_pos rfl]
      show (if (48 : UInt8) = 48 then dec (esc t ++ r) out (now ++ [126]) else _) = _
      rw [if_pos rfl, dec_esc r out t]; simp
    · rw [if_neg h]
      by_cases h2 : b = 47
      · subst h2
        rw [if_pos rfl]
        show dec (126 :: 49 :: (esc t ++ r)) out now = _
        rw [dec_cons, if_neg (by decide), if_pos rfl]
        show (if (49 : UInt8) = 48 then _ else if (49 : UInt8) = 49 then dec (esc t ++ r) out (now ++ [47]) else _) = _
        rw [if_neg (by decide), if_pos rfl, dec_esc r out t]; simp
      · rw [if_neg h2]
        show dec (b :: (esc t ++ r)) out now = _
        rw [dec_cons, if_neg h2, if_neg h, dec_esc r out t]; simp
theorem wayT_cons (t : List UInt8) (w : List (List UInt8)) : wayT (t :: w) = 47 :: (esc t ++ wayT w) := by simp [wayT]
theorem wayT_append (a b : List (List UInt8)) : wayT (a ++ b) = wayT a ++ wayT b := by simp [wayT]
theorem dec_way : ∀ (w out : List (List UInt8)) (now : List UInt8), dec (wayT w) out now = some (out ++ now :: w)
  | [], out, now => rfl
  | t :: w, out, now => by
    rw [wayT_cons, dec_cons, if_pos rfl, dec_esc, List.nil_append, dec_way w]; simp
theorem dec_sound : ∀ (n : Nat) (r : List UInt8) (out : List (List UInt8)) (now : List UInt8) (w : List (List UInt8)), r.length ≤ n → dec r out now = some w → wayT out ++ 47 :: (esc now ++ r) = wayT w
  | n, [], out, now, w, _, h => by
    rw [dec] at h
    injection h with h
    rw [← h, wayT_append, wayT_cons]; simp [wayT]
  | n + 1, c :: r, out, now, w, hn, h => by
    simp only [List.length_cons] at hn
    rw [dec_cons] at h
    by_cases h1 : c = 47
    · rw [if_pos h1] at h
      have := dec_sound n r _ _ w (by omega) h
      rw [← this, wayT_append, wayT_cons, h1]; simp [wayT, esc]
    · rw [if_neg h1] at h
      by_cases h2 : c = 126
      · rw [if_pos h2] at h
        cases r with
        | nil => simp at h
        | cons d r =>
          simp only [List.length_cons] at hn
          simp only at h
          by_cases h3 : d = 48
          · rw [if_pos h3] at h
            have := dec_sound n r _ _ w (by omega) h
            rw [← this, esc_append, h2, h3]; simp [esc, esc1]
          · rw [if_neg h3] at h
            by_cases h4 : d = 49
            · rw [if_pos h4] at h
              have := dec_sound n r _ _ w (by omega) h
              rw [← this, esc_append, h2, h4]; simp [esc, esc1]
            · rw [if_neg h4] at h; cases h
      · rw [if_neg h2] at h
        have := dec_sound n r _ _ w (by omega) h
        rw [← this, esc_append]; simp [esc, esc1, h1, h2]
theorem wayS_sound {s : List UInt8} {w : List (List UInt8)} (h : wayS s = some w) : s = wayT w ∧ w.length ≤ 6 := by
  cases s with
  | nil => rw [wayS] at h; injection h with h; subst h; exact ⟨rfl, by simp⟩
  | cons c r =>
    rw [wayS] at h
    split at h
    · rename_i hc
      unfold cut6 at h
      split at h
      · rename_i w2 h2
        split at h
        · cases h
        · injection h with h; subst h
          have := dec_sound _ r [] [] w2 (Nat.le_refl _) h2
          refine ⟨?_, by omega⟩
          rw [← this, hc]; simp [wayT, esc]
      · cases h
    · cases h
theorem wayS_way (w : List (List UInt8)) (h : w.length ≤ 6) : wayS (wayT w) = some w := by
  cases w with
  | nil => rfl
  | cons t w =>
    rw [wayT_cons, wayS, if_pos rfl, dec_esc, dec_way]
    simp only [cut6, List.nil_append]
    rw [if_neg (by simpa using h)]
theorem wayI_way (w : List (List UInt8)) (h : w.length ≤ 6) : wayI (wayT w) = some w := by
  cases w with
  | nil => rfl
  | cons t w =>
    have hs : (split (wayT (t :: w)) [47]).tail.map unesc = t :: w := by
      rw [split_one, wayT_cons]
      have : spl 47 (47 :: (esc t ++ wayT w)) = [] :: spl 47 (esc t ++ wayT w) := by rw [spl, if_pos rfl]
      rw [this, List.tail_cons, spl_way]
      simp only [List.map_cons, List.map_map, unesc_esc]
      congr 1
      rw [show unesc ∘ esc = id from funext unesc_esc]; simp
    unfold wayI
    rw [if_neg (by rw [wayT_cons]; simp)]
    simp only [hs]
    rw [if_neg (fun e => by
      rcases e with e | e
      · omega
      · exact e rfl)]
theorem wayI_sound {s : List UInt8} {w : List (List UInt8)} (h : wayI s = some w) : s = wayT w ∧ w.length ≤ 6 := by
  unfold wayI at h
  split at h
  · rename_i hs
    injection h with h; subst h; exact ⟨hs, by simp⟩
  · simp only at h
    split at h
    · cases h
    · rename_i h2
      injection h with h
      rw [h] at h2
      have h3 : ¬ 6 < w.length := fun e => h2 (.inl e)
      exact ⟨Classical.byContradiction fun e => h2 (.inr (fun e2 => e e2.symm)), by omega⟩
theorem way_eq (s : List UInt8) : wayI s = wayS s := by
  cases h : wayS s with
  | some w =>
    obtain ⟨rfl, hl⟩ := wayS_sound h
    exact wayI_way w hl
  | none =>
    cases h2 : wayI s with
    | none => rfl
    | some w =>
      obtain ⟨rfl, hl⟩ := wayI_sound h2
      rw [wayS_way w hl] at h; cases h
end Go.Proofs.YtoaifagjdjgcbaaDoor.X
namespace Go.Proofs.YtoaifagjdjgcbaaDoor.X
open Go.RowKit Go.Sort
set_option linter.unusedVariables false
set_option linter.unusedSimpArgs false
open Ty
def wayB (l : List ByteArray) : List UInt8 := wayT (l.map (·.data.toList))
theorem wayB_cons (x : ByteArray) (l : List ByteArray) : wayB (x :: l) = 47 :: (esc x.data.toList ++ wayB l) := wayT_cons _ _
theorem wayB_append (a b : List ByteArray) : wayB (a ++ b) = wayB a ++ wayB b := by unfold wayB; rw [List.map_append, wayT_append]
theorem wayB_take (l : List ByteArray) (k : Nat) (hk : k < l.length) : wayB (l.take (k + 1)) = wayB (l.take k) ++ 47 :: esc l[k].data.toList := by
 rw [List.take_succ_eq_append_getElem hk, wayB_append, wayB_cons]; simp [wayB, wayT]
theorem wayB_len : ∀ l : List ByteArray, (wayB l).length ≤ 2 * bulkStringS l
 | [] => by simp [wayB, wayT]
 | x :: l => by
  have h1 := wayB_len l
  have h2 := esc_length x.data.toList
  rw [show x.data.toList.length = x.size by simp] at h2
  rw [wayB_cons]
  simp only [bulkStringS, bulkL, List.length_cons, List.length_append] at h1 ⊢
  omega
theorem wayB_len_take (l : List ByteArray) (k : Nat) : (wayB (l.take k)).length ≤ 2 * bulkStringS l := by
 have h1 := wayB_len l
 have h2 := congrArg (fun x => (wayB x).length) (List.take_append_drop k l)
 simp only [wayB_append, List.length_append] at h2
 omega
theorem esc1_a (b : UInt8) (h : (b.toNat : Int) = 126) : esc1 b = [126, 48] := by
 have : b = 126 := UInt8.toNat_inj.1 (by simpa using (by omega : b.toNat = 126))
 rw [this]; rfl
theorem esc1_b (b : UInt8) (h : (b.toNat : Int) = 47) : esc1 b = [126, 49] := by
 have : b = 47 := UInt8.toNat_inj.1 (by simpa using (by omega : b.toNat = 47))
 rw [this]; rfl
theorem esc1_c (b : UInt8) (h : ¬ (b.toNat : Int) = 126) (h2 : ¬ (b.toNat : Int) = 47) : esc1 b = [b] := by
 unfold esc1
 rw [if_neg (fun e => h (by rw [e]; rfl)), if_neg (fun e => h2 (by rw [e]; rfl))]
theorem esc_take (l : List UInt8) (k : Nat) (hk : k < l.length) : esc (l.take (k + 1)) = esc (l.take k) ++ esc1 l[k] := by
 rw [List.take_succ_eq_append_getElem hk, esc_append]; simp [esc]
theorem esc_len_take (l : List UInt8) (k : Nat) : (esc (l.take k)).length ≤ 2 * l.length := by
 have := esc_length (l.take k)
 have : (l.take k).length ≤ l.length := by simp; omega
 omega
theorem strs_size (l : List ByteArray) (k : Nat) (hk : k < l.length) : l[k].size ≤ bulkStringS l := by
 have := bulkL_mem ByteArray.size (List.getElem_mem hk)
 simp only [bulkStringS]; omega
theorem Lib_replaceAll_eq (s old new : List UInt8) (h : old ≠ new) : Lib.replaceAll s old new = repAll old new s := replaceAll_eq s old new h
set_option maxRecDepth 100000 in
theorem impl_WayText (A : Option Addr) (c : Nat) (l : List ByteArray) (w : World) (hr : str.C w A l) (hl : bulkStringS l ≤ 1048576) (hM : EnvM w) :
  Calls Tryd.prog 31 #[.slice A l.length c] w fun e w' => e = .returned (.string ⟨(wayB l).toArray⟩) ∧ Below w.heap.size w w' := by
 have hm := hr.1
 have HC := Hd.mk hr; have HM := Hd.mk hM; have HL := Hd.mk hl; clear hr hM hl
 go_enter Tryd.func31, Tryd.ntmps31
 go_wp2_with fail
 go_loopw [3, 8] (fun o i wr => ∃ (k : Nat) (s : ByteArray), k ≤ l.length ∧ i = .int .i64 k ∧ o = .string s ∧ Hd (s.data.toList = wayB (l.take k)) ∧ Hd (Below w.heap.size w wr)) (fun _ i _ => l.length - (intOf i).toNat)
 case atStart => exact ⟨0, ⟨#[]⟩, Nat.zero_le _, rfl, rfl, ⟨rfl⟩, ⟨Below.refl _ _⟩⟩
 case round =>
  obtain ⟨k, s, hk, rfl, rfl, HS, hB⟩ := hrel
  have hss : s.size ≤ 2097152 := by
   have h1 := wayB_len_take l k
   have h2 := HL.out
   rw [← HS.out, show s.data.toList.length = s.size by simp] at h1
   omega
  by_cases hlt : k < l.length
  ·obtain ⟨ad, rfl, x0, hsz⟩ := C_str_at HC.out hB.out k hlt
   have hsx : l[k].size ≤ 1048576 := Nat.le_trans (strs_size l k hlt) HL.out
   go_wp2_with fail
   obtain ⟨m0, hm0⟩ := HM.out.below hB.out
   have hq1 := Lib.countB_le ⟨#[126]⟩ (by decide) _ l[k] (Nat.le_refl _)
   refine (Tryd.strings_ReplaceAll l[k] ⟨#[126]⟩ ⟨#[126, 48]⟩ m0 wr (by omega) hm0 (by decide) (by rw [show (⟨#[126, 48]⟩ : ByteArray).size = 2 from rfl]; omega)).mono ?_
   rintro e w1 ⟨rfl, hX⟩
   replace hB := hB.th hX; clear hX
   obtain ⟨t1, ht1⟩ : ∃ t : ByteArray, t = ⟨(Lib.replaceAll l[k].data.toList (⟨#[126]⟩ : ByteArray).data.toList (⟨#[126, 48]⟩ : ByteArray).data.toList).toArray⟩ := ⟨_, rfl⟩
   rw [← ht1]
   have HT1 := Hd.mk (show t1.data.toList = rep1 126 [126, 48] l[k].data.toList by
    rw [ht1, ← rep1_eq, ← Lib_replaceAll_eq _ _ _ (by simp)])
   have hs1 : t1.size ≤ 3145728 := by
    have h1 := repAll_length [126] [126, 48] (by simp) l[k].data.toList
    rw [rep1_eq, ← HT1.out, show t1.data.toList.length = t1.size by simp, show l[k].data.toList.length = l[k].size by simp] at h1
    simp only [List.length_cons, List.length_nil] at h1
    omega
   clear ht1 hq1 hm0
   go_wp2_with fail
   obtain ⟨m1, hm1⟩ := HM.out.below hB.out
   have hq1 := Lib.countB_le ⟨#[47]⟩ (by decide) _ t1 (Nat.le_refl _)
   refine (Tryd.strings_ReplaceAll t1 ⟨#[47]⟩ ⟨#[126, 49]⟩ m1 _ (by omega) hm1 (by decide) (by rw [show (⟨#[126, 49]⟩ : ByteArray).size = 2 from rfl]; omega)).mono ?_
   rintro e w2 ⟨rfl, hX⟩
   replace hB := hB.th hX; clear hX
   obtain ⟨t2, ht2⟩ : ∃ t : ByteArray, t = ⟨(Lib.replaceAll t1.data.toList (⟨#[47]⟩ : ByteArray).data.toList (⟨#[126, 49]⟩ : ByteArray).data.toList).toArray⟩ := ⟨_, rfl⟩
   rw [← ht2]
   have HT2 := Hd.mk (show t2.data.toList = esc l[k].data.toList by
    rw [ht2, ← esc_eq, ← HT1.out, ← rep1_eq, ← Lib_replaceAll_eq _ _ _ (by simp)])
   have hs2 : t2.size ≤ 2097152 := by
    have h1 := esc_length l[k].data.toList
    rw [← HT2.out, show t2.data.toList.length = t2.size by simp, show l[k].data.toList.length = l[k].size by simp] at h1
    omega
   clear ht2 hq1 hm1
   have HS2 := Hd.mk (show (s ++ ((⟨#[47]⟩ : ByteArray) ++ t2)).data.toList = wayB (l.take (k + 1)) by
    rw [wayB_take l k hlt, ← HS.out, ← HT2.out]; simp)
   go_wp2_with fail
   go_roundw
   case rel => exact ⟨k + 1, _, by omega, by go_num, rfl, HS2, hB⟩
   case measure => simp [intOf]; omega
  ·obtain rfl : k = l.length := by omega
   go_wp2_with fail
   go_ret
   refine ⟨?_, hB.out⟩
   have := HS.out
   rw [List.take_length] at this
   rw [← this]; rfl
set_option maxRecDepth 100000 in
theorem spec_WayText (A : Option Addr) (c : Nat) (l : List ByteArray) (w : World) (hr : str.C w A l) (hl : bulkStringS l ≤ 1048576) :
  Calls Tryd.prog 33 #[.slice A l.length c] w fun e w' => e = .returned (.string ⟨(wayB l).toArray⟩) ∧ Below w.heap.size w w' := by
 have hm := hr.1
 have HC := Hd.mk hr; have HL := Hd.mk hl; clear hr hl
 have HE := Hd.mk (buf_empty w w.heap.size (Nat.le_refl _))
 go_enter Tryd.func33, Tryd.ntmps33
 go_wp2_with fail
 go_loopw [3, 4] (fun o i wr => ∃ (k : Nat) (v : Value) (b : List UInt8), k ≤ l.length ∧ i = .int .i64 k ∧ o = v ∧ Hd (Buf wr w.heap.size v b) ∧ Hd (b = wayB (l.take k)) ∧ Hd (Below w.heap.size w wr)) (fun _ i _ => l.length - (intOf i).toNat)
 case atStart => exact ⟨0, _, [], Nat.zero_le _, rfl, rfl, HE, ⟨rfl⟩, ⟨below_alloc (Below.refl _ _) _⟩⟩
 case round =>
  obtain ⟨k, v, b, hk, rfl, rfl, HV, HS, hB⟩ := hrel
  have hbl : b.length ≤ 2097152 := by
   have h1 := wayB_len_take l k
   have h2 := HL.out
   rw [← HS.out] at h1
   omega
  by_cases hlt : k < l.length
  ·have hsx : l[k].size ≤ 1048576 := Nat.le_trans (strs_size l k hlt) HL.out
   obtain ⟨ad, rfl, x0, hsz⟩ := C_str_at HC.out hB.out k hlt
   have hBz := hB.out.size
   go_wp2_with (at_builtin; refine append_buf rfl rfl [47] _ rfl rfl _ _ rfl rfl rfl HV.out hBz (by simp; omega) (fun v1 w1 hv1 hf1 => ?_))
   have HV1 := Hd.mk hv1; have hB1 := Hd.mk (below_frS hB.out hf1 (fun k h => h)); clear hv1 hf1 HV hB hBz x0
   have HES := Hd.mk (show b ++ [47] = wayB (l.take k) ++ 47 :: esc (l[k].data.toList.take 0) by rw [HS.out]; rfl)
   clear hbl
   go_loopw [3, 5] (fun o i wr2 => ∃ (q : Nat) (v2 : Value) (b2 : List UInt8), q ≤ l[k].size ∧ i = .int .i64 q ∧ o = v2 ∧ Hd (Buf wr2 w.heap.size v2 b2) ∧ Hd (b2 = wayB (l.take k) ++ 47 :: esc (l[k].data.toList.take q)) ∧ Hd (Below w.heap.size w wr2)) (fun _ i _ => l[k].size - (intOf i).toNat)
   case atStart => exact ⟨0, v1, _, Nat.zero_le _, rfl, rfl, HV1, HES, hB1⟩
   case round =>
    obtain ⟨q, v2, b2, hq, rfl, rfl, HV2, HS2, hB2⟩ := hrel
    have hbl2 : b2.length ≤ 6291456 := by
     have h1 := wayB_len_take l k
     have h2 := HL.out
     have h3 := esc_len_take l[k].data.toList q
     rw [show l[k].data.toList.length = l[k].size by simp] at h3
     rw [HS2.out, List.length_append, List.length_cons]
     omega
    obtain ⟨ad2, hA2, x0, hsz⟩ := C_str_at HC.out hB2.out k hlt
    obtain rfl : ad = ad2 := by injection hA2
    have hBz := hB2.out.size
    by_cases hq2 : q < l[k].size
    ·have hql : q < l[k].data.toList.length := by simpa using hq2
     have HT := Hd.mk (esc_take l[k].data.toList q hql)
     have e1 : l[k].data.toList[q] = l[k][q] := rfl
     by_cases h126 : (l[k][q].toNat : Int) = 126
     ·have HT2 := Hd.mk (esc1_a _ h126)
      go_wp2_with (at_builtin; refine append_buf rfl rfl [126, 48] _ rfl rfl _ _ rfl rfl rfl HV2.out hBz (by simp; omega) (fun v3 w3 hv3 hf3 => ?_))
      have HV3 := Hd.mk hv3; have hB3 := Hd.mk (below_frS hB2.out hf3 (fun k h => h)); clear hv3 hf3
      have HS3 := Hd.mk (show b2 ++ [126, 48] = wayB (l.take k) ++ 47 :: esc (l[k].data.toList.take (q + 1)) by rw [HT.out, e1, HT2.out, HS2.out]; simp)
      go_wp2_with fail
      go_roundw
      case rel => exact ⟨q + 1, v3, _, by omega, by go_num, rfl, HV3, HS3, hB3⟩
      case measure => simp [intOf]; omega
     by_cases h47 : (l[k][q].toNat : Int) = 47
     ·have HT2 := Hd.mk (esc1_b _ h47)
      go_wp2_with (at_builtin; refine append_buf rfl rfl [126, 49] _ rfl rfl _ _ rfl rfl rfl HV2.out hBz (by simp; omega) (fun v3 w3 hv3 hf3 => ?_))
      have HV3 := Hd.mk hv3; have hB3 := Hd.mk (below_frS hB2.out hf3 (fun k h => h)); clear hv3 hf3
      have HS3 := Hd.mk (show b2 ++ [126, 49] = wayB (l.take k) ++ 47 :: esc (l[k].data.toList.take (q + 1)) by rw [HT.out, e1, HT2.out, HS2.out]; simp)
      go_wp2_with fail
      go_roundw
      case rel => exact ⟨q + 1, v3, _, by omega, by go_num, rfl, HV3, HS3, hB3⟩
      case measure => simp [intOf]; omega
     ·have HT2 := Hd.mk (esc1_c _ h126 h47)
      go_wp2_with (at_builtin; refine append_buf rfl rfl [l[k][q]] _ rfl rfl _ _ rfl rfl rfl HV2.out hBz (by simp; omega) (fun v3 w3 hv3 hf3 => ?_))
      have HV3 := Hd.mk hv3; have hB3 := Hd.mk (below_frS hB2.out hf3 (fun k h => h)); clear hv3 hf3
      have HS3 := Hd.mk (show b2 ++ [l[k][q]] = wayB (l.take k) ++ 47 :: esc (l[k].data.toList.take (q + 1)) by rw [HT.out, e1, HT2.out, HS2.out]; simp)
      go_wp2_with fail
      go_roundw
      case rel => exact ⟨q + 1, v3, _, by omega, by go_num, rfl, HV3, HS3, hB3⟩
      case measure => simp [intOf]; omega
    ·obtain rfl : q = l[k].size := by omega
     have HS3 := Hd.mk (show b2 = wayB (l.take (k + 1)) by
      rw [wayB_take l k hlt, HS2.out, show l[k].size = l[k].data.toList.length by simp, List.take_length])
     go_wp2_with fail
     go_roundw
     case rel =>
      exact ⟨k + 1, _, b2, by omega, by go_num, rfl, HV2, HS3, hB2⟩
     case measure => simp [intOf]; omega
  ·obtain rfl : k = l.length := by omega
   obtain ⟨A2, c2, rfl, hC2⟩ := HV.out.form
   have hcv := conv_buf (c := c2) hC2
   go_wp2_with fail
   go_ret
   refine ⟨?_, hB.out⟩
   have := HS.out
   rw [List.take_length] at this
   rw [this]; rfl
def drawWT : List ByteArray := [⟨#[97]⟩, ⟨#[]⟩, ⟨#[97, 47, 98]⟩, ⟨#[126]⟩, ⟨#[126, 49]⟩, ⟨#[48]⟩, ⟨#[114, 111, 119, 115]⟩]
def drawWR : List ByteArray := [⟨#[126]⟩, ⟨#[47]⟩, ⟨#[120]⟩, ⟨#[126, 50]⟩, ⟨#[126, 48]⟩, ⟨#[47, 47, 47, 47, 47, 47, 47, 47]⟩]
def drawIX : List ByteArray := [⟨#[]⟩, ⟨#[48]⟩, ⟨#[55]⟩, ⟨#[49, 50]⟩, ⟨#[57, 57, 57]⟩, ⟨#[49, 48, 48, 48]⟩, ⟨#[48, 48, 55]⟩, ⟨#[45, 49]⟩, ⟨#[97]⟩, ⟨#[49, 97]⟩]
set_option maxHeartbeats 8000000 in
set_option maxRecDepth 100000 in
theorem spec_DrawWayText (A : Option Addr) (c : Nat) (bs : List Int) (w : World) (hr : u8.C w A bs) (hbs : bs.length ≤ 1048576) :
  Calls Tryd.prog 30 #[.slice A bs.length c] w fun e w' => ∃ (v : Value) (l : List ByteArray), e = .returned v ∧ str.R 9 w' (fun k => w.heap.size ≤ k) v l ∧ l.length ≤ 4 ∧ (∀ s ∈ l, s.size ≤ 60) ∧ Below w.heap.size w w' := by
 have HBS := Hd.mk hr; clear hr
 have hB := Hd.mk (Below.refl w.heap.size w)
 go_enter Tryd.func30, Tryd.ntmps30
 go_wp2_with fail
 have hz_ := Nat.le_refl w.heap.size
 have z1 := Hd.mk hz_; clear hz_
 refine (spec_l1New _ _ bs w w HBS.out hbs hB.out).mono ?_
 rintro e w1 ⟨g, rfl, hge, hC1, hX⟩
 have hG := Hd.mk (show w.heap.size ≤ g ∧ g < w1.heap.size from ⟨hge, hC1.lt⟩)
 have hC := Hd.mk hC1; clear hC1 hge
 have hB := hB.th hX
 have hz_ := hX.size
 clear hX
 have z2 := Hd.mk hz_; clear hz_
 go_wp2_with fail
 go_loopw [4, 5] (fun o i wr => ∃ (k : Nat) (vv : Value) (way : List ByteArray), k ≤ 4 ∧ i = .int .i64 k ∧ vv = o ∧ Hd (way.length = k) ∧ Hd (∀ s ∈ way, s.size ≤ 60) ∧ Hd (str.R 9 wr (fun q => w.heap.size ≤ q ∧ q ≠ g) vv way) ∧ Hd (Cur w wr g) ∧ Hd (Below w.heap.size w wr) ∧ Hd (g < wr.heap.size)) (fun _ i _ => 4 - (intOf i).toNat)
 case atStart => exact ⟨0, _, [], Nat.zero_le _, rfl, rfl, ⟨rfl⟩, ⟨by simp⟩, ⟨R_mono (fun q h => by have hg_ := hG.out; have h : w1.heap.size ≤ q := h; exact ⟨by omega, by omega⟩) (R_emptyS rfl)⟩, ⟨hC.out.below (below_alloc (Below.refl _ _) _)⟩, ⟨below_alloc hB.out _⟩, ⟨by have hg_ := hG.out; simp; omega⟩⟩
 case round =>
  clear hC hB
  obtain ⟨k, vv, way, hk4, rfl, rfl, HLW, HWS, hWy, hC, hB, hzw⟩ := hrel
  have hk0 : (0 : Int) ≤ (k : Int) := by omega
  have hGG := Hd.mk hG.out.1
  obtain ⟨AW, cW, hvW, hcW, _⟩ := R_C hWy.out
  subst hvW
  obtain ⟨n, hn⟩ : ∃ z, z = way.length := ⟨_, rfl⟩
  have hWy0 := hWy.out
  rw [← hn] at hWy0 hcW ⊢
  replace hWy := Hd.mk hWy0; clear hWy0
  have hn4 : n ≤ 4 := by have := HLW.out; omega
  have HLWK := Hd.mk HLW.out
  replace HLW := Hd.mk hn.symm
  have HNK := Hd.mk (show n = k by rw [hn]; exact HLWK.out); clear hn
  go_wp2_with fail
  refine (spec_l1Below 5 w _ g hC.out).mono ?_
  rintro e w2 ⟨y, rfl, y0, y1, _, hC1, hX⟩
  have hC := Hd.mk hC1; clear hC1
  have hSz0 := hB.out.size
  have hg_ := hG.out
  have hzw_ := hzw.out
  have hWy := Hd.mk (R_fr hWy.out hX (fun k hk hl h => by have q_ := hk; have hg_ := hG.out; (try simp only [rng] at hk); (try simp only at hk); (try simp only at h); omega))
  have hB := Hd.mk (below_frS hB.out hX (fun k h => by (try simp only at h); omega))
  have hz_ := hX.size
  clear hSz0 hg_ hX
  have z3 := Hd.mk hz_; clear hz_
  replace y1 := y1 (by omega)
  by_cases hlt : (k : Int) < y
  ·have hk3 : k ≤ 3 := by omega
   go_wp2_with fail
   apply calls_gen; intro W3 hW
   have hE0 := Hd.mk (show str.R 9 W3 (fun k => k = w2.heap.size) (.slice (some ⟨w2.heap.size, 0, none⟩) 7 7) drawWT by rw [hW]; exact R_strs (W0 := w2) drawWT (by decide) (by decide))
   have hz_ : w2.heap.size + 1 ≤ W3.heap.size := by rw [hW]; simp
   have hE : Below w2.heap.size w2 W3 := by rw [hW]; (repeat (first | with_reducible refine below_alloc ?_ _ | with_reducible refine below_drew ?_)); exact Below.refl _ _
   have hB := hB.th hE
   have hC := Hd.mk (hC.out.below hE)
   have hWy := Hd.mk (R_below hWy.out hE)
   clear hW hE
   have z4 := Hd.mk hz_; clear hz_
   have hEg := Hd.mk (show ¬ (fun k => k = w2.heap.size) g by have hg_ := hG.out; have hSz_ := hB.out.size; have hzw_ := hzw.out; have z3_ := z3.out; have z4_ := z4.out; (try simp only); omega)
   refine (spec_l1Pick _ _ _ drawWT w _ g hE0.out hEg.out rfl (by decide) (by decide) hC.out).mono ?_
   rintro e w4 ⟨u, rfl, hu, hC1, hX⟩
   have hC := Hd.mk hC1; clear hC1
   have hSz0 := hB.out.size
   have hg_ := hG.out
   have hzw_ := hzw.out; have z3_ := z3.out; have z4_ := z4.out
   have hWy := Hd.mk (R_fr hWy.out hX (fun k hk hl h => by have q_ := hk; have hg_ := hG.out; (try simp only [rng] at hk); (try simp only at hk); (try simp only at h); omega))
   have hB := Hd.mk (below_frS hB.out hX (fun k h => by (try simp only at h); omega))
   have hz_ := hX.size
   clear hSz0 hg_ hX
   have z5 := Hd.mk hz_; clear hz_
   clear hE0 hEg
   have hu6 : u.size ≤ 60 := (show ∀ s ∈ drawWT, s.size ≤ 60 by decide) u hu
   clear hu
   have hE0 := Hd.mk (R_str1 (W0 := w4) u (by omega))
   have hzw_ := hzw.out; have z3_ := z3.out; have z4_ := z4.out; have z5_ := z5.out
   go_wp2_with (at_builtin; refine append_str rfl _ _ 25 9 (.string ByteArray.empty) 16 rfl Tryd.underlying25 info_str rfl (by decide) (S := fun q => (fun q => w.heap.size ≤ q ∧ q ≠ g) q ∧ q < w4.heap.size) (S' := (fun q => w.heap.size ≤ q ∧ q ≠ g)) (v := .slice AW n cW) (xs := way) (ys := [u]) (A := some ⟨w4.heap.size, 0, none⟩) (c := 1) rfl rfl (R_below (R_bound hWy.out) (below_alloc (Below.refl _ _) _)) (R_Cv hE0.out) (fun q h => h.1) (fun q h => by have hB_ := hB.out.size; (try simp at h); exact ⟨by omega, by omega⟩) (by have := HLW.out; simp; omega) (fun v2 w5 hv2 hX0 => ?_); obtain ⟨way2, hl2⟩ : ∃ z, z = way ++ [u] := ⟨_, rfl⟩; rw [← hl2] at hv2; have HL2 := Hd.mk hl2; clear hl2; obtain ⟨A5, c5, hv2e, hc5, _⟩ := R_C hv2; subst hv2e; have hX := (Fr.of_below (below_alloc (Below.refl w4.heap.size w4) _) _).trans hX0)
   go_roundw
   case rel =>
    have hWy2 := Hd.mk hv2; clear hv2 hX0 hE0 hWy
    have hzw_ := hzw.out; have z3_ := z3.out; have z4_ := z4.out; have z5_ := z5.out
    have hSz := hB.out.size
    have hC := Hd.mk (hC.out.fr hX (fun h => by have hg_ := hG.out; have hlt_ := hC.out.lt; have hh_ := h.1; (try simp only [rng] at h); (try simp only at h); omega) (fun k h => by have hg_ := hG.out; have hge_ := hC.out.ge; have hh_ := h.1; (try simp only [rng] at h); (try simp only at h); omega))
    have hB := Hd.mk (below_frS hB.out hX (fun k h => by have hh_ := h.1; have hhh_ := hh_.1; (try simp only [rng] at h); (try simp only at h); omega))
    have hz_ := hX.size
    clear hX
    have z6 := Hd.mk hz_; clear hz_
    exact ⟨k + 1, _, way2, by omega, by go_num, rfl, ⟨by rw [HL2.out, List.length_append, HLW.out, HNK.out]; rfl⟩, ⟨fun s hs => by rw [HL2.out] at hs; rcases List.mem_append.1 hs with hs | hs; exact HWS.out s hs; rw [List.mem_singleton.1 hs]; exact hu6⟩, hWy2, hC, hB, ⟨by have hzw_ := hzw.out; have z3_ := z3.out; have z4_ := z4.out; have z5_ := z5.out; have z6_ := z6.out; omega⟩⟩
   case measure => simp [intOf]; omega
  ·go_wp2_with fail
   go_ret
   have key : str.R 9 w2 (fun k => w.heap.size ≤ k) (.slice AW n cW) way ∧ way.length ≤ 4 ∧ (∀ s ∈ way, s.size ≤ 60) ∧ Below w.heap.size w w2 := ⟨R_mono (fun q h => h.1) hWy.out, by have := HLW.out; omega, HWS.out, hB.out⟩
   first | exact ⟨_, way, rfl, key⟩ | exact ⟨_, rfl, way, key⟩ | exact ⟨way, rfl, key⟩
set_option maxHeartbeats 8000000 in
set_option maxRecDepth 100000 in
theorem spec_DrawIndexOf (A : Option Addr) (c : Nat) (bs : List Int) (w : World) (hr : u8.C w A bs) (hbs : bs.length ≤ 1048576) :
  Calls Tryd.prog 36 #[.slice A bs.length c] w fun e w' => ∃ s : ByteArray, e = .returned (.string s) ∧ s.size ≤ 60 ∧ Below w.heap.size w w' := by
 have HBS := Hd.mk hr; clear hr
 have hB := Hd.mk (Below.refl w.heap.size w)
 go_enter Tryd.func36, Tryd.ntmps36
 go_wp2_with fail
 have hz_ := Nat.le_refl w.heap.size
 have z1 := Hd.mk hz_; clear hz_
 refine (spec_l1New _ _ bs w w HBS.out hbs hB.out).mono ?_
 rintro e w1 ⟨g, rfl, hge, hC1, hX⟩
 have hG := Hd.mk (show w.heap.size ≤ g ∧ g < w1.heap.size from ⟨hge, hC1.lt⟩)
 have hC := Hd.mk hC1; clear hC1 hge
 have hB := hB.th hX
 have hz_ := hX.size
 clear hX
 have z2 := Hd.mk hz_; clear hz_
 go_wp2_with fail
 apply calls_gen; intro W2 hW
 have hE0 := Hd.mk (show str.R 9 W2 (fun k => k = w1.heap.size) (.slice (some ⟨w1.heap.size, 0, none⟩) 10 10) drawIX by rw [hW]; exact R_strs (W0 := w1) drawIX (by decide) (by decide))
 have hz_ : w1.heap.size + 1 ≤ W2.heap.size := by rw [hW]; simp
 have hE : Below w1.heap.size w1 W2 := by rw [hW]; (repeat (first | with_reducible refine below_alloc ?_ _ | with_reducible refine below_drew ?_)); exact Below.refl _ _
 have hB := hB.th hE
 have hC := Hd.mk (hC.out.below hE)
 clear hW hE
 have z3 := Hd.mk hz_; clear hz_
 have hEg := Hd.mk (show ¬ (fun k => k = w1.heap.size) g by have hg_ := hG.out; have hSz_ := hB.out.size; have z1_ := z1.out; have z2_ := z2.out; have z3_ := z3.out; (try simp only); omega)
 refine (spec_l1Pick _ _ _ drawIX w _ g hE0.out hEg.out rfl (by decide) (by decide) hC.out).mono ?_
 rintro e w3 ⟨u, rfl, hu, hC1, hX⟩
 have hC := Hd.mk hC1; clear hC1
 have hSz0 := hB.out.size
 have hg_ := hG.out
 have z1_ := z1.out; have z2_ := z2.out; have z3_ := z3.out
 have hB := Hd.mk (below_frS hB.out hX (fun k h => by (try simp only at h); omega))
 have hz_ := hX.size
 clear hSz0 hg_ hX
 have z4 := Hd.mk hz_; clear hz_
 clear hE0 hEg
 have hu6 : u.size ≤ 60 := (show ∀ s ∈ drawIX, s.size ≤ 60 by decide) u hu
 clear hu
 go_wp2_with fail
 go_ret
 first | exact ⟨u, rfl, hu6, hB.out⟩ | exact ⟨hu6, hB.out⟩
set_option maxHeartbeats 8000000 in
set_option maxRecDepth 100000 in
theorem spec_DrawWayRead (A : Option Addr) (c : Nat) (bs : List Int) (w : World) (hr : u8.C w A bs) (hbs : bs.length ≤ 1048576) :
  Calls Tryd.prog 34 #[.slice A bs.length c] w fun e w' => ∃ s : ByteArray, e = .returned (.string s) ∧ s.size ≤ 2000 ∧ Below w.heap.size w w' := by
 have HBS := Hd.mk hr; clear hr
 have hB := Hd.mk (Below.refl w.heap.size w)
 go_enter Tryd.func34, Tryd.ntmps34
 go_wp2_with fail
 have hz_ := Nat.le_refl w.heap.size
 have z1 := Hd.mk hz_; clear hz_
 refine (spec_l1New _ _ bs w w HBS.out hbs hB.out).mono ?_
 rintro e w1 ⟨g, rfl, hge, hC1, hX⟩
 have hG := Hd.mk (show w.heap.size ≤ g ∧ g < w1.heap.size from ⟨hge, hC1.lt⟩)
 have hC := Hd.mk hC1; clear hC1 hge
 have hB := hB.th hX
 have hz_ := hX.size
 clear hX
 have z2 := Hd.mk hz_; clear hz_
 go_wp2_with fail
 refine (spec_DrawWayText A c bs w1 (C_below HBS.out hB.out) hbs).mono ?_
 rintro e w2 ⟨v, l, rfl, hL, hl4, hls, hX⟩
 obtain ⟨AL, cL, hvL, hcL, _⟩ := R_C hL
 subst hvL
 replace hL := Hd.mk hL
 have hC := Hd.mk (hC.out.below hX)
 have hB := hB.th hX
 have hz_ := hX.size
 clear hX
 have z3 := Hd.mk hz_; clear hz_
 have hbl : bulkStringS l ≤ 244 := by have h1 := bulkL_le4 ByteArray.size 60 l hls; simp only [bulkStringS]; omega
 go_wp2_with fail
 refine (spec_WayText AL cL l w2 (R_Cv hL.out) (by omega)).mono ?_
 rintro e w3 ⟨rfl, hX⟩
 clear hL hls
 have hC := Hd.mk (hC.out.below hX)
 have hB := hB.th hX
 have hz_ := hX.size
 clear hX
 have z4 := Hd.mk hz_; clear hz_
 obtain ⟨s, hs⟩ : ∃ z : ByteArray, z = ⟨(wayB l).toArray⟩ := ⟨_, rfl⟩
 rw [← hs]
 have hs6 : s.size ≤ 488 := by rw [hs]; have h1 := wayB_len l; show (wayB l).toArray.size ≤ 488; simp; omega
 clear hs
 go_wp2_with fail
 refine (spec_l1Once 3 w _ g hC.out).mono ?_
 rintro e w4 ⟨bo, rfl, hC1, hX⟩
 have hC := Hd.mk hC1; clear hC1
 have hSz0 := hB.out.size
 have hg_ := hG.out
 have z1_ := z1.out; have z2_ := z2.out; have z3_ := z3.out; have z4_ := z4.out
 have hB := Hd.mk (below_frS hB.out hX (fun k h => by (try simp only at h); omega))
 have hz_ := hX.size
 clear hSz0 hg_ hX
 have z5 := Hd.mk hz_; clear hz_
 cases bo
 ·go_wp2_with fail
  go_ret
  first | exact ⟨s, rfl, by omega, hB.out⟩ | exact ⟨by omega, hB.out⟩
 ·go_wp2_with fail
  refine (spec_l1Below ((s.size : Int) + 1) w _ g hC.out).mono ?_
  rintro e w5 ⟨x, rfl, x0, x1, _, hC1, hX⟩
  have hC := Hd.mk hC1; clear hC1
  have hSz0 := hB.out.size
  have hg_ := hG.out
  have z1_ := z1.out; have z2_ := z2.out; have z3_ := z3.out; have z4_ := z4.out; have z5_ := z5.out
  have hB := Hd.mk (below_frS hB.out hX (fun k h => by (try simp only at h); omega))
  have hz_ := hX.size
  clear hSz0 hg_ hX
  have z6 := Hd.mk hz_; clear hz_
  replace x1 := x1 (by omega)
  obtain ⟨p, rfl⟩ := Int.eq_ofNat_of_zero_le x0
  have hp : (p : Int) ≤ (s.size : Int) := by omega
  have hpn : p ≤ s.size := by omega
  have hp0 : (0 : Int) ≤ (p : Int) := by omega
  have he1 : (s.extract 0 p).size ≤ 488 := by rw [ByteArray.size_extract]; omega
  have he2 : (s.extract p s.size).size ≤ 488 := by rw [ByteArray.size_extract]; omega
  go_wp2_with fail
  refine region_mixC (fun w2 => Fr w5 w2 (fun k => k = g)) (.p 0 (.p 1 (.q 2 (.p 3 (.p 7 (.p 8 (.q 9 (.b 4 (.b 5 (.p 6 (.p 10 .fin))))))))))) [11] (by kernel_rfl) (Fr.drew (Fr.refl _ _)) (by kernel_rfl) (fun _ _ _ _ _ h => h) ?_
  refine genT ?_
  intro W6 hW
  have hS := Hd.mk (show Fr w5 W6 (fun k => k = g) by rw [hW]; exact Fr.drew (Fr.refl _ _))
  have hz_ : w5.heap.size ≤ W6.heap.size := by rw [hW]; simp
  have hE : Below w5.heap.size w5 W6 := by rw [hW]; (repeat (first | with_reducible refine below_alloc ?_ _ | with_reducible refine below_drew ?_)); exact Below.refl _ _
  have hB := hB.th hE
  have hC := Hd.mk (hC.out.below hE)
  clear hW hE
  have z7 := Hd.mk hz_; clear hz_
  iterate 2 (refine mixT_p rfl ?_; go_big_quiet_want; go_big_quiet_op; go_big_quiet_on; refine wpQuiet_nil ?_)
  refine mixT_see rfl (by rfl) (Value.string (s.extract 0 p)) (fun w_ hw_ => by simp [execOp, go_sem, hp, hp0, Tryd.underlying9]) hS.out ?_
  go_wp2_with fail
  refine mixQ_n ?_
  iterate 3 (refine mixT_p rfl ?_; go_big_quiet_want; go_big_quiet_op; go_big_quiet_on; refine wpQuiet_nil ?_)
  refine mixT_see rfl (by rfl) (Value.string (s.extract p s.size)) (fun w_ hw_ => by simp [execOp, go_sem, hp, hp0, Tryd.underlying9]) hS.out ?_
  go_wp2_with fail
  refine mixQ_n ?_
  refine mixT_b rfl ?_ (by rfl)
  go_wp2_with fail
  refine ⟨hS.out.alloc _, ?_⟩
  refine genT ?_; intro W7 hW
  have hE0 := Hd.mk (show str.R 9 W7 (fun k => k = W6.heap.size) (.slice (some ⟨W6.heap.size, 0, none⟩) 6 6) drawWR by rw [hW]; exact R_strs (W0 := W6) drawWR (by decide) (by decide))
  have hz_ : W6.heap.size + 1 ≤ W7.heap.size := by rw [hW]; simp
  have hE : Below W6.heap.size W6 W7 := by rw [hW]; (repeat (first | with_reducible refine below_alloc ?_ _ | with_reducible refine below_drew ?_)); exact Below.refl _ _
  have hB := hB.th hE
  have hC := Hd.mk (hC.out.below hE)
  replace hS := Hd.mk (hS.out.trans (Fr.of_below hE _))
  clear hW hE
  have z8 := Hd.mk hz_; clear hz_
  refine mixT_b rfl ?_ (by rfl)
  go_wp2_with fail
  apply calls_gen; intro W8 hW
  have hz_ : W7.heap.size ≤ W8.heap.size := by rw [hW]; simp
  have hE : Below W7.heap.size W7 W8 := by rw [hW]; (repeat (first | with_reducible refine below_alloc ?_ _ | with_reducible refine below_drew ?_)); exact Below.refl _ _
  have hB := hB.th hE
  have hC := Hd.mk (hC.out.below hE)
  replace hS := Hd.mk (hS.out.trans (Fr.of_below hE _))
  have hE0 := Hd.mk (R_below hE0.out hE)
  clear hW hE
  have z9 := Hd.mk hz_; clear hz_
  have hEg := Hd.mk (show ¬ (fun k => k = W6.heap.size) g by have hg_ := hG.out; have hSz_ := hB.out.size; have z1_ := z1.out; have z2_ := z2.out; have z3_ := z3.out; have z4_ := z4.out; have z5_ := z5.out; have z6_ := z6.out; have z7_ := z7.out; have z8_ := z8.out; have z9_ := z9.out; (try simp only); omega)
  refine (spec_l1Pick _ _ _ drawWR w _ g hE0.out hEg.out rfl (by decide) (by decide) hC.out).mono ?_
  rintro e w9 ⟨u, rfl, hu, hC1, hX⟩
  have hC := Hd.mk hC1; clear hC1
  have hSz0 := hB.out.size
  have hg_ := hG.out
  have z1_ := z1.out; have z2_ := z2.out; have z3_ := z3.out; have z4_ := z4.out; have z5_ := z5.out; have z6_ := z6.out; have z7_ := z7.out; have z8_ := z8.out; have z9_ := z9.out
  have hB := Hd.mk (below_frS hB.out hX (fun k h => by (try simp only at h); omega))
  replace hS := Hd.mk (hS.out.trans hX)
  have hz_ := hX.size
  clear hSz0 hg_ hX
  have z10 := Hd.mk hz_; clear hz_
  clear hE0 hEg
  have hu6 : u.size ≤ 60 := (show ∀ s ∈ drawWR, s.size ≤ 60 by decide) u hu
  clear hu
  have he3 : (s.extract 0 p).size + u.size ≤ 1000 := by omega
  have he4 : (s.extract 0 p ++ u).size + (s.extract p s.size).size ≤ 2000 := by rw [ByteArray.size_append]; omega
  go_wp2_with fail
  refine ⟨hS.out, ?_⟩
  iterate 2 (refine mixT_p rfl ?_; go_big_quiet_want; go_big_quiet_op; go_big_quiet_on; refine wpQuiet_nil ?_)
  refine mixT_fin ?_
  clear hS
  refine tail_b rfl ?_ (by rfl)
  go_wp2_with fail
  refine mixQ_n ?_
  refine tail_nil ?_
  go_wp2_with fail
  go_ret
  refine ⟨_, rfl, ?_, hB.out⟩
  first | (rw [ByteArray.size_append]; exact he4) | (simp only [ByteArray.size_append] at he4 ⊢; omega)
end Go.Proofs.YtoaifagjdjgcbaaDoor.X
namespace Go.Proofs.YtoaifagjdjgcbaaDoor.X
open Go.RowKit Go.Sort
set_option linter.unusedVariables false
set_option linter.unusedSimpArgs false
open Ty
set_option maxHeartbeats 4000000 in
set_option maxRecDepth 100000 in
theorem laws_sameTexts {l : List ByteArray} (A A2 : Option Addr) (c c2 : Nat) (w : World) (hr : str.C w A l) (hr2 : str.C w A2 l) :
  Calls Tryd.prog 27 #[.slice A l.length c, .slice A2 l.length c2] w fun e w' => e = .returned (.bool true) ∧ Below w.heap.size w w' := by
 have hm := hr.1
 have HC := Hd.mk hr; have HC2 := Hd.mk hr2; clear hr hr2
 have hB := Hd.mk (Below.refl w.heap.size w)
 go_enter Tryd.func27, Tryd.ntmps27
 go_wp2_with fail
 go_loopw [5] (fun i wr => ∃ k : Nat, k ≤ l.length ∧ i = .int .i64 k ∧ Hd (Below w.heap.size w wr)) (fun i _ => l.length - (intOf i).toNat)
 case atStart => exact ⟨0, Nat.zero_le _, rfl, hB⟩
 case round =>
  clear hB
  obtain ⟨k, hk, rfl, hB⟩ := hrel
  have hk0 : (0 : Int) ≤ (k : Int) := by omega
  by_cases hlt : k < l.length
  ·obtain ⟨ad, had, x0, _⟩ := C_str_at HC.out hB.out k hlt
   obtain ⟨ad2, had2, y0, _⟩ := C_str_at HC2.out hB.out k hlt
   obtain rfl := had; obtain rfl := had2
   obtain ⟨z, hz⟩ : ∃ z, z = l[k] := ⟨_, rfl⟩
   rw [← hz] at x0 y0
   clear hz
   go_wp2_with fail
   have rx0 := cell_regrown x0
   have ry0 := cell_regrown y0
   refine region_mix [(true, 0), (true, 1), (true, 2), (true, 3), (true, 4), (true, 5), (true, 6), (true, 7), (true, 8)] (by kernel_rfl) (by kernel_rfl) (fun _ _ _ _ _ h => h) ?_
   (repeat (first | (refine mix_z rfl (by rfl) ?_; go_big_quiet_skip; refine wpQuiet_nil ?_) | (refine mix_q rfl ?_; first | (go_big_quiet_skip; refine wpQuiet_nil ?_) | (go_big_quiet_want; go_big_quiet_op; go_big_quiet_on; refine wpQuiet_nil ?_))))
   refine mix_nil ?_
   have hB := Hd.mk (below_drew hB.out)
   clear x0 y0
   go_wp2_with fail
   go_roundw
   case rel => exact ⟨k + 1, by omega, by go_num, hB⟩
   case measure => simp [intOf]; omega
  ·obtain rfl : k = l.length := by omega
   go_wp2_with fail
   go_ret
   exact ⟨rfl, hB.out⟩
end Go.Proofs.YtoaifagjdjgcbaaDoor.X
namespace Go.Proofs.YtoaifagjdjgcbaaDoor.X
open Go.RowKit Go.Sort
set_option linter.unusedVariables false
set_option linter.unusedSimpArgs false
open Ty
def mkB (l : List UInt8) : ByteArray := ⟨l.toArray⟩
def dL (b : ByteArray) : List UInt8 := b.data.toList
theorem dL_mkB (l : List UInt8) : dL (mkB l) = l := by simp [dL, mkB]
theorem mkB_dL (b : ByteArray) : mkB (dL b) = b := by cases b; simp [dL, mkB]
def wayV (s : ByteArray) : List ByteArray := ((wayS s.data.toList).getD []).map mkB
def wayOk (s : ByteArray) : Bool := (wayS s.data.toList).isSome
theorem wayV_none {s : ByteArray} (h : wayS s.data.toList = none) : wayV s = [] ∧ wayOk s = false := by
 unfold wayV wayOk; rw [h]; exact ⟨rfl, rfl⟩
theorem wayV_some {s : ByteArray} {O : List ByteArray} (h : wayS s.data.toList = some (O.map dL)) : wayV s = O ∧ wayOk s = true := by
 unfold wayV wayOk; rw [h]
 refine ⟨?_, rfl⟩
 simp [List.map_map, show mkB ∘ dL = id from funext mkB_dL]

theorem bulkL_one {α : Type} : ∀ l : List α, bulkL one l = l.length
 | [] => rfl
 | x :: l => by
  have ih := bulkL_one l
  simp only [bulkL, one, List.length_cons, ih]; omega
theorem wayV_one (s : ByteArray) : (bulkL one (wayV s) : Int) ≤ 1099511627776 := by
 rw [bulkL_one]
 unfold wayV
 cases h : wayS s.data.toList with
 | none => simp
 | some w =>
  have := (wayS_sound h).2
  simp; omega

/-! The reference's state at place i -/
def St (S : List UInt8) (i : Nat) (O : List (List UInt8)) (nw : List UInt8) : Prop := (i = 0 ∧ O = [] ∧ nw = []) ∨ (0 < i ∧ wayS S = cut6 (dec (S.drop i) O nw))
theorem St_slash0 {S : List UInt8} {i : Nat} {O : List (List UInt8)} {nw : List UInt8} (h : St S i O nw) (h0 : ¬ 0 < i) (hi : i < S.length) (hc : S[i] = 47) : St S (i + 1) O [] := by
 obtain rfl : i = 0 := by omega
 rcases h with h | h
 ·rw [h.2.1]
  cases S with
  | nil => simp at hi
  | cons c r =>
   have hc : c = 47 := hc
   exact .inr ⟨by omega, by rw [wayS, if_pos hc]; rfl⟩
 ·omega
theorem St_pos {S : List UInt8} {i : Nat} {O : List (List UInt8)} {nw : List UInt8} (h : St S i O nw) (hp : 0 < i) (hi : i < S.length) : wayS S = cut6 (dec (S[i] :: S.drop (i + 1)) O nw) := by
 rcases h with h | h
 ·omega
 ·rw [h.2, List.drop_eq_getElem_cons hi]
theorem St_slash {S : List UInt8} {i : Nat} {O : List (List UInt8)} {nw : List UInt8} (h : St S i O nw) (hp : 0 < i) (hi : i < S.length) (hc : S[i] = 47) : St S (i + 1) (O ++ [nw]) [] :=
 .inr ⟨by omega, by rw [St_pos h hp hi, dec_cons, if_pos hc]⟩
theorem St_bad0 {S : List UInt8} {i : Nat} (hi : i < S.length) (h0 : i = 0) (hc : S[i] ≠ 47) : wayS S = none := by
 subst h0
 cases S with
 | nil => simp at hi
 | cons c r =>
  have hc : c ≠ 47 := hc
  rw [wayS, if_neg hc]
theorem St_chr {S : List UInt8} {i : Nat} {O : List (List UInt8)} {nw : List UInt8} (h : St S i O nw) (hp : 0 < i) (hi : i < S.length) (hc : S[i] ≠ 47) (hd : S[i] ≠ 126) : St S (i + 1) O (nw ++ [S[i]]) :=
 .inr ⟨by omega, by rw [St_pos h hp hi, dec_cons, if_neg hc, if_neg hd]⟩
theorem St_t {S : List UInt8} {i : Nat} {O : List (List UInt8)} {nw : List UInt8} (h : St S i O nw) (hp : 0 < i) (hi : i + 1 < S.length) (hd : S[i] = 126) : wayS S = cut6 (if S[i + 1] = 48 then dec (S.drop (i + 2)) O (nw ++ [126]) else if S[i + 1] = 49 then dec (S.drop (i + 2)) O (nw ++ [47]) else none) := by
 rw [St_pos h hp (by omega), dec_cons, if_neg (by rw [hd]; decide), if_pos hd, List.drop_eq_getElem_cons hi]
theorem St_end1 {S : List UInt8} {i : Nat} {O : List (List UInt8)} {nw : List UInt8} (h : St S i O nw) (hp : 0 < i) (hi : i < S.length) (hl : i + 1 = S.length) (hd : S[i] = 126) : wayS S = none := by
 rw [St_pos h hp hi, dec_cons, if_neg (by rw [hd]; decide), if_pos hd, List.drop_eq_nil_of_le (by omega)]; rfl
theorem St_48 {S : List UInt8} {i : Nat} {O : List (List UInt8)} {nw : List UInt8} (h : St S i O nw) (hp : 0 < i) (hi : i + 1 < S.length) (hd : S[i] = 126) (he : S[i + 1] = 48) : St S (i + 1 + 1) O (nw ++ [126]) :=
 .inr ⟨by omega, by rw [St_t h hp hi hd, if_pos he]⟩
theorem St_49 {S : List UInt8} {i : Nat} {O : List (List UInt8)} {nw : List UInt8} (h : St S i O nw) (hp : 0 < i) (hi : i + 1 < S.length) (hd : S[i] = 126) (he : S[i + 1] = 49) : St S (i + 1 + 1) O (nw ++ [47]) :=
 .inr ⟨by omega, by rw [St_t h hp hi hd, if_neg (by rw [he]; decide), if_pos he]⟩
theorem St_tbad {S : List UInt8} {i : Nat} {O : List (List UInt8)} {nw : List UInt8} (h : St S i O nw) (hp : 0 < i) (hi : i + 1 < S.length) (hd : S[i] = 126) (he : S[i + 1] ≠ 48) (hf : S[i + 1] ≠ 49) : wayS S = none := by
 rw [St_t h hp hi hd, if_neg he, if_neg hf]; rfl
theorem St_fin {S : List UInt8} {O : List (List UInt8)} {nw : List UInt8} (h : St S S.length O nw) (hp : S ≠ []) : wayS S = if 6 < (O ++ [nw]).length then none else some (O ++ [nw]) := by
 rcases h with h | h
 ·exact absurd (List.length_eq_zero_iff.1 h.1) hp
 ·rw [h.2, List.drop_eq_nil_of_le (Nat.le_refl _), dec]; rfl
def Sets (B n : Nat) (P Q : Nat → Prop) : Prop := B < n ∧ (∀ q, P q → B < q ∧ q < n ∧ ¬ Q q) ∧ ∀ q, Q q → B < q ∧ q < n
theorem Sets.fin {B n n3 n4 : Nat} {P Q : Nat → Prop} (h : Sets B n P Q) (h3 : n ≤ n3) (h4 : n4 = n3 + 1) : Sets B n4 (fun k => (P k ∨ n ≤ k) ∧ k < n3) (fun k => k = n3) := by
 have h0 := h.1
 refine ⟨by omega, fun q hq => ⟨?_, ?_, ?_⟩, fun q hq => ?_⟩
 ·rcases hq.1 with h1 | h1
  ·exact (h.2.1 q h1).1
  ·omega
 ·have := hq.2; omega
 ·intro e
  have := hq.2
  omega
 ·have hq : q = n3 := hq
  omega
theorem Sets.now0 {B n n4 : Nat} {P Q : Nat → Prop} (h : Sets B n P Q) (h4 : n4 = n + 1) : Sets B n4 (fun k => P k ∧ k < n) (fun k => k = n) := by
 have h0 := h.1
 refine ⟨by omega, fun q hq => ⟨(h.2.1 q hq.1).1, by have := hq.2; omega, fun e => by have := hq.2; omega⟩, fun q hq => ?_⟩
 have hq : q = n := hq
 omega
theorem Sets.app {B n n3 : Nat} {P Q : Nat → Prop} (h : Sets B n P Q) (h3 : n ≤ n3) : Sets B n3 P (fun k => (Q k ∨ n ≤ k) ∧ k < n3) := by
 have h0 := h.1
 refine ⟨by omega, fun q hq => ⟨(h.2.1 q hq).1, by have := (h.2.1 q hq).2.1; omega, fun e => ?_⟩, fun q hq => ⟨?_, hq.2⟩⟩
 ·have h1 := h.2.1 q hq
  rcases e.1 with e | e
  ·exact h1.2.2 e
  ·omega
 ·rcases hq.1 with h1 | h1
  ·exact (h.2.2 q h1).1
  ·omega
set_option maxHeartbeats 4000000 in
set_option maxRecDepth 100000 in
theorem spec_WayRead (s : ByteArray) (w : World) (hs : s.size ≤ 1048576) :
  Calls Tryd.prog 35 #[.string s] w fun e w' => ∃ v, e = .returned (.tuple #[v, .bool (wayOk s)]) ∧ str.R 9 w' (fun k => w.heap.size ≤ k) v (wayV s) ∧ Below w.heap.size w w' := by
 have HN0 := R_emptyN str 9 (W := w) rfl
 have HO0 := R_emptyN str 9 (W := w.alloc (.cells #[] 9)) (n := w.heap.size + 1) (by simp)
 have HB0 := R_emptyN u8 5 (W := (w.alloc (.cells #[] 9)).alloc (.cells #[] 9)) (n := w.heap.size + 1 + 1) (by simp)
 have HN := Hd.mk (R_below (R_below HN0 (below_alloc (Below.refl _ _) (.cells #[] 9))) (below_alloc (Below.refl _ _) (.cells #[] 5)))
 have HO := Hd.mk (R_below HO0 (below_alloc (Below.refl _ _) (.cells #[] 5)))
 have HB := Hd.mk HB0; clear HN0 HO0 HB0
 go_enter Tryd.func35, Tryd.ntmps35
 go_wp2_with fail
 go_loopw [5, 6, 7] (fun vo vn vi wr => ∃ (i : Nat) (O : List ByteArray) (nw : List UInt8) (P Q : Nat → Prop), i ≤ s.size ∧ vi = .int .i64 i ∧ Hd (str.R 9 wr P vo O) ∧ Hd (u8.R 5 wr Q vn (nw.map byI)) ∧ Hd (Sets w.heap.size wr.heap.size P Q) ∧ Hd (St s.data.toList i (O.map dL) nw) ∧ Hd (O.length ≤ i ∧ nw.length ≤ i) ∧ Hd (str.R 9 wr (fun k => k = w.heap.size) (.slice (some ⟨w.heap.size, 0, none⟩) 0 0) []) ∧ Hd (Below w.heap.size w wr)) (fun _ _ i _ => s.size - (intOf i).toNat)
 case atStart => exact ⟨0, [], [], _, _, Nat.zero_le _, rfl, HO, HB, ⟨⟨by simp; omega, fun q h => by simp; omega, fun q h => by simp; omega⟩⟩, ⟨.inl ⟨rfl, rfl, rfl⟩⟩, ⟨by simp⟩, HN, ⟨below_alloc (below_alloc (below_alloc (Below.refl _ _) _) _) _⟩⟩
 case round =>
  obtain ⟨i, O, nw, P, Q, hi, rfl, HO, HB, HS, HT, HLn, HN, hB⟩ := hrel
  have hln : nw.length ≤ 1048576 := by have := HLn.out.2; omega
  have hlo : O.length ≤ 1048576 := by have := HLn.out.1; omega
  by_cases hlt : i < s.size
  ·have hil : i < s.data.toList.length := by simpa using hlt
   have HC := Hd.mk (fun (x : UInt8) (h : (s[i].toNat : Int) = (x.toNat : Int)) => show s.data.toList[i] = x from UInt8.toNat_inj.1 (show s[i].toNat = x.toNat by omega))
   have HD := Hd.mk (fun (x : UInt8) (h : ¬ (s[i].toNat : Int) = (x.toNat : Int)) => show s.data.toList[i] ≠ x from fun e => h (by rw [← e]; rfl))
   have HBs := Hd.mk hB.out.size
   have hBn := HS.out.1
   by_cases h0 : i = 0
   ·subst h0
    by_cases h47 : (s[0].toNat : Int) = 47
    ·have HTT := Hd.mk (St_slash0 HT.out (by omega) hil (HC.out 47 h47))
     have HE := Hd.mk (R_emptyN u8 5 (W := wr) rfl)
     have hE := below_alloc (Below.refl wr.heap.size wr) (.cells #[] 5)
     have HO2 := Hd.mk (R_below (R_bound HO.out) hE)
     have HN2 := Hd.mk (R_below HN.out hE)
     have hB2 := hB.th hE; clear hE
     go_wp2_with fail
     go_roundw
     case rel => exact ⟨1, O, [], _, _, by omega, rfl, HO2, HE, ⟨HS.out.now0 (by simp)⟩, HTT, ⟨⟨by have := HLn.out.1; omega, by simp⟩⟩, HN2, hB2⟩
     case measure => simp [intOf]; omega
    ·have HX := Hd.mk (wayV_none (St_bad0 hil rfl (HD.out 47 h47)))
     go_wp2_with fail
     go_ret2
     exact ⟨_, by rw [HX.out.2]; rfl, by rw [HX.out.1]; exact R_mono (fun k h => by omega) HN.out, hB.out⟩
   have h0p : (0 : Int) < (i : Int) := by omega
   have hi0 : ¬ (i : Int) = 0 := by omega
   by_cases h47 : (s[i].toNat : Int) = 47
   ·obtain ⟨A2, c2, hvn, _, hC2⟩ := R_C HB.out
    rw [List.length_map] at hvn
    subst hvn
    have hcv := conv_buf (c := c2) hC2
    have HTT := Hd.mk (St_slash HT.out (by omega) hil (HC.out 47 h47))
    go_wp2_with (at_builtin; refine append_s1 rfl rfl ⟨nw.toArray⟩ (by simp [ByteArray.size]; omega) rfl _ _ rfl rfl rfl HO.out (by omega) (fun v3 w3 hv3 hf3 => ?_))
    have HE := Hd.mk (R_emptyN u8 5 (W := w3) rfl)
    have hE := below_alloc (Below.refl w3.heap.size w3) (.cells #[] 5)
    have HO2 := Hd.mk (R_below (R_bound hv3) hE)
    have HN2 := Hd.mk (R_below (R_fr HN.out hf3 (fun k h _ hp => by have := (HS.out.2.1 k hp).1; omega)) hE)
    have hB2 := Hd.mk (below_then (below_frS hB.out hf3 (fun k hp => by have := (HS.out.2.1 k hp).1; omega)) hE)
    have hz3 := hf3.size; clear hE hv3 hf3
    go_roundw
    case rel => exact ⟨i + 1, _, [], _, _, by omega, by go_num, HO2, HE, ⟨HS.out.fin hz3 (by simp)⟩, ⟨by rw [List.map_append]; exact HTT.out⟩, ⟨⟨by have := HLn.out.1; simp; omega, by simp⟩⟩, HN2, hB2⟩
    case measure => simp [intOf]; omega
   by_cases h126 : (s[i].toNat : Int) = 126
   ·by_cases hend : ((i : Int) + 1) = (s.size : Int)
    ·have HX := Hd.mk (wayV_none (St_end1 HT.out (by omega) hil (by simp; omega) (HC.out 126 h126)))
     go_wp2_with fail
     go_ret2
     exact ⟨_, by rw [HX.out.2]; rfl, by rw [HX.out.1]; exact R_mono (fun k h => by omega) HN.out, hB.out⟩
    ·have hlt2 : i + 1 < s.size := by omega
     have hil2 : i + 1 < s.data.toList.length := by simpa using hlt2
     have HC2 := Hd.mk (fun (x : UInt8) (h : (s[i + 1].toNat : Int) = (x.toNat : Int)) => show s.data.toList[i + 1] = x from UInt8.toNat_inj.1 (show s[i + 1].toNat = x.toNat by omega))
     have HD2 := Hd.mk (fun (x : UInt8) (h : ¬ (s[i + 1].toNat : Int) = (x.toNat : Int)) => show s.data.toList[i + 1] ≠ x from fun e => h (by rw [← e]; rfl))
     by_cases h48 : (s[i + 1].toNat : Int) = 48
     ·have HTT := Hd.mk (St_48 HT.out (by omega) hil2 (HC.out 126 h126) (HC2.out 48 h48))
      go_wp2_with (at_builtin; refine append_bufS rfl rfl [126] _ rfl rfl _ _ rfl rfl rfl HB.out (by simp; omega) (fun v3 w3 hv3 hf3 => ?_))
      have HO2 := Hd.mk (R_fr HO.out hf3 (fun k hp _ hq => (HS.out.2.1 k hp).2.2 hq))
      have HN2 := Hd.mk (R_fr HN.out hf3 (fun k h _ hp => by have := (HS.out.2.2 k hp).1; omega))
      have hB2 := Hd.mk (below_frS hB.out hf3 (fun k hp => by have := (HS.out.2.2 k hp).1; omega))
      have HB2 := Hd.mk (R_bound hv3)
      have hz3 := hf3.size; clear hv3 hf3
      go_roundw
      case rel => exact ⟨i + 1 + 1, O, _, P, _, by omega, by go_num, HO2, HB2, ⟨HS.out.app hz3⟩, HTT, ⟨⟨by have := HLn.out.1; omega, by have := HLn.out.2; simp; omega⟩⟩, HN2, hB2⟩
      case measure => simp [intOf]; omega
     by_cases h49 : (s[i + 1].toNat : Int) = 49
     ·have HTT := Hd.mk (St_49 HT.out (by omega) hil2 (HC.out 126 h126) (HC2.out 49 h49))
      go_wp2_with (at_builtin; refine append_bufS rfl rfl [47] _ rfl rfl _ _ rfl rfl rfl HB.out (by simp; omega) (fun v3 w3 hv3 hf3 => ?_))
      have HO2 := Hd.mk (R_fr HO.out hf3 (fun k hp _ hq => (HS.out.2.1 k hp).2.2 hq))
      have HN2 := Hd.mk (R_fr HN.out hf3 (fun k h _ hp => by have := (HS.out.2.2 k hp).1; omega))
      have hB2 := Hd.mk (below_frS hB.out hf3 (fun k hp => by have := (HS.out.2.2 k hp).1; omega))
      have HB2 := Hd.mk (R_bound hv3)
      have hz3 := hf3.size; clear hv3 hf3
      go_roundw
      case rel => exact ⟨i + 1 + 1, O, _, P, _, by omega, by go_num, HO2, HB2, ⟨HS.out.app hz3⟩, HTT, ⟨⟨by have := HLn.out.1; omega, by have := HLn.out.2; simp; omega⟩⟩, HN2, hB2⟩
      case measure => simp [intOf]; omega
     ·have HX := Hd.mk (wayV_none (St_tbad HT.out (by omega) hil2 (HC.out 126 h126) (HD2.out 48 h48) (HD2.out 49 h49)))
      have hb48 : ((s[i + 1].toNat : Int) != 48) = true := bne_iff_ne.2 h48
      have hb49 : ((s[i + 1].toNat : Int) != 49) = true := bne_iff_ne.2 h49
      go_wp2_with fail
      go_ret2
      exact ⟨_, by rw [HX.out.2]; rfl, by rw [HX.out.1]; exact R_mono (fun k h => by omega) HN.out, hB.out⟩
   ·have HTT := Hd.mk (St_chr HT.out (by omega) hil (HD.out 47 h47) (HD.out 126 h126))
    go_wp2_with (at_builtin; refine append_bufS rfl rfl [s[i]] _ rfl rfl _ _ rfl rfl rfl HB.out (by simp; omega) (fun v3 w3 hv3 hf3 => ?_))
    have HO2 := Hd.mk (R_fr HO.out hf3 (fun k hp _ hq => (HS.out.2.1 k hp).2.2 hq))
    have HN2 := Hd.mk (R_fr HN.out hf3 (fun k h _ hp => by have := (HS.out.2.2 k hp).1; omega))
    have hB2 := Hd.mk (below_frS hB.out hf3 (fun k hp => by have := (HS.out.2.2 k hp).1; omega))
    have HB2 := Hd.mk (R_bound hv3)
    have hz3 := hf3.size; clear hv3 hf3
    go_roundw
    case rel => exact ⟨i + 1, O, _, P, _, by omega, by go_num, HO2, HB2, ⟨HS.out.app hz3⟩, HTT, ⟨⟨by have := HLn.out.1; omega, by have := HLn.out.2; simp; omega⟩⟩, HN2, hB2⟩
    case measure => simp [intOf]; omega
  ·obtain rfl : i = s.size := by omega
   have HTs := Hd.mk (show St s.data.toList s.data.toList.length (O.map dL) nw by rw [show s.data.toList.length = s.size by simp]; exact HT.out)
   cases he : (s.toList == [])
   ·obtain ⟨A2, c2, hvn, _, hC2⟩ := R_C HB.out
    rw [List.length_map] at hvn
    subst hvn
    have hcv := conv_buf (c := c2) hC2
    have HF := Hd.mk (show wayS s.data.toList = if 6 < O.length + 1 then none else some ((O ++ [(⟨nw.toArray⟩ : ByteArray)]).map dL) by
     rw [St_fin HTs.out (fun e => by rw [ByteArray.toList_eq, e] at he; simp at he)]
     simp [dL])
    have hBz := Hd.mk hB.out.size
    by_cases h6 : (6 : Int) < (O.length : Int) + 1
    ·have HX := Hd.mk (wayV_none (show wayS s.data.toList = none by rw [HF.out, if_pos (by omega)]))
     go_wp2_with (at_builtin; refine append_s1 rfl rfl ⟨nw.toArray⟩ (by simp [ByteArray.size]; omega) rfl _ _ rfl rfl rfl HO.out (by omega) (fun v3 w3 hv3 hf3 => ?_); obtain ⟨A3, c3, hv3e, _, _⟩ := R_C hv3; subst hv3e)
     have HN2 := Hd.mk (R_fr HN.out hf3 (fun k h _ hp => by have := (HS.out.2.1 k hp).1; omega))
     have hB2 := Hd.mk (below_frS hB.out hf3 (fun k hp => by have := (HS.out.2.1 k hp).1; omega))
     rw [List.length_append] at hv3
     have HO2 := Hd.mk hv3; clear hv3 hf3
     go_ret2
     exact ⟨_, by rw [HX.out.2]; rfl, by rw [HX.out.1]; exact R_mono (fun k h => by omega) HN2.out, hB2.out⟩
    ·have HX := Hd.mk (wayV_some (show wayS s.data.toList = some ((O ++ [(⟨nw.toArray⟩ : ByteArray)]).map dL) by rw [HF.out, if_neg (by omega)]))
     go_wp2_with (at_builtin; refine append_s1 rfl rfl ⟨nw.toArray⟩ (by simp [ByteArray.size]; omega) rfl _ _ rfl rfl rfl HO.out (by omega) (fun v3 w3 hv3 hf3 => ?_); obtain ⟨A3, c3, hv3e, _, _⟩ := R_C hv3; subst hv3e)
     have HN2 := Hd.mk (R_fr HN.out hf3 (fun k h _ hp => by have := (HS.out.2.1 k hp).1; omega))
     have hB2 := Hd.mk (below_frS hB.out hf3 (fun k hp => by have := (HS.out.2.1 k hp).1; omega))
     rw [List.length_append] at hv3
     have HO2 := Hd.mk hv3; clear hv3 hf3
     have hmono : ∀ k, (P k ∨ wr.heap.size ≤ k) → w.heap.size ≤ k := fun k h => by
      have := hBz.out
      rcases h with h | h
      ·have := (HS.out.2.1 k h).1; omega
      ·omega
     go_ret2
     exact ⟨_, by rw [HX.out.2]; rfl, by rw [HX.out.1]; exact R_mono hmono HO2.out, hB2.out⟩
   ·have hse : s.data.toList = [] := by rw [ByteArray.toList_eq] at he; simpa using he
    have hO0 : O = [] := by
     have h1 := HLn.out.1
     have h2 : s.size = 0 := by rw [← show s.data.toList.length = s.size by simp, hse]; rfl
     exact List.length_eq_zero_iff.1 (by omega)
    subst hO0
    obtain ⟨A3, c3, hv3e, _, _⟩ := R_C HO.out
    subst hv3e
    have HX := Hd.mk (wayV_some (O := []) (show wayS s.data.toList = some ([].map dL) by rw [hse]; rfl))
    clear hse
    go_wp2_with fail
    go_ret2
    exact ⟨_, by rw [HX.out.2]; rfl, by rw [HX.out.1]; exact R_mono (fun k h => by have := (HS.out.2.1 k h).1; omega) HO.out, hB.out⟩
theorem spl_sum (c : UInt8) : ∀ s : List UInt8, ((spl c s).map (fun x => x.length + 1)).sum = s.length + 1
 | [] => rfl
 | b :: l => by
  have ih := spl_sum c l
  rw [spl]
  split
  ·simp only [List.map_cons, List.sum_cons, ih, List.length_nil, List.length_cons]; omega
  ·split
   ·rename_i h t he
    rw [he] at ih
    simp only [List.map_cons, List.sum_cons, List.length_cons] at ih ⊢
    omega
   ·rename_i he
    rw [he] at ih; simp at ih
theorem bulk_sum : ∀ l : List ByteArray, bulkStringS l = ((l.map dL).map (fun x => x.length + 1)).sum
 | [] => rfl
 | x :: l => by
  have ih := bulk_sum l
  simp only [bulkStringS, bulkL, List.length_cons, List.map_cons, List.sum_cons] at ih ⊢
  have : (dL x).length = x.size := by simp [dL]
  omega
def piecesW (s : ByteArray) : List ByteArray := (Lib.splitB ⟨#[47]⟩ 0 (Lib.countB s ⟨#[47]⟩) s).tail
theorem piecesW_dL (s : ByteArray) : (piecesW s).map dL = (Lib.split s.data.toList [47]).tail := by
 unfold piecesW
 rw [List.map_tail, show dL = (fun x : ByteArray => x.data.toList) from rfl, Lib.splitB_data]; rfl
theorem piecesW_len (s : ByteArray) : (piecesW s).length = Lib.countB s ⟨#[47]⟩ := by
 unfold piecesW
 rw [List.length_tail, Lib.splitB_all ⟨#[47]⟩ (by decide) 0 _ s rfl]; rfl
theorem piecesW_bulk (s : ByteArray) : bulkStringS (piecesW s) ≤ s.size := by
 have h := spl_sum 47 s.data.toList
 rw [bulk_sum, piecesW_dL, split_one]
 rw [show s.data.toList.length = s.size by simp] at h
 cases hs : spl 47 s.data.toList with
 | nil => simp
 | cons x r =>
  rw [hs] at h
  simp only [List.map_cons, List.sum_cons] at h
  simp only [List.tail_cons]
  omega
theorem pieces_C (W : World) (l : List ByteArray) (n : Nat) (hb : Blk W n (l.map Value.string).toArray 9) (h : ∀ x ∈ l.tail, x.size ≤ 9223372036854775807) (hl : l.tail.length ≤ 9223372036854775807) : str.C W (some ⟨n, 1, none⟩) l.tail := by
 refine ⟨hl, fun i x hx => ⟨⟨n, 1, none⟩, [.string x], rfl, ⟨rfl, h x (List.mem_of_getElem? hx)⟩, fun j u hu => ?_⟩⟩
 obtain ⟨rfl, rfl⟩ : j = 0 ∧ u = .string x := by
  cases j with
  | zero => simpa using hu.symm
  | succ j => simp at hu
 have e : (⟨n, 1, none⟩ : Addr).add (i * str.sz + 0) = ⟨n, 1 + i, none⟩ := by
  show (⟨n, 1, none⟩ : Addr).add (i * 1 + 0) = _
  unfold Addr.add; split <;> simp_all
 rw [e]
 refine hb.cell (1 + i) ?_
 rw [List.getElem?_toArray, List.getElem?_map, Nat.add_comm 1 i]
 rw [List.getElem?_tail] at hx
 rw [hx]; rfl
theorem rep2_len (a b c : UInt8) : ∀ s, (rep2 a b c s).length ≤ s.length
 | [] => Nat.le_refl _
 | [x] => Nat.le_refl _
 | x :: y :: r => by
  rw [rep2_cons2]
  split
  ·have := rep2_len a b c r
   simp only [List.length_cons]; omega
  ·have := rep2_len a b c (y :: r)
   simp only [List.length_cons] at this ⊢; omega
theorem unesc_len (t : List UInt8) : (unesc t).length ≤ t.length := Nat.le_trans (rep2_len _ _ _ _) (rep2_len _ _ _ _)
def unescB (t : ByteArray) : ByteArray := mkB (unesc t.data.toList)
theorem unescB_bulk : ∀ l : List ByteArray, bulkStringS (l.map unescB) ≤ bulkStringS l
 | [] => Nat.le_refl _
 | x :: l => by
  have ih := unescB_bulk l
  have h := unesc_len x.data.toList
  rw [show x.data.toList.length = x.size by simp] at h
  have h2 : (unescB x).size = (unesc x.data.toList).length := by simp [unescB, mkB, ByteArray.size]
  simp only [List.map_cons, bulkStringS, bulkL, List.length_cons] at ih ⊢
  omega
theorem wayI_pieces (s : ByteArray) (h : s.data.toList ≠ []) : wayS s.data.toList = if 6 < ((piecesW s).map unescB).length ∨ wayB ((piecesW s).map unescB) ≠ s.data.toList then none else some (((piecesW s).map unescB).map dL) := by
 have e : (Lib.split s.data.toList [47]).tail.map unesc = ((piecesW s).map unescB).map dL := by
  rw [← piecesW_dL, List.map_map, List.map_map]
  rw [show unesc ∘ dL = dL ∘ unescB from funext fun x => (dL_mkB _).symm]
 rw [← way_eq]
 unfold wayI
 rw [if_neg h]
 simp only [e]
 rw [List.length_map]
 rfl
set_option maxHeartbeats 4000000 in
set_option maxRecDepth 100000 in
theorem impl_WayRead (s : ByteArray) (w : World) (hs : s.size ≤ 1048576) (hM : EnvM w) :
  Calls Tryd.prog 32 #[.string s] w fun e w' => ∃ v, e = .returned (.tuple #[v, .bool (wayOk s)]) ∧ str.R 9 w' (fun k => w.heap.size ≤ k) v (wayV s) ∧ Below w.heap.size w w' := by
 have HN := Hd.mk (R_emptyN str 9 (W := w) rfl)
 have hE := below_alloc (Below.refl w.heap.size w) (.cells #[] 9)
 have HM := Hd.mk (EnvM.below hM hE); have HMw := Hd.mk hM; clear hM
 have hB := Hd.mk hE; clear hE
 go_enter Tryd.func32, Tryd.ntmps32
 cases he : (s.toList == [])
 case true =>
  have HX := Hd.mk (wayV_some (s := s) (O := []) (show wayS s.data.toList = some ([].map dL) by
   rw [ByteArray.toList_eq] at he
   rw [show s.data.toList = [] by simpa using he]; rfl))
  go_wp2_with fail
  go_ret2
  exact ⟨_, by rw [HX.out.2]; rfl, by rw [HX.out.1]; exact R_mono (fun k h => by omega) HN.out, hB.out⟩
 go_wp2_with fail
 obtain ⟨m0, hm0⟩ := HM.out
 have HP := Hd.mk (piecesW_len s)
 have hq1 := Lib.countB_le ⟨#[47]⟩ (by decide) _ s (Nat.le_refl _)
 refine (Tryd.strings_Split s ⟨#[47]⟩ m0 _ (by omega) hm0 (by decide)).mono ?_
 rintro e w1 ⟨rfl, hX⟩
 have HSe := Hd.mk (show s.data.toList ≠ [] from fun e => by rw [ByteArray.toList_eq, e] at he; simp at he)
 have HPC := Hd.mk (fun (W : World) (hb : Blk W (w.heap.size + 1) ((Lib.splitB ⟨#[47]⟩ 0 (Lib.countB s ⟨#[47]⟩) s).map Value.string).toArray 9) => show str.C W (some ⟨w.heap.size + 1, 1, none⟩) (piecesW s) from by
  have hbk := piecesW_bulk s
  have hbl := piecesW_len s
  exact pieces_C W _ _ hb (fun x hx => by
   have h1 := bulkL_mem ByteArray.size (show x ∈ piecesW s from hx)
   simp only [bulkStringS] at hbk; omega) (by show (piecesW s).length ≤ _; omega))
 have HBl := Hd.mk (show Blk w1 (w.heap.size + 1) ((Lib.splitB ⟨#[47]⟩ 0 (Lib.countB s ⟨#[47]⟩) s).map Value.string).toArray 9 by
  rw [hX]; simpa using Blk.new (w.alloc (.cells #[] 9)) ((Lib.splitB ⟨#[47]⟩ 0 (Lib.countB s ⟨#[47]⟩) s).map Value.string).toArray 9)
 obtain ⟨PB, hPB⟩ : ∃ PB, PB = ((Lib.splitB ⟨#[47]⟩ 0 (Lib.countB s ⟨#[47]⟩) s).map Value.string).toArray := ⟨_, rfl⟩
 rw [← hPB] at HPC HBl; clear hPB
 have hB1 := Hd.mk (show Below w.heap.size w w1 by rw [hX]; exact below_alloc hB.out _)
 have HN1 := Hd.mk (show str.R 9 w1 (fun k => k = w.heap.size) (.slice (some ⟨w.heap.size, 0, none⟩) 0 0) [] by rw [hX]; exact R_below HN.out (below_alloc (Below.refl _ _) _))
 have hz1 := Hd.mk (show w.heap.size + 2 ≤ w1.heap.size by rw [hX]; simp)
 obtain ⟨q, hq⟩ : ∃ q, q = Lib.countB s ⟨#[47]⟩ := ⟨_, rfl⟩
 rw [← hq] at HP hq1 ⊢
 clear hq hX hm0 HN hB HM
 by_cases hq0 : q = 0
 ·subst hq0
  go_wp2_with fail
  go_loopw [4, 6, 15] (fun vw vp vi wr => ∃ (k : Nat) (O : List ByteArray), k ≤ 0 ∧ vi = .int .i64 k ∧ Hd (O.length = k ∧ O = ((piecesW s).take k).map unescB) ∧ Hd (str.R 9 wr (fun j => w.heap.size ≤ j ∧ j ≠ w.heap.size + 1) vw O) ∧ Hd (Blk wr (w.heap.size + 1) PB 9) ∧ Hd (Below w.heap.size w wr)) (fun _ _ i _ => 0 - (intOf i).toNat)
  case atStart => exact ⟨0, [], Nat.zero_le _, rfl, ⟨rfl, rfl⟩, ⟨R_mono (fun k hk => by omega) HN1.out⟩, HBl, hB1⟩
  case round =>
   obtain ⟨k, O, hk, rfl, HO, HV, hBl, hB⟩ := hrel
   obtain rfl : k = 0 := by omega
   replace HO := Hd.mk (show O = (piecesW s).map unescB by
    rw [List.length_eq_zero_iff.1 HO.out.1, List.length_eq_zero_iff.1 HP.out]; rfl)
   have HW := Hd.mk (wayI_pieces s HSe.out)
   have HBk := Hd.mk (show bulkStringS O ≤ 1048576 by
    rw [HO.out]; exact Nat.le_trans (unescB_bulk _) (Nat.le_trans (piecesW_bulk s) hs))
   rw [← HO.out] at HW
   obtain ⟨A3, c3, hve, hc3, hC3⟩ := R_C HV.out
   subst hve
   have hmO := hC3.1
   have HC3 := Hd.mk hC3; clear hC3
   by_cases h6 : (6 : Int) < (O.length : Int)
   ·have HX := Hd.mk (wayV_none (show wayS s.data.toList = none by rw [HW.out, if_pos (.inl (by omega))]))
    go_wp2_with fail
    go_ret2
    exact ⟨_, by rw [HX.out.2]; rfl, by rw [HX.out.1]; exact R_nil, hB.out⟩
   ·go_wp2_with fail
    refine (impl_WayText _ _ O _ HC3.out HBk.out (HMw.out.below hB.out)).mono ?_
    rintro e w2 ⟨rfl, hX⟩
    have hB2 := hB.th hX
    have HV2 := Hd.mk (R_below HV.out hX); clear hX HV HC3
    obtain ⟨t, ht⟩ : ∃ t : ByteArray, t = ⟨(wayB O).toArray⟩ := ⟨_, rfl⟩
    rw [← ht]
    have HT := Hd.mk (show t.toList = wayB O by rw [ht, ByteArray.toList_eq]); clear ht
    cases hb : (t.toList == s.toList)
    ·have HX := Hd.mk (wayV_none (show wayS s.data.toList = none by
      have hne : wayB O ≠ s.data.toList := fun e => by
       rw [HT.out, e, ByteArray.toList_eq] at hb; simp at hb
      rw [HW.out, if_pos (.inr hne)]))
     go_wp2_with fail
     go_ret2
     exact ⟨_, by rw [HX.out.2]; rfl, by rw [HX.out.1]; exact R_nil, hB2.out⟩
    ·have HX := Hd.mk (wayV_some (show wayS s.data.toList = some (O.map dL) by
      rw [HW.out, if_neg (fun e => ?_)]
      rcases e with e | e
      ·omega
      ·rw [HT.out, ByteArray.toList_eq] at hb
       exact e (by simpa using hb)))
     go_wp2_with fail
     go_ret2
     exact ⟨_, by rw [HX.out.2]; rfl, by rw [HX.out.1]; exact R_mono (fun k hk => hk.1) HV2.out, hB2.out⟩
 ·go_wp2_with fail
  go_loopw [4, 6, 15] (fun vw vp vi wr => ∃ (k : Nat) (O : List ByteArray), k ≤ q ∧ vi = .int .i64 k ∧ Hd (O.length = k ∧ O = ((piecesW s).take k).map unescB) ∧ Hd (str.R 9 wr (fun j => w.heap.size ≤ j ∧ j ≠ w.heap.size + 1) vw O) ∧ Hd (Blk wr (w.heap.size + 1) PB 9) ∧ Hd (Below w.heap.size w wr)) (fun _ _ i _ => q - (intOf i).toNat)
  case atStart => exact ⟨0, [], Nat.zero_le _, rfl, ⟨rfl, rfl⟩, ⟨R_mono (fun k hk => by omega) HN1.out⟩, HBl, hB1⟩
  case round =>
   obtain ⟨k, O, hk, rfl, HO, HV, hBl, hB⟩ := hrel
   by_cases hlt : k < q
   ·have hkP : k < (piecesW s).length := by rw [HP.out]; exact hlt
    obtain ⟨ad, hA, x0, hsz⟩ := C_str_at (HPC.out _ hBl.out) (Below.refl _ _) k hkP
    obtain rfl : (⟨w.heap.size + 1, 1, none⟩ : Addr) = ad := by injection hA
    have hsx : (piecesW s)[k].size ≤ 1048576 := Nat.le_trans (Nat.le_trans (strs_size _ k hkP) (piecesW_bulk s)) hs
    obtain ⟨x, hx⟩ : ∃ x, x = (piecesW s)[k] := ⟨_, rfl⟩
    rw [← hx] at x0 hsx
    have HXk := Hd.mk hx; clear hx hsz
    rw [Go.Lib.add_plain] at x0
    have hkO : O.length ≤ 1048576 := by have := HO.out.1; omega
    have hBz := hB.out.size
    have hz1_ := hz1.out
    go_wp2_with fail
    obtain ⟨m2, hm2⟩ := HMw.out.below hB.out
    have hq1 := Lib.countB_le ⟨#[126, 49]⟩ (by decide) _ x (Nat.le_refl _)
    refine (Tryd.strings_ReplaceAll x ⟨#[126, 49]⟩ ⟨#[47]⟩ m2 wr (by omega) hm2 (by decide) (by rw [show (⟨#[47]⟩ : ByteArray).size = 1 from rfl]; omega)).mono ?_
    rintro e w2 ⟨rfl, hX⟩
    have hB2 := hB.th hX; have hBl2 := Hd.mk (hBl.out.below hX); have HV2 := Hd.mk (R_below HV.out hX); clear hX
    obtain ⟨t1, ht1⟩ : ∃ t : ByteArray, t = ⟨(Lib.replaceAll x.data.toList (⟨#[126, 49]⟩ : ByteArray).data.toList (⟨#[47]⟩ : ByteArray).data.toList).toArray⟩ := ⟨_, rfl⟩
    rw [← ht1]
    have HT1 := Hd.mk (show t1.data.toList = rep2 126 49 47 x.data.toList by
     rw [ht1, ← rep2_eq, ← Lib_replaceAll_eq _ _ _ (by simp)])
    have hs1 : t1.size ≤ 1048576 := by
     have h1 := rep2_len 126 49 47 x.data.toList
     rw [← HT1.out, show t1.data.toList.length = t1.size by simp, show x.data.toList.length = x.size by simp] at h1
     omega
    clear ht1 hq1 hm2
    go_wp2_with fail
    obtain ⟨m3, hm3⟩ := HMw.out.below hB2.out
    have hq1 := Lib.countB_le ⟨#[126, 48]⟩ (by decide) _ t1 (Nat.le_refl _)
    refine (Tryd.strings_ReplaceAll t1 ⟨#[126, 48]⟩ ⟨#[126]⟩ m3 _ (by omega) hm3 (by decide) (by rw [show (⟨#[126]⟩ : ByteArray).size = 1 from rfl]; omega)).mono ?_
    rintro e w3 ⟨rfl, hX⟩
    have hB3 := Hd.mk (below_then hB2.out hX); have hBl3 := Hd.mk (hBl2.out.below hX); have HV3 := Hd.mk (R_below HV2.out hX); clear hX
    obtain ⟨t2, ht2⟩ : ∃ t : ByteArray, t = ⟨(Lib.replaceAll t1.data.toList (⟨#[126, 48]⟩ : ByteArray).data.toList (⟨#[126]⟩ : ByteArray).data.toList).toArray⟩ := ⟨_, rfl⟩
    rw [← ht2]
    have HT2 := Hd.mk (show t2.data.toList = unesc x.data.toList by
     rw [ht2]
     unfold unesc
     rw [← HT1.out, ← rep2_eq, ← Lib_replaceAll_eq _ _ _ (by simp)])
    have hs2 : t2.size ≤ 1048576 := by
     have h1 := unesc_len x.data.toList
     rw [← HT2.out, show t2.data.toList.length = t2.size by simp, show x.data.toList.length = x.size by simp] at h1
     omega
    clear ht2 hq1 hm3 HV HV2
    have HO2 := Hd.mk (show (O ++ [t2]).length = k + 1 ∧ O ++ [t2] = ((piecesW s).take (k + 1)).map unescB by
     refine ⟨by simp [HO.out.1], ?_⟩
     rw [List.take_succ_eq_append_getElem hkP, List.map_append, ← HO.out.2]
     congr 1
     rw [← HXk.out]
     show [t2] = [unescB x]
     congr 1
     unfold unescB
     rw [← HT2.out]
     exact (mkB_dL t2).symm)
    go_wp2_with (at_builtin; refine append_s1 rfl rfl t2 (by omega) rfl _ _ rfl rfl rfl HV3.out (by omega) (fun v4 w4 hv4 hf4 => ?_))
    have hBl4 := Hd.mk (hBl3.out.fr hf4 (fun h => h.2 rfl))
    have hB4 := Hd.mk (below_frS hB3.out hf4 (fun k h => h.1))
    have HV4 := Hd.mk (R_mono (fun k h => by
     rcases h with h | h
     ·exact h
     ·have h1 := hB3.out.size; have h2 := hBl3.out.lt; exact ⟨by omega, by omega⟩) hv4)
    clear hv4 hf4
    go_roundw
    case rel => exact ⟨k + 1, _, by omega, by go_num, HO2, HV4, hBl4, hB4⟩
    case measure => simp [intOf]; omega
   ·obtain rfl : k = q := by omega
    replace HO := Hd.mk (show O = (piecesW s).map unescB by
     rw [HO.out.2, List.take_of_length_le (by rw [HP.out]; exact Nat.le_refl _)])
    have HW := Hd.mk (wayI_pieces s HSe.out)
    have HBk := Hd.mk (show bulkStringS O ≤ 1048576 by
     rw [HO.out]; exact Nat.le_trans (unescB_bulk _) (Nat.le_trans (piecesW_bulk s) hs))
    rw [← HO.out] at HW
    obtain ⟨A3, c3, hve, hc3, hC3⟩ := R_C HV.out
    subst hve
    have hmO := hC3.1
    have HC3 := Hd.mk hC3; clear hC3
    by_cases h6 : (6 : Int) < (O.length : Int)
    ·have HX := Hd.mk (wayV_none (show wayS s.data.toList = none by rw [HW.out, if_pos (.inl (by omega))]))
     go_wp2_with fail
     go_ret2
     exact ⟨_, by rw [HX.out.2]; rfl, by rw [HX.out.1]; exact R_nil, hB.out⟩
    ·go_wp2_with fail
     refine (impl_WayText _ _ O _ HC3.out HBk.out (HMw.out.below hB.out)).mono ?_
     rintro e w2 ⟨rfl, hX⟩
     have hB2 := hB.th hX
     have HV2 := Hd.mk (R_below HV.out hX); clear hX HV HC3
     obtain ⟨t, ht⟩ : ∃ t : ByteArray, t = ⟨(wayB O).toArray⟩ := ⟨_, rfl⟩
     rw [← ht]
     have HT := Hd.mk (show t.toList = wayB O by rw [ht, ByteArray.toList_eq]); clear ht
     cases hb : (t.toList == s.toList)
     ·have HX := Hd.mk (wayV_none (show wayS s.data.toList = none by
       have hne : wayB O ≠ s.data.toList := fun e => by
        rw [HT.out, e, ByteArray.toList_eq] at hb; simp at hb
       rw [HW.out, if_pos (.inr hne)]))
      go_wp2_with fail
      go_ret2
      exact ⟨_, by rw [HX.out.2]; rfl, by rw [HX.out.1]; exact R_nil, hB2.out⟩
     ·have HX := Hd.mk (wayV_some (show wayS s.data.toList = some (O.map dL) by
       rw [HW.out, if_neg (fun e => ?_)]
       rcases e with e | e
       ·omega
       ·rw [HT.out, ByteArray.toList_eq] at hb
        exact e (by simpa using hb)))
      go_wp2_with fail
      go_ret2
      exact ⟨_, by rw [HX.out.2]; rfl, by rw [HX.out.1]; exact R_mono (fun k hk => hk.1) HV2.out, hB2.out⟩
theorem way_back (l : List ByteArray) (hl : l.length ≤ 6) : wayOk ⟨(wayB l).toArray⟩ = true ∧ wayV ⟨(wayB l).toArray⟩ = l := by
 have h : wayS (⟨(wayB l).toArray⟩ : ByteArray).data.toList = some (l.map dL) := by
  show wayS (wayB l) = some (l.map dL)
  cases l with
  | nil => rfl
  | cons x r =>
   rw [wayB_cons]
   show (if (47 : UInt8) = 47 then cut6 (dec (esc x.data.toList ++ wayB r) [] []) else none) = _
   rw [if_pos rfl, dec_esc]
   unfold wayB
   rw [dec_way]
   have h6 : ¬ 6 < ([] ++ ([] ++ x.data.toList) :: r.map (fun y : ByteArray => y.data.toList)).length := by simp at hl ⊢; omega
   exact (if_neg h6).trans rfl
 obtain ⟨h1, h2⟩ := wayV_some h
 exact ⟨h2, h1⟩
theorem way_text {s : ByteArray} (h : wayOk s = true) : (⟨(wayB (wayV s)).toArray⟩ : ByteArray) = s ∧ (wayV s).length ≤ 6 := by
 unfold wayOk at h
 obtain ⟨w, hw⟩ := Option.isSome_iff_exists.1 h
 obtain ⟨h1, h2⟩ := wayS_sound hw
 have hv : wayV s = w.map mkB := by unfold wayV; rw [hw]; rfl
 rw [hv]
 refine ⟨?_, by simpa using h2⟩
 have e : wayB (w.map mkB) = s.data.toList := by
  unfold wayB
  rw [List.map_map, show ((fun x : ByteArray => x.data.toList) ∘ mkB) = id from funext fun x => by simp [mkB]]
  simpa using h1.symm
 rw [e]
theorem way_none {s : ByteArray} (h : wayOk s = false) : wayV s = [] := by
 unfold wayOk at h
 unfold wayV
 cases hw : wayS s.data.toList with
 | none => rfl
 | some w => rw [hw] at h; cases h
noncomputable def opOk (o : JOp) : Bool := o.way.all textB && (inB o.kind 1 4 && (decide ((o.way.length : Int) ≤ 6) && (jsonOk o.value && (o.kind != 2 || eqv o.value J.null))))
theorem null_K {m : Nat} {w : World} : (tJ (m + 1)).K w J.null [.int .i64 0, .int .i64 0, .string ByteArray.empty, .slice none 0 0, .slice none 0 0] :=
 tJ_K.2 ⟨none, 0, none, 0, rfl, Nat.zero_le _, ⟨Nat.le_refl _, C_nil _⟩, Nat.le_refl _, C_nil _⟩
theorem bytes_nil {s : ByteArray} : (s.toList == []) = true ↔ s = ByteArray.empty := by
 have : (s.toList == ByteArray.empty.toList) = true ↔ s = ByteArray.empty := bytes_eq
 simpa using this
theorem R_strsN {W0 : World} (l : List ByteArray) (hl : l.length ≤ 1000) (hs : ∀ s ∈ l, s.size ≤ 1000) : str.R 9 (W0.alloc (.cells (l.map Value.string).toArray 9)) (fun k => k = W0.heap.size) (.slice (some ⟨W0.heap.size, 0, none⟩) l.length l.length) l := by
 refine R_block (cap := l.length) (heap_alloc_new W0 _) rfl (Nat.le_refl _) (by omega) (by simp [show str.sz = 1 from rfl]) (fun _ => 0) (fun i x h => ?_)
 have hi := (List.getElem?_eq_some_iff.1 h).1
 have hx := (List.getElem?_eq_some_iff.1 h).2
 have hz := hs x (by rw [← hx]; exact List.getElem_mem hi)
 show (((l.map Value.string).toArray.toList).drop (i * 1)).take 1 = [.string x] ∧ x.size ≤ 9223372036854775807
 refine ⟨?_, by omega⟩
 rw [Nat.mul_one, List.drop_eq_getElem_cons (by simpa using hi)]
 simp [hx]
def nmOp : ByteArray := ⟨#[111, 112]⟩
def nmPath : ByteArray := ⟨#[112, 97, 116, 104]⟩
def nmValue : ByteArray := ⟨#[118, 97, 108, 117, 101]⟩
def kindL : List ByteArray := [⟨#[97, 100, 100]⟩, ⟨#[114, 101, 109, 111, 118, 101]⟩, ⟨#[114, 101, 112, 108, 97, 99, 101]⟩, ⟨#[116, 101, 115, 116]⟩]
def kindL0 : List ByteArray := ⟨#[]⟩ :: kindL
def kindNm (k : Int) : ByteArray := kindL.getD (k - 1).toNat ⟨#[]⟩
def txt (s : ByteArray) : J := ⟨3, 0, s, [], []⟩
def opRaw0 (o : JOp) : J := ⟨5, 0, ⟨#[]⟩, [txt (kindNm o.kind), txt ⟨(wayB o.way).toArray⟩], [nmOp, nmPath]⟩
def opRaw (o : JOp) : J := if o.kind = 2 then opRaw0 o else ⟨5, 0, ⟨#[]⟩, [txt (kindNm o.kind), txt ⟨(wayB o.way).toArray⟩, o.value], [nmOp, nmPath, nmValue]⟩
noncomputable def opJ (o : JOp) : J := if opOk o = true ∧ jsonOk (opRaw o) = true then opRaw o else J.null
theorem toList_mk (l : Array UInt8) : (⟨l⟩ : ByteArray).toList = l.toList := by rw [ByteArray.toList_eq]
theorem lt_op : ltB nmOp nmValue = true := by unfold ltB nmOp nmValue; rw [toList_mk, toList_mk]; decide
theorem lt_path : ltB nmPath nmValue = true := by unfold ltB nmPath nmValue; rw [toList_mk, toList_mk]; decide
theorem ne_op : (nmOp.toList == nmValue.toList) = false := by unfold nmOp nmValue; rw [toList_mk, toList_mk]; decide
theorem ne_path : (nmPath.toList == nmValue.toList) = false := by unfold nmPath nmValue; rw [toList_mk, toList_mk]; decide
theorem put_value (o : JOp) (h : o.kind ≠ 2) : putJ (opRaw0 o) o.value nmValue = opRaw o := by
 have hE : putE (opRaw0 o).names nmValue (opRaw0 o).list.length = ([nmOp, nmPath, nmValue], [0, 1, 2]) := by
  show putE [nmOp, nmPath] nmValue 2 = _
  unfold putE
  simp [putS, putIn, putOn, lt_op, lt_path, ne_op, ne_path]
 unfold putJ opRaw
 rw [hE, if_neg h]
 simp [putSrc, opRaw0]
theorem esc_ge : ∀ t : List UInt8, t.length ≤ (esc t).length
 | [] => Nat.zero_le _
 | b :: t => by
  rw [esc_cons]
  simp only [List.length_append, List.length_cons]
  have h1 := esc_ge t
  have h2 : 1 ≤ (esc1 b).length := by unfold esc1; split <;> (try split) <;> simp
  omega
theorem wayT_ge : ∀ w : List (List UInt8), w.length + bulkL ByteArray.size (w.map mkB) ≤ (wayT w).length
 | [] => by simp [bulkL, wayT]
 | t :: w => by
  have h1 := wayT_ge w
  have h2 := esc_ge t
  rw [wayT_cons]
  simp only [List.map_cons, bulkL, List.length_cons, List.length_append]
  have h3 : (mkB t).size = t.length := by simp [mkB]; rfl
  omega
theorem bulk_wayV (s : ByteArray) : bulkStringS (wayV s) ≤ s.size := by
 unfold wayV
 cases h : wayS s.data.toList with
 | none => exact Nat.zero_le _
 | some w =>
  have h1 := (wayS_sound h).1
  have h2 := wayT_ge w
  rw [← h1] at h2
  have h3 : s.data.toList.length = s.size := Array.length_toList
  show (w.map mkB).length + bulkL ByteArray.size (w.map mkB) ≤ _
  rw [List.length_map]
  omega
theorem bulk_null (m : Nat) (x : J) : bulkJ (m + 1) J.null ≤ bulkJ (m + 1) x := by
 show 0 + (0 + 0) + (0 + 0) ≤ _
 omega
theorem bulk_s (m : Nat) (x : J) : x.s.size ≤ bulkJ (m + 1) x := by
 show x.s.size ≤ x.s.size + _ + _
 omega
def kUp (nm : J) : Nat → Int
 | 0 => 0
 | k + 1 => if (k != 0 && ((nm.kind == 3) && (nm.s.toList == (kindL0.getD k ⟨#[]⟩).toList))) = true then (k : Int) else kUp nm k
theorem kUp_le (nm : J) : ∀ k, 0 ≤ kUp nm k ∧ kUp nm k ≤ k
 | 0 => ⟨Int.le_refl _, Int.le_refl _⟩
 | k + 1 => by
  have h := kUp_le nm k
  unfold kUp
  split <;> (refine ⟨by omega, by omega⟩)
theorem kUp_no (nm : J) (h : (nm.kind == 3) = false) : ∀ k, kUp nm k = 0
 | 0 => rfl
 | k + 1 => by
  unfold kUp
  rw [h, if_neg (by simp)]
  exact kUp_no nm h k
theorem kUp_yes (nm : J) (h : (nm.kind == 3) = true) : kUp nm 5 = 1 + nameAt kindL nm.s := by
 have e1 : kindL0.getD 1 ⟨#[]⟩ = ⟨#[97, 100, 100]⟩ := rfl
 have e2 : kindL0.getD 2 ⟨#[]⟩ = ⟨#[114, 101, 109, 111, 118, 101]⟩ := rfl
 have e3 : kindL0.getD 3 ⟨#[]⟩ = ⟨#[114, 101, 112, 108, 97, 99, 101]⟩ := rfl
 have e4 : kindL0.getD 4 ⟨#[]⟩ = ⟨#[116, 101, 115, 116]⟩ := rfl
 simp only [kUp, nameAt, idxF, kindL, h, e1, e2, e3, e4, toList_mk, List.findIdx_cons, List.findIdx_nil, List.length_cons, List.length_nil]
 generalize nm.s.toList = t
 by_cases h1 : t = [97, 100, 100]
 ·subst h1; decide
 by_cases h2 : t = [114, 101, 109, 111, 118, 101]
 ·subst h2; decide
 by_cases h3 : t = [114, 101, 112, 108, 97, 99, 101]
 ·subst h3; decide
 by_cases h4 : t = [116, 101, 115, 116]
 ·subst h4; decide
 have g1 : (t == [97, 100, 100]) = false := by simpa using h1
 have g2 : (t == [114, 101, 109, 111, 118, 101]) = false := by simpa using h2
 have g3 : (t == [114, 101, 112, 108, 97, 99, 101]) = false := by simpa using h3
 have g4 : (t == [116, 101, 115, 116]) = false := by simpa using h4
 simp [g1, g2, g3, g4, h1, h2, h3, h4]
def readI (j : J) : JOp := ⟨1 + nameAt kindL (field j nmOp).s, wayV (field j nmPath).s, field j nmValue⟩
def readS (j : J) : JOp := ⟨kUp (field j nmOp) 5, wayV (field j nmPath).s, field j nmValue⟩
noncomputable def readB (j : J) : Bool := hasField j nmOp && (hasField j nmPath && (wayOk (field j nmPath).s && (opOk (readI j) && jsonSame (opJ (readI j)) j)))
noncomputable def readSB (j : J) : Bool := wayOk (field j nmPath).s && (kUp (field j nmOp) 5 != 0 && jsonSame (opJ (readS j)) j)
noncomputable def readO (j : J) : JOp := if readB j = true then readI j else ⟨0, [], J.null⟩
theorem op_at (o : JOp) : nameAt (opRaw o).names nmOp = 0 := by
 unfold opRaw opRaw0
 split <;> simp [nameAt, idxF, List.findIdx_cons]
theorem path_at (o : JOp) : nameAt (opRaw o).names nmPath = 1 := by
 have h : (nmPath.toList == nmOp.toList) = false := by unfold nmOp nmPath; rw [toList_mk, toList_mk]; decide
 unfold opRaw opRaw0
 split <;> simp [nameAt, idxF, List.findIdx_cons, h]
theorem field_op {o : JOp} (h : jsonOk (opRaw o) = true) : field (opRaw o) nmOp = txt (kindNm o.kind) ∧ hasField (opRaw o) nmOp = true ∧ hasField (opRaw o) nmPath = true := by
 unfold field hasField
 rw [h, op_at, path_at]
 refine ⟨?_, by decide, by decide⟩
 simp only [Bool.true_and]
 rw [if_pos (by decide)]
 unfold opRaw opRaw0
 split <;> rfl
theorem null_field (s : ByteArray) : hasField J.null s = false := by
 unfold hasField
 have : nameAt J.null.names s = -1 := rfl
 rw [this]; simp
theorem opJ_cases (o : JOp) : opJ o = J.null ∨ (opOk o = true ∧ jsonOk (opRaw o) = true ∧ opJ o = opRaw o) := by
 unfold opJ
 split
 ·rename_i h; exact .inr ⟨h.1, h.2, rfl⟩
 ·exact .inl rfl
theorem same_iff {x y : J} : jsonSame x y = true ↔ jsonOk x = true ∧ jsonOk y = true ∧ x = y := by
 unfold jsonSame
 simp only [Bool.and_eq_true, eqv_iff]
theorem read_eq (j : J) : readSB j = readB j ∧ (readB j = true → readS j = readI j) := by
 have key : ∀ o, jsonSame (opJ o) j = true → (hasField j nmOp = true ∨ (field j nmOp).kind = 3) → opOk o = true ∧ (field j nmOp).kind = 3 ∧ hasField j nmOp = true ∧ hasField j nmPath = true := by
  intro o h h2
  obtain ⟨_, h4, h5⟩ := same_iff.1 h
  rcases opJ_cases o with h6 | ⟨h6, h7, h8⟩
  ·rw [h6] at h5
   subst h5
   have h9 := null_field nmOp
   rcases h2 with h2 | h2
   ·rw [h9] at h2; cases h2
   ·unfold field at h2
    unfold hasField at h9
    rw [h9] at h2
    exact absurd h2 (by decide)
  ·rw [h8] at h5
   subst h5
   obtain ⟨f1, f2, f3⟩ := field_op h7
   exact ⟨h6, by rw [f1]; rfl, f2, f3⟩
 have heq : (field j nmOp).kind = 3 → readS j = readI j := fun h => by
  unfold readS readI
  rw [kUp_yes _ (by simp [h])]
 have hSI : readSB j = true → readB j = true := fun h => by
  unfold readSB at h
  simp only [Bool.and_eq_true] at h
  obtain ⟨h1, h2, h3⟩ := h
  have hk : (field j nmOp).kind = 3 := by
   cases hb : ((field j nmOp).kind == 3)
   ·rw [kUp_no _ hb] at h2; simp at h2
   ·simpa using hb
  obtain ⟨k1, k2, k3, k4⟩ := key _ h3 (.inr hk)
  rw [heq hk] at h3 k1
  unfold readB
  simp [h1, h3, k1, k3, k4]
 have hIS : readB j = true → readSB j = true ∧ readS j = readI j := fun h => by
  unfold readB at h
  simp only [Bool.and_eq_true] at h
  obtain ⟨h1, h2, h3, h4, h5⟩ := h
  obtain ⟨k1, k2, k3, k4⟩ := key _ h5 (.inl h1)
  have he := heq k2
  refine ⟨?_, he⟩
  have hk : kUp (field j nmOp) 5 ≠ 0 := by
   have : (readS j).kind ≠ 0 := by
    rw [he]
    have := h4
    unfold opOk at this
    simp only [Bool.and_eq_true] at this
    have := (inB_iff.1 this.2.1).1
    omega
   exact this
  unfold readSB
  rw [he]
  simp [h3, h5, hk]
 refine ⟨?_, fun h => (hIS h).2⟩
 cases h : readB j
 ·cases h2 : readSB j
  ·rfl
  ·rw [hSI h2] at h; cases h
 ·exact (hIS h).1
def firstRow (l : List Row) (id : Int) : Option Row := l.find? (fun x => x.id == id)
theorem rowAt_first (l : List Row) (id : Int) : (firstRow l id = none ∧ rowAt l id = -1) ∨ ∃ j, ∃ h : j < l.length, rowAt l id = (j : Int) ∧ firstRow l id = some l[j] := by
 rcases idxF_cases (fun x : Row => x.id == id) l with ⟨h1, h2⟩ | ⟨h1, h2⟩
 ·left
  refine ⟨?_, h1⟩
  unfold firstRow
  rw [List.find?_eq_none]
  intro x hx
  have := List.findIdx_eq_length.1 h2 x hx
  simpa using this
 ·right
  refine ⟨_, h2, h1, ?_⟩
  unfold firstRow
  rw [List.find?_eq_some_iff_getElem]
  exact ⟨List.findIdx_getElem (w := h2), _, h2, rfl, fun j hj => by have := List.not_of_lt_findIdx hj; simpa using this⟩
theorem first_ins (a b : List Row) (r : Row) (id : Int) (h : r.id ≠ id) : firstRow (a ++ r :: b) id = firstRow (a ++ b) id := by
 unfold firstRow
 rw [List.find?_append, List.find?_append, List.find?_cons]
 rw [show (r.id == id) = false by simpa using h]
theorem first_put_ne (l : List Row) (r : Row) (id : Int) (h : r.id ≠ id) : firstRow (rowPut l r) id = firstRow l id := by
 unfold rowPut
 split
 ·rename_i hlt
  have h1 : l[l.findIdx (fun x => x.id == r.id)].id = r.id := by simpa using List.findIdx_getElem (xs := l) (p := fun x : Row => x.id == r.id) (w := hlt)
  generalize hq : l.findIdx (fun x => x.id == r.id) = q at hlt h1
  rw [List.set_eq_take_append_cons_drop, if_pos hlt, first_ins _ _ _ _ h]
  have h2 : l = l.take q ++ l[q] :: l.drop (q + 1) := by rw [List.getElem_cons_drop, List.take_append_drop]
  rw [h2, first_ins _ _ l[q] id (by rw [h1]; exact h)]
  have h3 : (l.take q ++ l[q] :: l.drop (q + 1)).take q = l.take q := by rw [← h2]
  have h4 : (l.take q ++ l[q] :: l.drop (q + 1)).drop (q + 1) = l.drop (q + 1) := by rw [← h2]
  rw [h3, h4]
 ·rw [first_ins _ _ _ _ h, List.take_append_drop]
theorem first_put (l : List Row) (r : Row) : firstRow (rowPut l r) r.id = some r := by
 unfold rowPut
 split
 ·rename_i hlt
  rw [List.set_eq_take_append_cons_drop, if_pos hlt]
  unfold firstRow
  rw [List.find?_append, List.find?_cons]
  have h1 : (l.take (l.findIdx (fun x => x.id == r.id))).find? (fun x => x.id == r.id) = none := by
   rw [List.find?_eq_none]
   intro x hx
   obtain ⟨j, hj, rfl⟩ := List.mem_take_iff_getElem.1 hx
   have := List.not_of_lt_findIdx (p := fun x : Row => x.id == r.id) (xs := l) (i := j) (by omega)
   simpa using this
  rw [h1]
  simp
 ·rename_i hlt
  unfold firstRow
  rw [List.find?_append, List.find?_cons]
  have h1 : (l.take (l.findIdx (fun x => decide (r.id < x.id)))).find? (fun x => x.id == r.id) = none := by
   rw [List.find?_eq_none]
   intro x hx hb
   exact hlt (List.findIdx_lt_length_of_exists ⟨x, List.mem_of_mem_take hx, hb⟩)
  rw [h1]
  simp
theorem drop_gone (l : List Row) (id : Int) (h : IdsP l) : rowAt (rowDrop l id) id = -1 := by
 rcases rowAt_first (rowDrop l id) id with ⟨_, h1⟩ | ⟨j, hj, h1, h2⟩
 ·exact h1
 ·exfalso
  have h3 : (rowDrop l id)[j].id = id := by
   unfold firstRow at h2
   simpa using List.find?_some h2
  unfold rowDrop at hj h3
  rw [List.getElem_eraseIdx] at h3
  have hl : (l.eraseIdx (l.findIdx (fun r => r.id == id))).length ≤ l.length := List.length_eraseIdx_le _ _
  have key : ∀ a (ha : a < l.length), a ≠ l.findIdx (fun r => r.id == id) → l[a].id ≠ id := by
   intro a ha hne he
   have hlt : l.findIdx (fun r => r.id == id) < l.length := List.findIdx_lt_length_of_exists ⟨l[a], List.getElem_mem ha, by simpa using he⟩
   have hq : l[l.findIdx (fun r => r.id == id)].id = id := by simpa using List.findIdx_getElem (xs := l) (p := fun x : Row => x.id == id) (w := hlt)
   apply hne
   have h4 : (l.map Row.id)[a]'(by simpa using ha) = (l.map Row.id)[l.findIdx (fun r => r.id == id)]'(by simpa using hlt) := by
    simp only [List.getElem_map]
    rw [he, hq]
   exact (List.getElem_inj h).1 h4
  split at h3
  ·rename_i hb
   exact key j _ (by omega) h3
  ·rename_i hb
   exact key (j + 1) _ (by omega) h3
theorem put_has (l : List Row) (r : Row) : ∃ q, ∃ h : q < (rowPut l r).length, rowAt (rowPut l r) r.id = (q : Int) ∧ (rowPut l r)[q] = r := by
 rcases rowAt_first (rowPut l r) r.id with ⟨h1, _⟩ | ⟨j, hj, h1, h2⟩
 ·rw [first_put] at h1; cases h1
 ·rw [first_put] at h2
  injection h2 with h2
  exact ⟨j, hj, h1, h2.symm⟩
theorem put_keeps (l : List Row) (r : Row) (i : Nat) (hi : i < l.length) (hne : l[i].id ≠ r.id) : ∃ j, ∃ h : j < (rowPut l r).length, rowAt (rowPut l r) l[i].id = (j : Int) ∧ (rowAt l l[i].id = (i : Int) → (rowPut l r)[j] = l[i]) := by
 rcases rowAt_first (rowPut l r) l[i].id with ⟨h1, _⟩ | ⟨j, hj, h1, h2⟩
 ·rw [first_put_ne _ _ _ (Ne.symm hne)] at h1
  unfold firstRow at h1
  rw [List.find?_eq_none] at h1
  exact absurd (by simp) (h1 l[i] (List.getElem_mem hi))
 ·refine ⟨j, hj, h1, fun h3 => ?_⟩
  rw [first_put_ne _ _ _ (Ne.symm hne)] at h2
  rcases rowAt_first l l[i].id with ⟨_, h5⟩ | ⟨k, hk, h5, h6⟩
  ·omega
  ·obtain rfl : k = i := by omega
   rw [h6] at h2
   injection h2 with h2
   exact h2.symm
theorem laws_big (A : Option Addr) (c : Nat) (bs : List Int) (w : World) (hm : bs.length ≤ 9223372036854775807) : Calls Tryd.prog 7 #[.slice A bs.length c] w fun e w' => e = .returned (.bool (decide ((1048576 : Int) < bs.length))) ∧ w = w' := by
 go_enter Tryd.func7, Tryd.ntmps7
 go_wp2
 go_ret
 exact ⟨rfl, rfl⟩
end Go.Proofs.YtoaifagjdjgcbaaDoor.X
namespace Go.Proofs.YtoaifagjdjgcbaaDoor.X
open Go.RowKit Go.Sort
set_option linter.unusedVariables false
set_option linter.unusedSimpArgs false
open Ty
set_option maxHeartbeats 16000000 in
set_option maxRecDepth 100000 in
theorem laws_FnWays {w : World} (A0 : Option Addr) (c0 : Nat) (bs : List Int) (hv0 : bs.length ≤ c0) (hk0 : u8.C w A0 bs) (hT : EnvT w) (hE : EnvE w) (hM : EnvM w) :
  Calls Tryd.prog 6 #[.slice A0 bs.length c0] w fun e w' => e = .returned (.bool true) ∧ Below w.heap.size w w' := by
 have hm := hk0.1
 have HBS := Hd.mk hk0; clear hk0
 have HT := Hd.mk hT; have HE := Hd.mk hE; have HM := Hd.mk hM; clear hT hE hM
 have hB := Hd.mk (Below.refl w.heap.size w)
 go_enter Tryd.func6, Tryd.ntmps6
 go_wp2_with fail
 refine (laws_big _ _ bs w hm).mono ?_
 rintro e w1 ⟨rfl, rfl⟩
 by_cases hbig : (1048576 : Int) < bs.length
 ·have hbb : decide ((1048576 : Int) < bs.length) = true := decide_eq_true hbig
  rw [hbb]
  go_wp2_with fail
  go_ret
  exact ⟨rfl, Below.refl _ _⟩
 have hbb : decide ((1048576 : Int) < bs.length) = false := decide_eq_false hbig
 rw [hbb]
 have hbs : bs.length ≤ 1048576 := by omega
 clear hbig hbb
 go_wp2_with fail
 refine (spec_DrawWayText _ _ bs _ (C_below HBS.out hB.out) hbs).mono ?_
 rintro e w1 ⟨v, l, rfl, hL, hl4, hls, hX⟩
 have hB := hB.th hX
 have hz_ := hX.size
 clear hX
 have z1 := Hd.mk hz_; clear hz_
 obtain ⟨AL, cL, hvL, hcL, _⟩ := R_C hL
 subst hvL
 have hL := Hd.mk (show str.R 9 w1 (rng w.heap.size w1.heap.size) _ l from R_bound hL)
 have hbl : bulkStringS l ≤ 244 := by have h1 := bulkL_le4 ByteArray.size 60 l hls; simp only [bulkStringS]; omega
 clear hls
 go_wp2_with fail
 refine (impl_WayText AL cL l _ (R_Cv hL.out) (by omega) (envM_mv hB.out HM.out)).mono ?_
 rintro e w2 ⟨rfl, hX⟩
 have hL := Hd.mk (R_below hL.out hX)
 have hB := hB.th hX
 have hz_ := hX.size
 clear hX
 have z2 := Hd.mk hz_; clear hz_
 have hwb := way_back l (by omega)
 obtain ⟨s, hs⟩ : ∃ z : ByteArray, z = ⟨(wayB l).toArray⟩ := ⟨_, rfl⟩
 have hs6 : s.size ≤ 488 := by rw [hs]; have h1 := wayB_len l; show (wayB l).toArray.size ≤ 488; simp; omega
 rw [← hs] at hwb ⊢
 have HS := Hd.mk hs; clear hs
 have HWB := Hd.mk hwb; clear hwb
 have hss : (s.toList != s.toList) = false := by simp
 go_wp2_with fail
 refine (impl_WayRead s _ (by omega) (envM_mv hB.out HM.out)).mono ?_
 rintro e w3 ⟨v, rfl, hV, hX⟩
 have hL := Hd.mk (R_below hL.out hX)
 have hB := hB.th hX
 have hz_ := hX.size
 clear hX
 have z3 := Hd.mk hz_; clear hz_
 rw [HWB.out.2] at hV
 rw [HWB.out.1]
 obtain ⟨AV, cV, hvV, hcV, _⟩ := R_C hV
 subst hvV
 have hV := Hd.mk (show str.R 9 w3 (rng w2.heap.size w3.heap.size) _ l from R_bound hV)
 go_wp2_with fail
 refine (spec_WayText AL cL l _ (R_Cv hL.out) (by omega)).mono ?_
 rintro e w4 ⟨rfl, hX⟩
 have hL := Hd.mk (R_below hL.out hX)
 have hV := Hd.mk (R_below hV.out hX)
 have hB := hB.th hX
 have hz_ := hX.size
 clear hX
 have z4 := Hd.mk hz_; clear hz_
 rw [← HS.out]
 go_wp2_with fail
 refine (laws_sameTexts AV AL cV cL _ (R_Cv hV.out) (R_Cv hL.out)).mono ?_
 rintro e w5 ⟨rfl, hX⟩
 have hL := Hd.mk (R_below hL.out hX)
 have hV := Hd.mk (R_below hV.out hX)
 have hB := hB.th hX
 have hz_ := hX.size
 clear hX
 have z5 := Hd.mk hz_; clear hz_
 clear hV hL
 go_wp2_with fail
 refine (spec_DrawWayRead _ _ bs _ (C_below HBS.out hB.out) hbs).mono ?_
 rintro e w6 ⟨t, rfl, ht, hX⟩
 have hB := hB.th hX
 have hz_ := hX.size
 clear hX
 have z6 := Hd.mk hz_; clear hz_
 go_wp2_with fail
 refine (impl_WayRead t _ (by omega) (envM_mv hB.out HM.out)).mono ?_
 rintro e w7 ⟨v, rfl, hV, hX⟩
 have hB := hB.th hX
 have hz_ := hX.size
 clear hX
 have z7 := Hd.mk hz_; clear hz_
 obtain ⟨q, hq⟩ : ∃ z, z = wayV t := ⟨_, rfl⟩
 have HQ := Hd.mk hq
 have hbq : bulkStringS q ≤ 2000 := by rw [hq]; exact Nat.le_trans (bulk_wayV t) ht
 rw [← hq] at hV
 clear hq
 obtain ⟨AV, cV, hvV, hcV, _⟩ := R_C hV
 subst hvV
 have hV := Hd.mk (show str.R 9 w7 (rng w6.heap.size w7.heap.size) _ q from R_bound hV)
 obtain ⟨ok, hok⟩ : ∃ z, z = wayOk t := ⟨_, rfl⟩
 rw [← hok]
 have HOK := Hd.mk hok; clear hok
 go_wp2_with fail
 refine (spec_WayRead t _ (by omega)).mono ?_
 rintro e w8 ⟨v, rfl, _, hX⟩
 have hV := Hd.mk (R_below hV.out hX)
 have hB := hB.th hX
 have hz_ := hX.size
 clear hX
 have z8 := Hd.mk hz_; clear hz_
 rw [← HOK.out]
 have hoo : (ok == ok) = true := by cases ok <;> rfl
 go_wp2_with fail
 refine (spec_DrawIndexOf _ _ bs _ (C_below HBS.out hB.out) hbs).mono ?_
 rintro e w9 ⟨u, rfl, hu, hX⟩
 have hV := Hd.mk (R_below hV.out hX)
 have hB := hB.th hX
 have hz_ := hX.size
 clear hX
 have z9 := Hd.mk hz_; clear hz_
 go_wp2_with fail
 refine (impl_IndexOf u _ (by omega) (envT_mv hB.out HT.out) (envE_mv hB.out HE.out)).mono ?_
 rintro e w10 ⟨rfl, hX⟩
 have hV := Hd.mk (R_below hV.out hX)
 have hB := hB.th hX
 have hz_ := hX.size
 clear hX
 have z10 := Hd.mk hz_; clear hz_
 obtain ⟨z, hz⟩ : ∃ z, z = idxI u.data.toList := ⟨_, rfl⟩
 rw [← hz]
 rw [idx_eq] at hz
 have hzz : (z == z) = true := by simp
 go_wp2_with fail
 refine (spec_IndexOf u _ (by omega)).mono ?_
 rintro e w11 ⟨rfl, hX⟩
 have hV := Hd.mk (R_below hV.out hX)
 have hB := hB.th hX
 have hz_ := hX.size
 clear hX
 have z11 := Hd.mk hz_; clear hz_
 rw [← hz]
 clear hz
 cases ok
 ·have hq0 : q = [] := by rw [HQ.out]; exact way_none HOK.out.symm
  have hql : q.length = 0 := by rw [hq0]; rfl
  clear hq0 hV
  rw [hql]
  go_wp2_with fail
  go_ret
  exact ⟨by rfl, hB.out⟩
 ·go_wp2_with fail
  refine (impl_WayText AV cV q _ (R_Cv hV.out) (by omega) (envM_mv hB.out HM.out)).mono ?_
  rintro e w12 ⟨rfl, hX⟩
  have hV := Hd.mk (R_below hV.out hX)
  have hB := hB.th hX
  have hz_ := hX.size
  clear hX
  have z12 := Hd.mk hz_; clear hz_
  rw [show (⟨(wayB q).toArray⟩ : ByteArray) = t by rw [HQ.out]; exact (way_text HOK.out.symm).1]
  have htt : (t.toList == t.toList) = true := by simp
  go_wp2_with fail
  go_ret
  exact ⟨by rfl, hB.out⟩
end Go.Proofs.YtoaifagjdjgcbaaDoor.X
namespace Go.Proofs.YtoaifagjdjgcbaaDoor.X
open Go.RowKit
set_option linter.unusedVariables false
set_option linter.unusedSimpArgs false
open Ty
def Opens {α : Type} (d : Ty α) (P : Program) (t : TypeId) (wf : α → Prop) (B : Nat) : Prop :=
 ∀ (H : Type) (enc : TypeId × Value → H) (W : World) (base : Nat) (spare : Nat → Bool) (held : Bool) (fuel : Nat) (_ : fuel ≤ B) (cs : List Value) (x : DataW H × List MemPlace),
  DataW.trod enc P W base spare held fuel t cs = some x → ∃ v : α, d.K W v cs ∧ wf v
section
variable {P : Program} {t e : TypeId} {B : Nat}
theorem opens_int (ht : P.underlying t = some (.int .i64)) : Opens int P t (fun n => -9223372036854775808 ≤ n ∧ n ≤ 9223372036854775807) B := by
 intro H enc W base spare held fuel hB cs x h
 obtain ⟨n, rfl, _, hw⟩ := DataW.trod_int ht h
 exact ⟨n, rfl, bounds_i64 hw⟩
theorem opens_bool (ht : P.underlying t = some .bool) : Opens Ty.bool P t (fun _ => True) B := by
 intro H enc W base spare held fuel hB cs x h
 obtain ⟨n, rfl, _⟩ := DataW.trod_bool ht h
 exact ⟨n, rfl, trivial⟩
theorem opens_str (ht : P.underlying t = some .string) : Opens str P t (fun s => s.size ≤ 9223372036854775807) B := by
 intro H enc W base spare held fuel hB cs x h
 obtain ⟨s, rfl, _, hs⟩ := DataW.trod_string ht h
 exact ⟨s, ⟨rfl, by simpa [maxLen] using hs⟩, by simpa [maxLen] using hs⟩
theorem opens_sl {α : Type} {d : Ty α} {wf : α → Prop} {e' : TypeId} (ht : P.underlying t = some (.slice e)) (hc : P.cellsOf e = d.sz) (ho : Opens d P e wf B) : Opens (sl e' d) P t (fun l => ∀ x ∈ l, wf x) B := by
 intro H enc W base spare held fuel hB cs x h
 rcases DataW.trod_slice ht h with ⟨rfl, _⟩ | ⟨a, len, cap, elems, rest, n, hfu, rfl, _, hb, hl, hm, hel, hx, _⟩
 ·exact ⟨[], ⟨none, 0, rfl, Nat.le_refl _, C_nil _⟩, by simp⟩
 ·have key : ∀ i, i < len → ∃ (v : α) (cs : List Value), d.K W v cs ∧ wf v ∧ ∀ j u, cs[j]? = some u → W.cell? (a.add (i * d.sz + j)) = some u := by
   intro i hi
   have h1 := hx i hi
   rw [List.getElem?_eq_getElem (by omega)] at h1
   obtain ⟨cs, h2, h3⟩ := Option.bind_eq_some_iff.1 h1
   obtain ⟨_, h4, h5⟩ := World.cells?_some h2
   obtain ⟨v, hk, hw⟩ := ho H enc W base spare held n (by omega) cs _ h3
   refine ⟨v, cs, hk, hw, fun j u hu => ?_⟩
   have hj : j < cs.length := (List.getElem?_eq_some_iff.1 hu).1
   rw [← hc, ← Addr.add_add, h5 j (by omega), hu]
  have hg : ∀ i x, (List.ofFn (fun i : Fin len => Classical.choose (key i i.2)))[i]? = some x → ∃ hi : i < len, x = Classical.choose (key i hi) := by
   intro i x hi
   rw [List.getElem?_ofFn] at hi
   split at hi
   ·rename_i h1; injection hi with hi; exact ⟨h1, hi.symm⟩
   ·cases hi
  have hll : (List.ofFn (fun i : Fin len => Classical.choose (key i i.2))).length = len := by simp
  refine ⟨List.ofFn (fun i : Fin len => Classical.choose (key i i.2)), ⟨some a, cap, by rw [hll], by rw [hll]; exact hl, by rw [hll]; simp only [maxLen] at hm; omega, fun i x hi => ?_⟩, fun x hx => ?_⟩
  ·obtain ⟨h1, rfl⟩ := hg i x hi
   obtain ⟨cs, hk, _, hcell⟩ := Classical.choose_spec (key i h1)
   exact ⟨a, cs, rfl, hk, hcell⟩
  ·obtain ⟨i, hi⟩ := List.mem_iff_getElem?.1 hx
   obtain ⟨h1, rfl⟩ := hg i x hi
   obtain ⟨cs, _, hw, _⟩ := Classical.choose_spec (key i h1)
   exact hw
theorem pr_split {α β : Type} {a : Ty α} {b : Ty β} {w : World} {x : α} {y : β} {cs : List Value} (k : Nat) (h1 : a.K w x (cs.take k)) (h2 : b.K w y (cs.drop k)) : (pr a b).K w (x, y) cs :=
 ⟨_, _, (List.take_append_drop k cs).symm, h1, h2⟩
theorem opens_fields {H : Type} {enc : TypeId × Value → H} {W : World} {base : Nat} {spare : Nat → Bool} {held : Bool} {fuel : Nat} {cs : List Value} {x : DataW H × List MemPlace} {fs : Array Field} (ht : P.underlying t = some (.struct fs)) (h : DataW.trod enc P W base spare held fuel t cs = some x) :
  cs.length = P.cellsOf t ∧ ∃ n, n < fuel ∧ ∀ (i : Nat) (f : Field), fs[i]? = some f → ∃ y, DataW.trod enc P W base spare held n f.type ((cs.drop f.offset).take (P.cellsOf f.type)) = some y := by
 obtain ⟨xs, n, hfu, _, hl, hxl, hf⟩ := DataW.trod_struct ht h
 refine ⟨hl, n, by omega, fun i f hi => ?_⟩
 have := hf i f hi
 rw [List.getElem?_eq_getElem (by rw [hxl]; exact (Array.getElem?_eq_some_iff.1 hi).1)] at this
 exact ⟨_, this⟩
end
open Go.RowKit
def I64 (n : Int) : Prop := -9223372036854775808 ≤ n ∧ n ≤ 9223372036854775807
theorem cells_int : Tryd.prog.cellsOf 3 = 1 := by kernel_rfl
theorem o_int (B : Nat) : Opens int Tryd.prog 3 (I64) B := opens_int Tryd.underlying3
theorem cells_bool : Tryd.prog.cellsOf 4 = 1 := by kernel_rfl
theorem o_bool (B : Nat) : Opens Ty.bool Tryd.prog 4 (fun _ => True) B := opens_bool Tryd.underlying4
theorem cells_ints : Tryd.prog.cellsOf 64 = 1 := by kernel_rfl
theorem o_ints (B : Nat) : Opens (sl 3 int) Tryd.prog 64 (fun l => ∀ x ∈ l, I64 x) B := opens_sl Tryd.underlying64 cells_int (o_int B)
theorem cells_str : Tryd.prog.cellsOf 9 = 1 := by kernel_rfl
theorem o_str (B : Nat) : Opens str Tryd.prog 9 (fun s => s.size ≤ 9223372036854775807) B := opens_str Tryd.underlying9
theorem cells_strs : Tryd.prog.cellsOf 25 = 1 := by kernel_rfl
theorem o_strs (B : Nat) : Opens (sl 9 str) Tryd.prog 25 (fun l => ∀ x ∈ l, x.size ≤ 9223372036854775807) B := opens_sl Tryd.underlying25 cells_str (o_str B)
/-! The program's head says 'cut': read off its first word alone (the kernel doesn't walk the whole text of the head). -/
theorem cut_of {P : Program} (l : List Char) (h : P.initOrder = String.ofList l) (h2 : ((behindMainWord (wordsSigns l)).head? == some "cut".toList) = true) : ∃ rest, behindMainWord (wordsSigns P.initOrder.toList) = "cut".toList :: rest := by
 rw [h, String.toList_ofList]
 cases hb : behindMainWord (wordsSigns l) with
 | nil => rw [hb] at h2; cases h2
 | cons c r =>
  rw [hb] at h2
  have : c = "cut".toList := by simpa using h2
  exact ⟨r, by rw [this]⟩
theorem make_cut {P : Program} (h : ∃ rest, behindMainWord (wordsSigns P.initOrder.toList) = "cut".toList :: rest) : P.make = some .cut := by
 obtain ⟨r, h⟩ := h
 unfold Program.make
 rw [h]
 rfl
theorem lifts_cut {P : Program} (h : ∃ rest, behindMainWord (wordsSigns P.initOrder.toList) = "cut".toList :: rest) : P.headLifts = [] := by
 obtain ⟨r, h⟩ := h
 unfold Program.headLifts
 rw [h]
 rfl
theorem final_cut {P : Program} (h : ∃ rest, behindMainWord (wordsSigns P.initOrder.toList) = "cut".toList :: rest) : P.liftsFinal = false := by
 have h1 := lifts_cut h
 obtain ⟨r, h⟩ := h
 unfold Program.liftsFinal
 rw [h1, h]
 rfl
theorem enter_cut {P : Program} (h : ∃ rest, behindMainWord (wordsSigns P.initOrder.toList) = "cut".toList :: rest) (h2 : (!P.laysLater && !P.bearsReflect && P.doorFits []) = true) : P.mayEnter = true := by
 obtain ⟨r, h⟩ := h
 simp only [Bool.and_eq_true] at h2
 unfold Program.mayEnter
 rw [h]
 have e : stripLifts liftWords ("cut".toList :: r) = ([], "cut".toList :: r) := rfl
 simp only [e, h2.1.1, h2.1.2, h2.2]
 rfl
set_option maxRecDepth 100000 in
theorem head_cut : ∃ rest, behindMainWord (wordsSigns Tryd.prog.initOrder.toList) = "cut".toList :: rest := cut_of _ rfl (by kernel_rfl)
theorem enter_ : Tryd.prog.mayEnter = true := enter_cut head_cut (by kernel_rfl)
theorem final_ : (false == Tryd.prog.liftsFinal) = true := by rw [final_cut head_cut]; rfl
theorem make_ : (Tryd.prog.make == some .cut) = true := by rw [make_cut head_cut]; rfl
theorem andB {a b : Bool} (ha : a = true) (hb : b = true) : (a && b) = true := by rw [ha, hb]; rfl
theorem opens_u8 {P : Program} {t : TypeId} {B : Nat} (ht : P.underlying t = some (.int .u8)) : Opens u8 P t (fun _ => True) B := by
 intro H enc W base spare held fuel hB cs x h
 obtain ⟨n, rfl, _, _⟩ := DataW.trod_int ht h
 exact ⟨n, rfl, trivial⟩
theorem cells_u8 : Tryd.prog.cellsOf 5 = 1 := by kernel_rfl
theorem o_bytes (B : Nat) : Opens (sl 5 u8) Tryd.prog 22 (fun l => ∀ x ∈ l, True) B := opens_sl Tryd.underlying22 cells_u8 (opens_u8 Tryd.underlying5)
end Go.Proofs.YtoaifagjdjgcbaaDoor.X
