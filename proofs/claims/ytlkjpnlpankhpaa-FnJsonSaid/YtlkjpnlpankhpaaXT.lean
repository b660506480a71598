/- What is proved here: the program's own types, as they lie in memory. Conditions: none. -/
import Derived.Test.YtlkjpnlpankhpaaX0
namespace Go.Proofs.Ytlkjpnlpankhpaa.X
open Go.RowKit
set_option linter.unusedVariables false
set_option linter.unusedSimpArgs false

structure Row where
  id : Int
  cells : List Int
  deriving DecidableEq
structure Store where
  cols : List Int
  ver : Int
  tabs : List (List Row)
  deriving DecidableEq
structure Mut where
  kind : Int
  table : Int
  row : Row
structure Change where
  table : Int
  had : Bool
  has : Bool
  old : Row
  new : Row
  deriving DecidableEq
inductive J where
  | mk (kind n : Int) (s : ByteArray) (list : List J) (names : List ByteArray)
namespace J
def kind : J → Int | mk k _ _ _ _ => k
def n : J → Int | mk _ n _ _ _ => n
def s : J → ByteArray | mk _ _ s _ _ => s
def list : J → List J | mk _ _ _ l _ => l
def names : J → List ByteArray | mk _ _ _ _ l => l
@[simp] theorem kind_mk (k n : Int) (s : ByteArray) (l : List J) (ns : List ByteArray) : (mk k n s l ns).kind = k := rfl
@[simp] theorem n_mk (k n : Int) (s : ByteArray) (l : List J) (ns : List ByteArray) : (mk k n s l ns).n = n := rfl
@[simp] theorem s_mk (k n : Int) (s : ByteArray) (l : List J) (ns : List ByteArray) : (mk k n s l ns).s = s := rfl
@[simp] theorem list_mk (k n : Int) (s : ByteArray) (l : List J) (ns : List ByteArray) : (mk k n s l ns).list = l := rfl
@[simp] theorem names_mk (k n : Int) (s : ByteArray) (l : List J) (ns : List ByteArray) : (mk k n s l ns).names = ns := rfl
theorem eta : ∀ j : J, mk j.kind j.n j.s j.list j.names = j
  | mk _ _ _ _ _ => rfl
def null : J := mk 0 0 ByteArray.empty [] []
end J
structure JOp where
  kind : Int
  way : List ByteArray
  value : J

namespace Ty
theorem scal_K {α : Type} {enc : α → Value} {h1 : ∀ x, (enc x).oneCell' = true} {w : World} {x : α} {cs : List Value} : (scal enc h1).K w x cs ↔ cs = [enc x] := Iff.rfl
theorem sl_K {α : Type} {e : TypeId} {d : Ty α} {w : World} {xs : List α} {cs : List Value} : (sl e d).K w xs cs ↔ ∃ A c, cs = [.slice A xs.length c] ∧ xs.length ≤ c ∧ d.C w A xs := Iff.rfl
theorem sl_O {α : Type} {e : TypeId} {d : Ty α} {w : World} {S : Nat → Prop} {xs : List α} {cs : List Value} : (sl e d).O w S xs cs ↔ ∃ v, cs = [v] ∧ d.R e w S v xs := Iff.rfl
theorem pr_scal_K {α β : Type} {enc : α → Value} {h1 : ∀ x, (enc x).oneCell' = true} {b : Ty β} {w : World} {x : α × β} {cs : List Value} : (pr (scal enc h1) b).K w x cs ↔ ∃ c1, cs = enc x.1 :: c1 ∧ b.K w x.2 c1 := by
  constructor
  · rintro ⟨c0, c1, rfl, h0, h1⟩
    exact ⟨c1, by rw [show c0 = [enc x.1] from h0]; rfl, h1⟩
  · rintro ⟨c1, rfl, h⟩
    exact ⟨[enc x.1], c1, rfl, rfl, h⟩
theorem pr_scal_O {α β : Type} {enc : α → Value} {h1 : ∀ x, (enc x).oneCell' = true} {b : Ty β} {w : World} {S : Nat → Prop} {x : α × β} {cs : List Value} : (pr (scal enc h1) b).O w S x cs ↔ ∃ c1, cs = enc x.1 :: c1 ∧ b.O w S x.2 c1 := by
  constructor
  · rintro ⟨c0, c1, f, rfl, h0, h1⟩
    exact ⟨c1, by rw [show c0 = [enc x.1] from h0]; rfl, b.O_mono (fun _ h => h.1) h1⟩
  · rintro ⟨c1, rfl, h⟩
    exact ⟨[enc x.1], c1, fun _ => false, rfl, rfl, b.O_mono (fun _ h => ⟨h, rfl⟩) h⟩
theorem int_K {w : World} {x : Int} {cs : List Value} : int.K w x cs ↔ cs = [.int .i64 x] := Iff.rfl
theorem bool_K {w : World} {x : Bool} {cs : List Value} : Ty.bool.K w x cs ↔ cs = [.bool x] := Iff.rfl
theorem str_K {w : World} {x : ByteArray} {cs : List Value} : str.K w x cs ↔ cs = [.string x] ∧ x.size ≤ 9223372036854775807 := Iff.rfl
theorem pr_int_K {β : Type} {b : Ty β} {w : World} {x : Int} {y : β} {cs : List Value} : (pr int b).K w (x, y) cs ↔ ∃ c1, cs = .int .i64 x :: c1 ∧ b.K w y c1 := pr_scal_K
theorem pr_bool_K {β : Type} {b : Ty β} {w : World} {x : Bool} {y : β} {cs : List Value} : (pr Ty.bool b).K w (x, y) cs ↔ ∃ c1, cs = .bool x :: c1 ∧ b.K w y c1 := pr_scal_K
theorem pr_str_K {β : Type} {b : Ty β} {w : World} {x : ByteArray} {y : β} {cs : List Value} : (pr str b).K w (x, y) cs ↔ ∃ c1, cs = .string x :: c1 ∧ x.size ≤ 9223372036854775807 ∧ b.K w y c1 := by
  constructor
  · rintro ⟨c0, c1, rfl, h0, h1⟩
    exact ⟨c1, by rw [show c0 = [.string x] from h0.1]; rfl, h0.2, h1⟩
  · rintro ⟨c1, rfl, h0, h⟩
    exact ⟨[.string x], c1, rfl, ⟨rfl, h0⟩, h⟩
theorem pr_int_O {β : Type} {b : Ty β} {w : World} {S : Nat → Prop} {x : Int} {y : β} {cs : List Value} : (pr int b).O w S (x, y) cs ↔ ∃ c1, cs = .int .i64 x :: c1 ∧ b.O w S y c1 := pr_scal_O
theorem pr_bool_O {β : Type} {b : Ty β} {w : World} {S : Nat → Prop} {x : Bool} {y : β} {cs : List Value} : (pr Ty.bool b).O w S (x, y) cs ↔ ∃ c1, cs = .bool x :: c1 ∧ b.O w S y c1 := pr_scal_O
theorem pr_str_O {β : Type} {b : Ty β} {w : World} {S : Nat → Prop} {x : ByteArray} {y : β} {cs : List Value} : (pr str b).O w S (x, y) cs ↔ ∃ c1, cs = .string x :: c1 ∧ x.size ≤ 9223372036854775807 ∧ b.O w S y c1 := by
  constructor
  · rintro ⟨c0, c1, f, rfl, h0, h1⟩
    exact ⟨c1, by rw [show c0 = [.string x] from h0.1]; rfl, h0.2, b.O_mono (fun _ h => h.1) h1⟩
  · rintro ⟨c1, rfl, h0, h⟩
    exact ⟨[.string x], c1, fun _ => false, rfl, ⟨rfl, h0⟩, b.O_mono (fun _ h => ⟨h, rfl⟩) h⟩
theorem pr_K {α β : Type} {a : Ty α} {b : Ty β} {w : World} {x : α × β} {cs : List Value} : (pr a b).K w x cs ↔ ∃ c0 c1, cs = c0 ++ c1 ∧ a.K w x.1 c0 ∧ b.K w x.2 c1 := Iff.rfl
theorem pr_O {α β : Type} {a : Ty α} {b : Ty β} {w : World} {S : Nat → Prop} {x : α × β} {cs : List Value} :
    (pr a b).O w S x cs ↔ ∃ c0 c1, ∃ T0 T1 : Nat → Prop, cs = c0 ++ c1 ∧ a.O w T0 x.1 c0 ∧ b.O w T1 x.2 c1 ∧ (∀ k, T0 k → S k) ∧ (∀ k, T1 k → S k) ∧ (∀ k, T0 k → ¬ T1 k) := by
  constructor
  · rintro ⟨c0, c1, f, rfl, h0, h1⟩
    exact ⟨c0, c1, _, _, rfl, h0, h1, fun k h => h.1, fun k h => h.1, fun k h h' => by rw [h.2] at h'; cases h'.2⟩
  · rintro ⟨c0, c1, T0, T1, rfl, h0, h1, hs0, hs1, hd⟩
    classical
    refine ⟨c0, c1, fun k => decide (T0 k), rfl, a.O_mono (fun k h => ⟨hs0 k h, by simpa using h⟩) h0, b.O_mono (fun k h => ⟨hs1 k h, ?_⟩) h1⟩
    simp only [decide_eq_false_iff_not]
    exact fun h' => hd k h' h
theorem iso_K {α β : Type} {d : Ty α} {f : β → α} {w : World} {x : β} {cs : List Value} : (iso d f).K w x cs ↔ d.K w (f x) cs := Iff.rfl
theorem iso_O {α β : Type} {d : Ty α} {f : β → α} {w : World} {S : Nat → Prop} {x : β} {cs : List Value} : (iso d f).O w S x cs ↔ d.O w S (f x) cs := Iff.rfl
theorem C_int_at {w W : World} {A : Option Addr} {l : List Int} (h : int.C w A l) (hb : Below w.heap.size w W) (k : Nat) (hk : k < l.length) : ∃ ad, A = some ad ∧ W.cell? (ad.add k) = some (.int .i64 l[k]) := by
  obtain ⟨ad, cs, rfl, _, h1, h2⟩ := C_get h 0 k hk
  have h1 : cs = [.int .i64 (l.getD k 0)] := h1
  have e : l.getD k 0 = l[k] := by simp [List.getD_eq_getElem?_getD, hk]
  rw [e] at h1
  refine ⟨ad, rfl, cell_below hb ?_⟩
  simpa [show int.sz = 1 from rfl] using h2 0 (.int .i64 l[k]) (by rw [h1]; rfl)
theorem C_str_at {w W : World} {A : Option Addr} {l : List ByteArray} (h : str.C w A l) (hb : Below w.heap.size w W) (k : Nat) (hk : k < l.length) : ∃ ad, A = some ad ∧ W.cell? (ad.add k) = some (.string l[k]) ∧ l[k].size ≤ 9223372036854775807 := by
  obtain ⟨ad, cs, rfl, _, h1, h2⟩ := C_get h ByteArray.empty k hk
  have h1 : cs = [.string (l.getD k ByteArray.empty)] ∧ (l.getD k ByteArray.empty).size ≤ 9223372036854775807 := h1
  have e : l.getD k ByteArray.empty = l[k] := by simp [List.getD_eq_getElem?_getD, hk]
  rw [e] at h1
  refine ⟨ad, rfl, cell_below hb ?_, h1.2⟩
  simpa [show str.sz = 1 from rfl] using h2 0 (.string l[k]) (by rw [h1.1]; rfl)
end Ty
open Ty
def tRow : Ty Row := iso (pr int (sl 3 int)) (fun r => (r.id, r.cells))
theorem tRow_sz : tRow.sz = 2 := rfl
theorem tRow_K {w : World} {r : Row} {cs : List Value} : tRow.K w r cs ↔ ∃ A c, cs = [.int .i64 r.id, .slice A r.cells.length c] ∧ r.cells.length ≤ c ∧ int.C w A r.cells := by
  simp only [tRow, iso_K, pr_int_K, sl_K]
  constructor
  · rintro ⟨_, rfl, A, c, rfl, h⟩; exact ⟨A, c, rfl, h⟩
  · rintro ⟨A, c, rfl, h⟩; exact ⟨_, rfl, A, c, rfl, h⟩
theorem tRow_O {w : World} {S : Nat → Prop} {r : Row} {cs : List Value} : tRow.O w S r cs ↔ ∃ v, cs = [.int .i64 r.id, v] ∧ int.R 3 w S v r.cells := by
  simp only [tRow, iso_O, pr_int_O, sl_O]
  constructor
  · rintro ⟨_, rfl, v, rfl, h⟩; exact ⟨v, rfl, h⟩
  · rintro ⟨v, rfl, h⟩; exact ⟨_, rfl, v, rfl, h⟩
theorem C_row_at {w W : World} {A : Option Addr} {l : List Row} (h : tRow.C w A l) (hb : Below w.heap.size w W) (k : Nat) (hk : k < l.length) : ∃ ad A1 c1, A = some ad ∧ W.cell? (ad.add (k * 2)) = some (.int .i64 l[k].id) ∧ W.cell? ⟨(ad.add (k * 2)).block, (ad.add (k * 2)).off + 1, none⟩ = some (.slice A1 l[k].cells.length c1) ∧ l[k].cells.length ≤ c1 ∧ int.C W A1 l[k].cells := by
  obtain ⟨ad, cs, rfl, hK, h0, h1⟩ := C_at h hb k hk
  obtain ⟨A1, c1, rfl, hc1, hr1⟩ := tRow_K.1 hK
  exact ⟨ad, A1, c1, rfl, h0 _ rfl, h1 0 _ rfl, hc1, hr1⟩
def tRows : Ty (List Row) := sl 47 tRow
def tStore : Ty Store := iso (pr (sl 3 int) (pr int (sl 79 tRows))) (fun s => (s.cols, s.ver, s.tabs))
theorem tStore_K {w : World} {r : Store} {cs : List Value} : tStore.K w r cs ↔ ∃ A c A2 c2, cs = [.slice A r.cols.length c, .int .i64 r.ver, .slice A2 r.tabs.length c2] ∧ (r.cols.length ≤ c ∧ int.C w A r.cols) ∧ r.tabs.length ≤ c2 ∧ tRows.C w A2 r.tabs := by
  simp only [tStore, iso_K]
  rw [pr_K]
  simp only [pr_int_K, sl_K]
  constructor
  · rintro ⟨_, _, rfl, ⟨A, c, rfl, h⟩, _, rfl, A2, c2, rfl, h2⟩; exact ⟨A, c, A2, c2, rfl, h, h2⟩
  · rintro ⟨A, c, A2, c2, rfl, h, h2⟩; exact ⟨_, _, rfl, ⟨A, c, rfl, h⟩, _, rfl, A2, c2, rfl, h2⟩
theorem tStore_O {w : World} {S : Nat → Prop} {r : Store} {cs : List Value} : tStore.O w S r cs ↔ ∃ v v2, ∃ T0 T1 : Nat → Prop, cs = [v, .int .i64 r.ver, v2] ∧ int.R 3 w T0 v r.cols ∧ tRows.R 79 w T1 v2 r.tabs ∧ (∀ k, T0 k → S k) ∧ (∀ k, T1 k → S k) ∧ (∀ k, T0 k → ¬ T1 k) := by
  simp only [tStore, iso_O]
  rw [pr_O]
  simp only [pr_int_O, sl_O]
  constructor
  · rintro ⟨_, _, T0, T1, rfl, ⟨v, rfl, h⟩, ⟨_, rfl, v2, rfl, h2⟩, h3⟩; exact ⟨v, v2, T0, T1, rfl, h, h2, h3⟩
  · rintro ⟨v, v2, T0, T1, rfl, h, h2, h3⟩; exact ⟨_, _, T0, T1, rfl, ⟨v, rfl, h⟩, ⟨_, rfl, v2, rfl, h2⟩, h3⟩
theorem C_rows_at {w W : World} {A : Option Addr} {l : List (List Row)} (h : tRows.C w A l) (hb : Below w.heap.size w W) (k : Nat) (hk : k < l.length) : ∃ ad A1 c1, A = some ad ∧ W.cell? (ad.add k) = some (.slice A1 l[k].length c1) ∧ l[k].length ≤ c1 ∧ tRow.C W A1 l[k] := by
  obtain ⟨ad, cs, rfl, hK, h0, h1⟩ := C_at h hb k hk
  obtain ⟨A1, c1, rfl, hc1, hr1⟩ := sl_K.1 hK
  exact ⟨ad, A1, c1, rfl, by simpa [show tRows.sz = 1 from rfl] using h0 _ rfl, hc1, hr1⟩
def tMut : Ty Mut := iso (pr int (pr int tRow)) (fun m => (m.kind, m.table, m.row))
theorem tMut_K {w : World} {m : Mut} {cs : List Value} : tMut.K w m cs ↔ ∃ A c, cs = [.int .i64 m.kind, .int .i64 m.table, .int .i64 m.row.id, .slice A m.row.cells.length c] ∧ m.row.cells.length ≤ c ∧ int.C w A m.row.cells := by
  simp only [tMut, iso_K]
  simp only [pr_int_K, tRow_K]
  constructor
  · rintro ⟨_, rfl, _, rfl, A, c, rfl, h⟩; exact ⟨A, c, rfl, h⟩
  · rintro ⟨A, c, rfl, h⟩; exact ⟨_, rfl, _, rfl, A, c, rfl, h⟩
theorem tMut_O {w : World} {S : Nat → Prop} {m : Mut} {cs : List Value} : tMut.O w S m cs ↔ ∃ v, cs = [.int .i64 m.kind, .int .i64 m.table, .int .i64 m.row.id, v] ∧ int.R 3 w S v m.row.cells := by
  simp only [tMut, iso_O]
  simp only [pr_int_O, tRow_O]
  constructor
  · rintro ⟨_, rfl, _, rfl, v, rfl, h⟩; exact ⟨v, rfl, h⟩
  · rintro ⟨v, rfl, h⟩; exact ⟨_, rfl, _, rfl, v, rfl, h⟩
def tChange : Ty Change := iso (pr int (pr Ty.bool (pr Ty.bool (pr tRow tRow)))) (fun c => (c.table, c.had, c.has, c.old, c.new))
theorem tChange_K {w : World} {m : Change} {cs : List Value} : tChange.K w m cs ↔ ∃ A c A2 c2, cs = [.int .i64 m.table, .bool m.had, .bool m.has, .int .i64 m.old.id, .slice A m.old.cells.length c, .int .i64 m.new.id, .slice A2 m.new.cells.length c2] ∧ (m.old.cells.length ≤ c ∧ int.C w A m.old.cells) ∧ m.new.cells.length ≤ c2 ∧ int.C w A2 m.new.cells := by
  simp only [tChange, iso_K]
  simp only [pr_int_K, pr_bool_K]
  simp only [pr_K, tRow_K]
  constructor
  · rintro ⟨_, rfl, _, rfl, _, rfl, _, _, rfl, ⟨A, c, rfl, h⟩, A2, c2, rfl, h2⟩; exact ⟨A, c, A2, c2, rfl, h, h2⟩
  · rintro ⟨A, c, A2, c2, rfl, h, h2⟩; exact ⟨_, rfl, _, rfl, _, rfl, _, _, rfl, ⟨A, c, rfl, h⟩, A2, c2, rfl, h2⟩
theorem tChange_O {w : World} {S : Nat → Prop} {m : Change} {cs : List Value} : tChange.O w S m cs ↔ ∃ v v2, ∃ T0 T1 : Nat → Prop, cs = [.int .i64 m.table, .bool m.had, .bool m.has, .int .i64 m.old.id, v, .int .i64 m.new.id, v2] ∧ int.R 3 w T0 v m.old.cells ∧ int.R 3 w T1 v2 m.new.cells ∧ (∀ k, T0 k → S k) ∧ (∀ k, T1 k → S k) ∧ (∀ k, T0 k → ¬ T1 k) := by
  simp only [tChange, iso_O]
  simp only [pr_int_O, pr_bool_O]
  simp only [pr_O, tRow_O]
  constructor
  · rintro ⟨_, rfl, _, rfl, _, rfl, _, _, T0, T1, rfl, ⟨v, rfl, h⟩, ⟨v2, rfl, h2⟩, h3⟩; exact ⟨v, v2, T0, T1, rfl, h, h2, h3⟩
  · rintro ⟨v, v2, T0, T1, rfl, h, h2, h3⟩; exact ⟨_, rfl, _, rfl, _, rfl, _, _, T0, T1, rfl, ⟨v, rfl, h⟩, ⟨v2, rfl, h2⟩, h3⟩
/-- A value that is nested less deep than m. -/
def tJ : Nat → Ty J
  | 0 => bot 5
  | m + 1 => iso (pr int (pr int (pr str (pr (sl 27 (tJ m)) (sl 9 str))))) (fun j => (j.kind, j.n, j.s, j.list, j.names))
theorem tJ_sz : ∀ m, (tJ m).sz = 5
  | 0 => rfl
  | _ + 1 => rfl
theorem tJ_K {m : Nat} {w : World} {j : J} {cs : List Value} : (tJ (m + 1)).K w j cs ↔ ∃ A c A2 c2, cs = [.int .i64 j.kind, .int .i64 j.n, .string j.s, .slice A j.list.length c, .slice A2 j.names.length c2] ∧ j.s.size ≤ 9223372036854775807 ∧ (j.list.length ≤ c ∧ (tJ m).C w A j.list) ∧ j.names.length ≤ c2 ∧ str.C w A2 j.names := by
  simp only [tJ, iso_K]
  simp only [pr_int_K, pr_str_K]
  simp only [pr_K, sl_K]
  constructor
  · rintro ⟨_, rfl, _, rfl, _, rfl, hs, _, _, rfl, ⟨A, c, rfl, h⟩, A2, c2, rfl, h2⟩; exact ⟨A, c, A2, c2, rfl, hs, h, h2⟩
  · rintro ⟨A, c, A2, c2, rfl, hs, h, h2⟩; exact ⟨_, rfl, _, rfl, _, rfl, hs, _, _, rfl, ⟨A, c, rfl, h⟩, A2, c2, rfl, h2⟩
theorem C_J_at {m : Nat} {w W : World} {A : Option Addr} {l : List J} (h : (tJ (m + 1)).C w A l) (hb : Below w.heap.size w W) (k : Nat) (hk : k < l.length) : ∃ ad A1 c1 A2 c2, A = some ad ∧ W.cell? (ad.add (k * 5)) = some (.int .i64 l[k].kind) ∧ W.cell? ⟨(ad.add (k * 5)).block, (ad.add (k * 5)).off + 1, none⟩ = some (.int .i64 l[k].n) ∧
    W.cell? ⟨(ad.add (k * 5)).block, (ad.add (k * 5)).off + 2, none⟩ = some (.string l[k].s) ∧ W.cell? ⟨(ad.add (k * 5)).block, (ad.add (k * 5)).off + 3, none⟩ = some (.slice A1 l[k].list.length c1) ∧ W.cell? ⟨(ad.add (k * 5)).block, (ad.add (k * 5)).off + 4, none⟩ = some (.slice A2 l[k].names.length c2) ∧
    l[k].s.size ≤ 9223372036854775807 ∧ (l[k].list.length ≤ c1 ∧ (tJ m).C W A1 l[k].list) ∧ l[k].names.length ≤ c2 ∧ str.C W A2 l[k].names := by
  obtain ⟨ad, cs, rfl, hK, h0, h1⟩ := C_at h hb k hk
  obtain ⟨A1, c1, A2, c2, rfl, hs, h2, h3⟩ := tJ_K.1 hK
  exact ⟨ad, A1, c1, A2, c2, rfl, h0 _ rfl, h1 0 _ rfl, h1 1 _ rfl, h1 2 _ rfl, h1 3 _ rfl, hs, h2, h3⟩
theorem tJ_O {m : Nat} {w : World} {S : Nat → Prop} {j : J} {cs : List Value} : (tJ (m + 1)).O w S j cs ↔ ∃ v v2, ∃ T0 T1 : Nat → Prop, cs = [.int .i64 j.kind, .int .i64 j.n, .string j.s, v, v2] ∧ j.s.size ≤ 9223372036854775807 ∧ (tJ m).R 27 w T0 v j.list ∧ str.R 9 w T1 v2 j.names ∧ (∀ k, T0 k → S k) ∧ (∀ k, T1 k → S k) ∧ (∀ k, T0 k → ¬ T1 k) := by
  simp only [tJ, iso_O]
  simp only [pr_int_O, pr_str_O]
  simp only [pr_O, sl_O]
  constructor
  · rintro ⟨_, rfl, _, rfl, _, rfl, hs, _, _, T0, T1, rfl, ⟨v, rfl, h⟩, ⟨v2, rfl, h2⟩, h3⟩; exact ⟨v, v2, T0, T1, rfl, hs, h, h2, h3⟩
  · rintro ⟨v, v2, T0, T1, rfl, hs, h, h2, h3⟩; exact ⟨_, rfl, _, rfl, _, rfl, hs, _, _, T0, T1, rfl, ⟨v, rfl, h⟩, ⟨v2, rfl, h2⟩, h3⟩
theorem tJ_le1 : ∀ m, Le (tJ m) (tJ (m + 1))
  | 0 => ⟨rfl, fun _ _ _ h => h.elim, fun _ _ _ _ h => h.elim⟩
  | m + 1 => ((Le.refl int).pr ((Le.refl int).pr ((Le.refl str).pr (((tJ_le1 m).sl _).pr (Le.refl _))))).iso _
theorem tJ_le {m k : Nat} (h : m ≤ k) : Le (tJ m) (tJ k) := by
  obtain ⟨i, rfl⟩ := Nat.exists_eq_add_of_le h
  clear h
  induction i with
  | zero => exact Le.refl _
  | succ i ih => exact ⟨ih.sz.trans (tJ_le1 _).sz, fun w x cs h => (tJ_le1 _).K _ _ _ (ih.K _ _ _ h), fun w S x cs h => (tJ_le1 _).O _ _ _ _ (ih.O _ _ _ _ h)⟩
def tOp (m : Nat) : Ty JOp := iso (pr int (pr (sl 9 str) (tJ m))) (fun o => (o.kind, o.way, o.value))
theorem tOp_sz (m : Nat) : (tOp m).sz = 7 := by show 1 + (1 + (tJ m).sz) = 7; rw [tJ_sz]
theorem tOp_K {m : Nat} {w : World} {o : JOp} {cs : List Value} : (tOp m).K w o cs ↔ ∃ A c c1, cs = .int .i64 o.kind :: .slice A o.way.length c :: c1 ∧ (o.way.length ≤ c ∧ str.C w A o.way) ∧ (tJ m).K w o.value c1 := by
  simp only [tOp, iso_K]
  simp only [pr_int_K, pr_str_K]
  simp only [pr_K, sl_K]
  constructor
  · rintro ⟨_, rfl, _, c1, rfl, ⟨A, c, rfl, h⟩, h2⟩; exact ⟨A, c, c1, rfl, h, h2⟩
  · rintro ⟨A, c, c1, rfl, h, h2⟩; exact ⟨_, rfl, _, c1, rfl, ⟨A, c, rfl, h⟩, h2⟩
theorem tOp_O {m : Nat} {w : World} {S : Nat → Prop} {o : JOp} {cs : List Value} : (tOp m).O w S o cs ↔ ∃ v c1, ∃ T0 T1 : Nat → Prop, cs = .int .i64 o.kind :: v :: c1 ∧ str.R 9 w T0 v o.way ∧ (tJ m).O w T1 o.value c1 ∧ (∀ k, T0 k → S k) ∧ (∀ k, T1 k → S k) ∧ (∀ k, T0 k → ¬ T1 k) := by
  simp only [tOp, iso_O]
  simp only [pr_int_O, pr_str_O]
  simp only [pr_O, sl_O]
  constructor
  · rintro ⟨_, rfl, _, c1, T0, T1, rfl, ⟨v, rfl, h⟩, h2⟩; exact ⟨v, c1, T0, T1, rfl, h, h2⟩
  · rintro ⟨v, c1, T0, T1, rfl, h, h2⟩; exact ⟨_, rfl, _, c1, T0, T1, rfl, ⟨v, rfl, h⟩, h2⟩
theorem tOp_le {m k : Nat} (h : m ≤ k) : Le (tOp m) (tOp k) := ((Le.refl int).pr ((Le.refl _).pr (tJ_le h))).iso _
end Go.Proofs.Ytlkjpnlpankhpaa.X
