/- What is proved here: how values of the program lie in memory, read or owned, and what steps of the machine leave of that. Conditions: none. -/
import Derived.Below
import Derived.OwnWalk
import Derived.Maps.AppendAt
import Derived.WalkKit
import Derived.KernelRfl
import Derived.Deep.LoopGhost
import Derived.BigQuiet
import Derived.Lib.QuietBelow
import Derived.Laws.MakeOwn
import Derived.Laws.OwnMore
namespace Go.Proofs.Ytlkjpnlpankhpaa.X
open Go.RowKit
set_option linter.unusedVariables false
set_option linter.unusedSimpArgs false

/-- A fact that the walk's simp doesn't look into. -/
structure Hd (p : Prop) : Prop where mk :: (out : p)

/-- A kind of value: what its cells say, read (K) and owned (O: all that it leads to lies in S, and no two parts of it share a block). -/
structure Ty (α : Type) where
  sz : Nat
  K : World → α → List Value → Prop
  O : World → (Nat → Prop) → α → List Value → Prop
  K_len : ∀ {w x cs}, K w x cs → cs.length = sz
  K_one : ∀ {w x cs}, K w x cs → ∀ u ∈ cs, u.oneCell' = true
  K_below : ∀ {w w1 : World} {x cs}, Below w.heap.size w w1 → K w x cs → K w1 x cs
  O_K : ∀ {w S x cs}, O w S x cs → K w x cs
  O_mono : ∀ {w} {S S' : Nat → Prop} {x cs}, (∀ k, S k → S' k) → O w S x cs → O w S' x cs
  O_bound : ∀ {w : World} {S x cs}, O w S x cs → O w (fun k => S k ∧ k < w.heap.size) x cs
  O_move : ∀ {w w1 : World} {S : Nat → Prop} {x cs}, (∀ k, S k → w1.heap[k]? = w.heap[k]?) → O w S x cs → O w1 S x cs

theorem below_alloc {w W : World} (h : Below w.heap.size w W) (o : Obj) : Below w.heap.size w (W.alloc o) := h.alloc h.size o
theorem below_drew {B : Nat} {w W : World} (h : Below B w W) : Below B w W.drew := ⟨h.os, h.tape, h.output, h.size, h.block⟩
theorem below_drewN {B : Nat} {w W : World} (h : Below B w W) (n : Nat) : Below B w (W.drewN n) := ⟨h.os, h.tape, h.output, h.size, h.block⟩
theorem below_then {w w1 w2 : World} (h : Below w.heap.size w w1) (k : Below w1.heap.size w1 w2) : Below w.heap.size w w2 :=
  h.trans ⟨k.os, k.tape, k.output, k.size, fun i hi => k.block i (Nat.lt_of_lt_of_le hi h.size)⟩
theorem cell_below {w w1 : World} (h : Below w.heap.size w w1) {a : Addr} {v : Value} (hc : w.cell? a = some v) : w1.cell? a = some v := (h.cell (World.block_lt_of_cell? w a hc)).trans hc

theorem frozen_below {w w1 : World} (h : Below w.heap.size w w1) {a : Addr} (ha : a.block < w.heap.size) (hf : w.frozen? a = false) : w1.frozen? a = false := (h.frozen ha).trans hf
theorem own_lt {w : World} {base : Nat} {e : TypeId} {size n : Nat} {v : Value} {xs : List Value} (h : w.ownsRow base e size v n xs) (k : Nat) (hk : v.ownBlock = some k) : k < w.heap.size := by
  rcases h.2 with ⟨rfl, _⟩ | ⟨g, cap, cur, rfl, hb, hh, _⟩
  · simp [Value.ownBlock] at hk
  · have : g = k := by simpa [Value.ownBlock] using hk
    subst this
    exact (Array.getElem?_eq_some_iff.1 hh).1
theorem own_move {w w1 : World} {base : Nat} {e : TypeId} {size n : Nat} {v : Value} {xs : List Value} (h : w.ownsRow base e size v n xs) (hm : ∀ k, v.ownBlock = some k → w1.heap[k]? = w.heap[k]?) : w1.ownsRow base e size v n xs := by
  obtain ⟨h1, h2⟩ := h
  refine ⟨h1, ?_⟩
  rcases h2 with h2 | ⟨g, cap, cur, rfl, hg, hh, r⟩
  · exact .inl h2
  · exact .inr ⟨g, cap, cur, rfl, hg, (hm g (by simp [Value.ownBlock])).trans hh, r⟩

/-- A block of one's own: a variable in memory. -/
def Blk (w : World) (g : Nat) (cs : Array Value) (t : TypeId) : Prop := w.heap[g]? = some (.cells cs t (0, 0))
namespace Blk
variable {w w1 : World} {g : Nat} {cs : Array Value} {t : TypeId}
theorem lt (h : Blk w g cs t) : g < w.heap.size := (Array.getElem?_eq_some_iff.1 h).1
theorem below (h : Blk w g cs t) (hb : Below w.heap.size w w1) : Blk w1 g cs t := (hb.block g h.lt).trans h
theorem cell (h : Blk w g cs t) (j : Nat) {v : Value} (hv : cs[j]? = some v) : w.cell? ⟨g, j, none⟩ = some v := by
  unfold World.cell?
  rw [show w.heap[(⟨g, j, none⟩ : Addr).block]? = some (.cells cs t (0, 0)) from h]
  simpa using hv
theorem frozen (h : Blk w g cs t) (j : Nat) : w.frozen? ⟨g, j, none⟩ = false := by
  unfold World.frozen?
  rw [show w.heap[(⟨g, j, none⟩ : Addr).block]? = some (.cells cs t (0, 0)) from h]
  simp
theorem new (w : World) (cs : Array Value) (t : TypeId) : Blk (w.alloc (.cells cs t)) w.heap.size cs t := by
  unfold Blk World.alloc
  simp
theorem alloc (h : Blk w g cs t) (o : Obj) : Blk (w.alloc o) g cs t := h.below (Below.alloc (Below.refl _ _) (Nat.le_refl _) o)
theorem drew (h : Blk w g cs t) : Blk w.drew g cs t := h
theorem drewN (h : Blk w g cs t) (n : Nat) : Blk (w.drewN n) g cs t := h
theorem set (h : Blk w g cs t) (j : Nat) (u : Value) : Blk (w.setCell ⟨g, j, none⟩ u) g (cs.setIfInBounds j u) t := by
  unfold Blk at h ⊢
  simp [World.setCell, Array.getElem?_modify, h]
theorem other (h : Blk w g cs t) (p : Addr) (hp : p.block ≠ g) (u : Value) : Blk (w.setCell p u) g cs t := (Below.heap_setCell w p u g (Ne.symm hp)).trans h
end Blk
/-- A field's address as the walk spells it. -/
theorem add_field (ad : Addr) (m j : Nat) (hj : 0 < j) : ad.add (m + j) = ⟨(ad.add m).block, (ad.add m).off + j, none⟩ := by
  unfold Addr.add
  by_cases hm : m = 0
  · subst hm
    simp [Nat.ne_of_gt hj]
  · simp [hm, Nat.add_assoc]
namespace Ty
/-- A row of elements that is read. -/
def C {α : Type} (d : Ty α) (w : World) (A : Option Addr) (xs : List α) : Prop :=
  xs.length ≤ 9223372036854775807 ∧ ∀ i x, xs[i]? = some x → ∃ ad cs, A = some ad ∧ d.K w x cs ∧ ∀ j u, cs[j]? = some u → w.cell? (ad.add (i * d.sz + j)) = some u
/-- A row of elements (type e) of one's own: its block and all that its elements lead to lie in S, no two elements share a block. -/
def R {α : Type} (d : Ty α) (e : TypeId) (w : World) (S : Nat → Prop) (v : Value) (xs : List α) : Prop :=
  ∃ (inner : List Value) (f : Nat → Nat), w.ownsRow 0 e d.sz v xs.length inner ∧ (∀ k, v.ownBlock = some k → S k) ∧
    ∀ i x, xs[i]? = some x → d.O w (fun b => S b ∧ some b ≠ v.ownBlock ∧ f b = i) x ((inner.drop (i * d.sz)).take d.sz)
section
variable {α : Type} {d : Ty α} {e : TypeId} {w w1 : World} {S S' : Nat → Prop} {v : Value} {xs : List α} {A : Option Addr}
theorem C_below (h : d.C w A xs) (hb : Below w.heap.size w w1) : d.C w1 A xs :=
  ⟨h.1, fun i x hx => by
    obtain ⟨ad, cs, e, hk, hc⟩ := h.2 i x hx
    exact ⟨ad, cs, e, d.K_below hb hk, fun j u hu => cell_below hb (hc j u hu)⟩⟩
theorem C_get (h : d.C w A xs) (z : α) (i : Nat) (hi : i < xs.length) : ∃ ad cs, A = some ad ∧ cs.length = d.sz ∧ d.K w (xs.getD i z) cs ∧ ∀ j u, cs[j]? = some u → w.cell? (ad.add (i * d.sz + j)) = some u := by
  obtain ⟨ad, cs, e, hk, hc⟩ := h.2 i (xs.getD i z) (by simp [List.getD_eq_getElem?_getD, hi])
  exact ⟨ad, cs, e, d.K_len hk, hk, hc⟩
theorem C_at (h : d.C w A xs) (hb : Below w.heap.size w w1) (i : Nat) (hi : i < xs.length) : ∃ ad cs, A = some ad ∧ d.K w1 xs[i] cs ∧ (∀ u, cs[0]? = some u → w1.cell? (ad.add (i * d.sz)) = some u) ∧ ∀ j u, cs[j + 1]? = some u → w1.cell? ⟨(ad.add (i * d.sz)).block, (ad.add (i * d.sz)).off + (j + 1), none⟩ = some u := by
  obtain ⟨ad, cs, e, hk, hc⟩ := h.2 i xs[i] (by simp [hi])
  exact ⟨ad, cs, e, d.K_below hb hk, fun u hu => cell_below hb (hc 0 u hu), fun j u hu => by rw [← add_field _ _ _ (Nat.succ_pos j)]; exact cell_below hb (hc (j + 1) u hu)⟩
theorem C_nil (A : Option Addr) : d.C w A [] := ⟨by simp, fun i x hx => by simp at hx⟩
theorem O_step {x : α} {cs : List Value} (h : d.O w S x cs) (hm : ∀ k, S k → k < w.heap.size → w1.heap[k]? = w.heap[k]?) : d.O w1 S x cs :=
  d.O_mono (fun _ hk => hk.1) (d.O_move (fun k hk => hm k hk.1 hk.2) (d.O_bound h))
theorem O_step_ (d : Ty α) {w w1 : World} {S : Nat → Prop} {x : α} {cs : List Value} (h : d.O w S x cs) (hm : ∀ k, S k → k < w.heap.size → w1.heap[k]? = w.heap[k]?) : d.O w1 (fun k => S k ∧ k < w.heap.size) x cs :=
  d.O_move (fun k hk => hm k hk.1 hk.2) (d.O_bound h)
theorem O_below {x : α} {cs : List Value} (h : d.O w S x cs) (hb : Below w.heap.size w w1) : d.O w1 S x cs := O_step h (fun k _ hk => hb.block k hk)
theorem R_mono (hs : ∀ k, S k → S' k) (h : d.R e w S v xs) : d.R e w S' v xs := by
  obtain ⟨inner, f, ho, hv, hx⟩ := h
  exact ⟨inner, f, ho, fun k hk => hs k (hv k hk), fun i x hi => d.O_mono (fun k hk => ⟨hs k hk.1, hk.2⟩) (hx i x hi)⟩
theorem R_bound (h : d.R e w S v xs) : d.R e w (fun k => S k ∧ k < w.heap.size) v xs := by
  obtain ⟨inner, f, ho, hv, hx⟩ := h
  exact ⟨inner, f, ho, fun k hk => ⟨hv k hk, own_lt ho k hk⟩, fun i x hi => d.O_mono (fun k hk => ⟨⟨hk.1.1, hk.2⟩, hk.1.2⟩) (d.O_bound (hx i x hi))⟩
theorem R_move (hm : ∀ k, S k → w1.heap[k]? = w.heap[k]?) (h : d.R e w S v xs) : d.R e w1 S v xs := by
  obtain ⟨inner, f, ho, hv, hx⟩ := h
  exact ⟨inner, f, own_move ho (fun k hk => hm k (hv k hk)), hv, fun i x hi => d.O_move (fun k hk => hm k hk.1) (hx i x hi)⟩
theorem R_step (h : d.R e w S v xs) (hm : ∀ k, S k → k < w.heap.size → w1.heap[k]? = w.heap[k]?) : d.R e w1 S v xs :=
  R_mono (fun _ hk => hk.1) (R_move (fun k hk => hm k hk.1 hk.2) (R_bound h))
theorem R_below (h : d.R e w S v xs) (hb : Below w.heap.size w w1) : d.R e w1 S v xs := R_step h (fun k _ hk => hb.block k hk)
theorem R_nil : d.R e w S (.slice none 0 0) [] := ⟨[], fun _ => 0, ⟨by simp, .inl ⟨rfl, rfl⟩⟩, fun k hk => by simp [Value.ownBlock] at hk, fun i x hx => by simp at hx⟩
/-- What is owned is read. -/
theorem R_C (h : d.R e w S v xs) : ∃ A c, v = .slice A xs.length c ∧ xs.length ≤ c ∧ d.C w A xs := by
  obtain ⟨inner, f, ⟨hl, ho⟩, hv, hx⟩ := h
  rcases ho with ⟨rfl, h0⟩ | ⟨g, cap, cur, rfl, hg, hh, h1, h2, h3, h4⟩
  · obtain rfl : xs = [] := List.eq_nil_of_length_eq_zero h0
    exact ⟨none, 0, rfl, Nat.le_refl _, C_nil _⟩
  · simp only [maxLen] at h2
    refine ⟨_, cap, rfl, h1, ⟨by omega, fun i x hi => ⟨⟨g, 0, none⟩, _, rfl, d.O_K (hx i x hi), fun j u hu => ?_⟩⟩⟩
    have hin : i < xs.length := (List.getElem?_eq_some_iff.1 hi).1
    have hj : j < d.sz := by
      have := d.K_len (d.O_K (hx i x hi))
      have h5 := (List.getElem?_eq_some_iff.1 hu).1
      omega
    have e1 : cur[i * d.sz + j]? = some u := by
      rw [List.getElem?_take, if_pos hj, List.getElem?_drop, ← h4, List.getElem?_take] at hu
      split at hu
      · simpa using hu
      · cases hu
    have ha : (⟨g, 0, none⟩ : Addr).add (i * d.sz + j) = ⟨g, i * d.sz + j, none⟩ := by unfold Addr.add; split <;> simp_all
    rw [ha]
    simp [World.cell?, hh, e1]
end

def scal {α : Type} (enc : α → Value) (h1 : ∀ x, (enc x).oneCell' = true) : Ty α where
  sz := 1
  K := fun _ x cs => cs = [enc x]
  O := fun _ _ x cs => cs = [enc x]
  K_len := fun h => by rw [h]; rfl
  K_one := fun h u hu => by
    rw [h] at hu
    rw [List.mem_singleton.1 hu]
    exact h1 _
  K_below := fun _ h => h
  O_K := fun h => h
  O_mono := fun _ h => h
  O_bound := fun h => h
  O_move := fun _ h => h
def int : Ty Int := scal (Value.int .i64) (fun _ => rfl)
def bool : Ty Bool := scal Value.bool (fun _ => rfl)
/-- A string, no longer than an int can tell. -/
def str : Ty ByteArray where
  sz := 1
  K := fun _ x cs => cs = [.string x] ∧ x.size ≤ 9223372036854775807
  O := fun _ _ x cs => cs = [.string x] ∧ x.size ≤ 9223372036854775807
  K_len := fun h => by rw [h.1]; rfl
  K_one := fun h u hu => by
    rw [h.1] at hu
    rw [List.mem_singleton.1 hu]
    rfl
  K_below := fun _ h => h
  O_K := fun h => h
  O_mono := fun _ h => h
  O_bound := fun h => h
  O_move := fun _ h => h
def sl {α : Type} (e : TypeId) (d : Ty α) : Ty (List α) where
  sz := 1
  K := fun w xs cs => ∃ A c, cs = [.slice A xs.length c] ∧ xs.length ≤ c ∧ d.C w A xs
  O := fun w S xs cs => ∃ v, cs = [v] ∧ d.R e w S v xs
  K_len := by
    rintro w x cs ⟨A, c, rfl, _⟩
    rfl
  K_one := by
    rintro w x cs ⟨A, c, rfl, _⟩ u hu
    rw [List.mem_singleton.1 hu]
    rfl
  K_below := by
    rintro w w1 x cs hb ⟨A, c, rfl, hl, hr⟩
    exact ⟨A, c, rfl, hl, C_below hr hb⟩
  O_K := by
    rintro w S x cs ⟨v, rfl, h⟩
    obtain ⟨A, c, rfl, hl, hr⟩ := R_C h
    exact ⟨A, c, rfl, hl, hr⟩
  O_mono := by
    rintro w S S' x cs hok ⟨v, rfl, h⟩
    exact ⟨v, rfl, R_mono hok h⟩
  O_bound := by
    rintro w S x cs ⟨v, rfl, h⟩
    exact ⟨v, rfl, R_bound h⟩
  O_move := by
    rintro w w1 S x cs hm ⟨v, rfl, h⟩
    exact ⟨v, rfl, R_move hm h⟩
/-- Two in line, apart. -/
def pr {α β : Type} (a : Ty α) (b : Ty β) : Ty (α × β) where
  sz := a.sz + b.sz
  K := fun w x cs => ∃ c0 c1, cs = c0 ++ c1 ∧ a.K w x.1 c0 ∧ b.K w x.2 c1
  O := fun w S x cs => ∃ c0 c1, ∃ f : Nat → Bool, cs = c0 ++ c1 ∧ a.O w (fun k => S k ∧ f k = true) x.1 c0 ∧ b.O w (fun k => S k ∧ f k = false) x.2 c1
  K_len := by
    rintro w x cs ⟨c0, c1, rfl, h0, h1⟩
    rw [List.length_append, a.K_len h0, b.K_len h1]
  K_one := by
    rintro w x cs ⟨c0, c1, rfl, h0, h1⟩ u hu
    rcases List.mem_append.1 hu with hu | hu
    · exact a.K_one h0 u hu
    · exact b.K_one h1 u hu
  K_below := by
    rintro w w1 x cs hb ⟨c0, c1, rfl, h0, h1⟩
    exact ⟨c0, c1, rfl, a.K_below hb h0, b.K_below hb h1⟩
  O_K := by
    rintro w S x cs ⟨c0, c1, f, rfl, h0, h1⟩
    exact ⟨c0, c1, rfl, a.O_K h0, b.O_K h1⟩
  O_mono := by
    rintro w S S' x cs hok ⟨c0, c1, f, rfl, h0, h1⟩
    exact ⟨c0, c1, f, rfl, a.O_mono (fun k hk => ⟨hok k hk.1, hk.2⟩) h0, b.O_mono (fun k hk => ⟨hok k hk.1, hk.2⟩) h1⟩
  O_bound := by
    rintro w S x cs ⟨c0, c1, f, rfl, h0, h1⟩
    exact ⟨c0, c1, f, rfl, a.O_mono (fun k hk => ⟨⟨hk.1.1, hk.2⟩, hk.1.2⟩) (a.O_bound h0), b.O_mono (fun k hk => ⟨⟨hk.1.1, hk.2⟩, hk.1.2⟩) (b.O_bound h1)⟩
  O_move := by
    rintro w w1 S x cs hm ⟨c0, c1, f, rfl, h0, h1⟩
    exact ⟨c0, c1, f, rfl, a.O_move (fun k hk => hm k hk.1) h0, b.O_move (fun k hk => hm k hk.1) h1⟩
/-- A Lean structure by its fields. -/
def iso {α β : Type} (d : Ty α) (f : β → α) : Ty β where
  sz := d.sz
  K := fun w x cs => d.K w (f x) cs
  O := fun w S x cs => d.O w S (f x) cs
  K_len := d.K_len
  K_one := d.K_one
  K_below := d.K_below
  O_K := d.O_K
  O_mono := d.O_mono
  O_bound := d.O_bound
  O_move := d.O_move
/-- Nothing is of this kind. -/
def bot {α : Type} (sz : Nat) : Ty α where
  sz := sz
  K := fun _ _ _ => False
  O := fun _ _ _ _ => False
  K_len := fun h => h.elim
  K_one := fun h => h.elim
  K_below := fun _ h => h
  O_K := fun h => h
  O_mono := fun _ h => h
  O_bound := fun h => h
  O_move := fun _ h => h
/-- d says the more. -/
structure Le {α : Type} (d d' : Ty α) : Prop where
  sz : d.sz = d'.sz
  K : ∀ w x cs, d.K w x cs → d'.K w x cs
  O : ∀ w S x cs, d.O w S x cs → d'.O w S x cs
theorem Le.refl {α : Type} (d : Ty α) : Le d d := ⟨rfl, fun _ _ _ h => h, fun _ _ _ _ h => h⟩
theorem Le.C {α : Type} {d d' : Ty α} (h : Le d d') {w : World} {A : Option Addr} {xs : List α} (hc : d.C w A xs) : d'.C w A xs :=
  ⟨hc.1, fun i x hx => by
    obtain ⟨ad, cs, e, hk, hl⟩ := hc.2 i x hx
    exact ⟨ad, cs, e, h.K _ _ _ hk, by rw [← h.sz]; exact hl⟩⟩
theorem Le.R {α : Type} {d d' : Ty α} (h : Le d d') {e : TypeId} {w : World} {S : Nat → Prop} {v : Value} {xs : List α} (hc : d.R e w S v xs) : d'.R e w S v xs := by
  obtain ⟨inner, f, ho, hv, hx⟩ := hc
  exact ⟨inner, f, by rw [← h.sz]; exact ho, hv, fun i x hi => by rw [← h.sz]; exact h.O _ _ _ _ (hx i x hi)⟩
theorem Le.sl {α : Type} {d d' : Ty α} (h : Le d d') (e : TypeId) : Le (sl e d) (sl e d') := by
  refine ⟨rfl, ?_, ?_⟩
  · rintro w x cs ⟨A, c, rfl, hl, hc⟩
    exact ⟨A, c, rfl, hl, h.C hc⟩
  · rintro w S x cs ⟨v, rfl, hr⟩
    exact ⟨v, rfl, h.R hr⟩
theorem Le.pr {α β : Type} {a a' : Ty α} {b b' : Ty β} (h : Le a a') (k : Le b b') : Le (pr a b) (pr a' b') := by
  refine ⟨by show a.sz + b.sz = a'.sz + b'.sz; rw [h.sz, k.sz], ?_, ?_⟩
  · rintro w x cs ⟨c0, c1, rfl, h0, h1⟩
    exact ⟨c0, c1, rfl, h.K _ _ _ h0, k.K _ _ _ h1⟩
  · rintro w S x cs ⟨c0, c1, f, rfl, h0, h1⟩
    exact ⟨c0, c1, f, rfl, h.O _ _ _ _ h0, k.O _ _ _ _ h1⟩
theorem Le.iso {α β : Type} {d d' : Ty α} (h : Le d d') (f : β → α) : Le (iso d f) (iso d' f) := ⟨h.sz, fun w x cs => h.K w (f x) cs, fun w S x cs => h.O w S (f x) cs⟩
end Ty

/-- All that was there stays as it was, but for the blocks of S. -/
structure Fr (w w' : World) (S : Nat → Prop) : Prop where
  os : w'.os = w.os
  tape : w'.tape = w.tape
  output : w'.output = w.output
  size : w.heap.size ≤ w'.heap.size
  block : ∀ k, k < w.heap.size → ¬ S k → w'.heap[k]? = w.heap[k]?
namespace Fr
variable {w w1 w2 : World} {S S' : Nat → Prop}
theorem refl (w : World) (S : Nat → Prop) : Fr w w S := ⟨rfl, rfl, rfl, Nat.le_refl _, fun _ _ _ => rfl⟩
theorem trans (h : Fr w w1 S) (k : Fr w1 w2 S) : Fr w w2 S :=
  ⟨k.os.trans h.os, k.tape.trans h.tape, k.output.trans h.output, Nat.le_trans h.size k.size, fun i hi hs => (k.block i (Nat.lt_of_lt_of_le hi h.size) hs).trans (h.block i hi hs)⟩
theorem mono (h : Fr w w1 S) (hs : ∀ k, k < w.heap.size → S k → S' k) : Fr w w1 S' := ⟨h.os, h.tape, h.output, h.size, fun i hi hn => h.block i hi (fun hk => hn (hs i hi hk))⟩
theorem of_below (h : Below w.heap.size w w1) (S : Nat → Prop) : Fr w w1 S := ⟨h.os, h.tape, h.output, h.size, fun i hi _ => h.block i hi⟩
theorem below (h : Fr w w1 S) (hs : ∀ k, S k → w.heap.size ≤ k) : Below w.heap.size w w1 := ⟨h.os, h.tape, h.output, h.size, fun i hi => h.block i hi (fun hk => by have := hs i hk; omega)⟩
/-- What was made since may have been written. -/
theorem then_ (h : Fr w w1 S) (k : Fr w1 w2 S') (hs : ∀ k, S' k → k < w.heap.size → S k) : Fr w w2 S :=
  ⟨k.os.trans h.os, k.tape.trans h.tape, k.output.trans h.output, Nat.le_trans h.size k.size, fun i hi hn => (k.block i (Nat.lt_of_lt_of_le hi h.size) (fun hk => hn (hs i hk hi))).trans (h.block i hi hn)⟩
theorem alloc (h : Fr w w1 S) (o : Obj) : Fr w (w1.alloc o) S := h.trans (of_below (below_alloc (Below.refl _ _) o) S)
theorem drew (h : Fr w w1 S) : Fr w w1.drew S := ⟨h.os, h.tape, h.output, h.size, h.block⟩
theorem drewN (h : Fr w w1 S) (n : Nat) : Fr w (w1.drewN n) S := ⟨h.os, h.tape, h.output, h.size, h.block⟩
theorem setCell (h : Fr w w1 S) (p : Addr) (hp : p.block < w.heap.size → S p.block) (u : Value) : Fr w (w1.setCell p u) S :=
  ⟨h.os, h.tape, h.output, by have := h.size; simpa using this, fun i hi hn => by
    rw [Below.heap_setCell _ _ _ _ (fun e => hn (by subst e; exact hp hi))]
    exact h.block i hi hn⟩
theorem grown {row : Option Nat} (hg : w.grownBy w1 row) (hr : ∀ k, row = some k → S k) : Fr w w1 S :=
  ⟨hg.os, hg.tape, hg.output, hg.size, fun i hi hn => hg.block i hi (fun e => hn (hr i e.symm))⟩
end Fr
namespace Ty
variable {α : Type} {d : Ty α} {e : TypeId} {w w1 : World} {S S' : Nat → Prop} {v : Value} {xs : List α}
theorem R_fr (h : d.R e w S v xs) (hf : Fr w w1 S') (hd : ∀ k, S k → k < w.heap.size → ¬ S' k) : d.R e w1 S v xs := R_step h (fun k hk hl => hf.block k hl (hd k hk hl))
theorem O_fr {x : α} {cs : List Value} (h : d.O w S x cs) (hf : Fr w w1 S') (hd : ∀ k, S k → k < w.heap.size → ¬ S' k) : d.O w1 S x cs := O_step h (fun k hk hl => hf.block k hl (hd k hk hl))
theorem R_setCell (h : d.R e w S v xs) {p : Addr} (hp : ¬ S p.block) (u : Value) : d.R e (w.setCell p u) S v xs := R_step h (fun k hk _ => Below.heap_setCell w p u k (fun e => hp (e ▸ hk)))
theorem O_setCell {x : α} {cs : List Value} (h : d.O w S x cs) {p : Addr} (hp : ¬ S p.block) (u : Value) : d.O (w.setCell p u) S x cs := O_step h (fun k hk _ => Below.heap_setCell w p u k (fun e => hp (e ▸ hk)))
/-- A block of one's own, as a row. -/
theorem R_block {g cap : Nat} {cur : Array Value} (hb : w.heap[g]? = some (.cells cur e (0, 0))) (hg : S g) (hn : xs.length ≤ cap) (hm : cap ≤ 9223372036854775807) (hc : cur.size = cap * d.sz) (f : Nat → Nat)
    (hO : ∀ i x, xs[i]? = some x → d.O w (fun b => S b ∧ b ≠ g ∧ f b = i) x ((cur.toList.drop (i * d.sz)).take d.sz)) : d.R e w S (.slice (some ⟨g, 0, none⟩) xs.length cap) xs := by
  have hle : xs.length * d.sz ≤ cap * d.sz := Nat.mul_le_mul_right _ hn
  refine ⟨cur.toList.take (xs.length * d.sz), f, ⟨by simp; omega, .inr ⟨g, cap, cur, rfl, Nat.zero_le _, hb, hn, by simp only [maxLen]; omega, hc, rfl⟩⟩, fun k hk => ?_, fun i x hi => ?_⟩
  · have : g = k := by simpa [Value.ownBlock] using hk
    exact this ▸ hg
  · have hil : i < xs.length := (List.getElem?_eq_some_iff.1 hi).1
    have h1 : i * d.sz + d.sz ≤ xs.length * d.sz := by
      have := Nat.mul_le_mul_right d.sz (show i + 1 ≤ xs.length by omega)
      rw [Nat.add_mul] at this
      omega
    have he : (((cur.toList.take (xs.length * d.sz)).drop (i * d.sz)).take d.sz) = ((cur.toList.drop (i * d.sz)).take d.sz) := by
      rw [List.drop_take, List.take_take, Nat.min_eq_left (by omega)]
    rw [he]
    exact d.O_mono (fun k hk => ⟨hk.1, by simpa [Value.ownBlock] using hk.2.1, hk.2.2⟩) (hO i x hi)
end Ty
section
variable {P : Program} {ops : Array Oper} {rest : List Oper} {o : Oper} {a : Act} {Q : Exit → Act → World → Prop} {α : Type}
/-- append(v, ys...), v a row of one's own; the cells of ys are read, what they lead to is owned (T i: where element i of ys leads to). -/
theorem append_gen (d : Ty α) {W : World} (hgd : o.guard = none) (s x : Operand) (t e : TypeId) (z : Value) (bytes : Nat)
    (ho : o.op = .call { callee := .builtin .append, args := #[s, x], argTypes := #[t, t] })
    (ht : P.underlying t = some (.slice e)) (hinfo : (P.info? e).map (fun i => (i.zero, i.size, i.bytes)) = some (some z, d.sz, bytes)) (hz : z.cells.size = d.sz) (hsz : 0 < d.sz) (hb0 : 0 < bytes)
    {S S' : Nat → Prop} {v : Value} {xs ys : List α} (T : Nat → Nat → Prop) (A : Option Addr) (m c : Nat) (news : List Value)
    (hs : a.eval s = v) (hx : a.eval x = .slice A m c) (HR : d.R e W S v xs) (hm : ys.length = m) (hl : news.length = m * d.sz)
    (hnews : ∀ j u, news[j]? = some u → ∃ ad, A = some ad ∧ W.cell? (ad.add j) = some u) (h1 : ∀ u ∈ news, u.oneCell' = true)
    (hO : ∀ i y, ys[i]? = some y → d.O W (T i) y ((news.drop (i * d.sz)).take d.sz))
    (hTT : ∀ i j k, T i k → T j k → i = j) (hST : ∀ i k, T i k → ¬ S k) (hS : ∀ k, S k → S' k) (hT : ∀ i k, T i k → S' k) (hnew : ∀ k, W.heap.size ≤ k → S' k)
    (hbytes : (xs.length + m) * bytes ≤ 140737488355328)
    (h : ∀ v1 w1, d.R e w1 S' v1 (xs ++ ys) → Fr W w1 S → wpList P ops Q rest (a.put o.dst v1) w1) :
    wpList P ops Q (o :: rest) a W := by
  obtain ⟨i0, hi, hzz⟩ := Option.map_eq_some_iff.1 hinfo
  simp only [Prod.mk.injEq] at hzz
  obtain ⟨hz0, hz1, hz2⟩ := hzz
  have hlen : xs.length + m ≤ 140737488355328 := Nat.le_trans (Nat.le_mul_of_pos_right _ hb0) hbytes
  obtain ⟨inner, f, HO, hv, hE⟩ := HR
  have hrun : ∃ v1 w1, (Builtin.append_ #[t, t] o.type #[v, .slice A m c]).run P W = .ok v1 w1 ∧ w1.ownsRow 0 e d.sz v1 (xs.length + m) (inner ++ news) ∧ W.grownBy w1 v.ownBlock ∧ (v1.ownBlock = v.ownBlock ∨ v1.ownBlock = some W.heap.size) := by
    rcases A with _ | ad
    · have h0 : news = [] := by
        rcases news with _ | ⟨u, us⟩
        · rfl
        · obtain ⟨ad, h, _⟩ := hnews 0 u rfl
          cases h
      subst h0
      have hm0 : m = 0 := by
        rcases Nat.eq_zero_or_pos m with h | h
        · exact h
        · have := Nat.mul_pos h hsz
          simp at hl
          omega
      subst hm0
      refine ⟨v, W, ?_, by simpa using HO, World.grownBy.refl W _, .inl rfl⟩
      rcases HO.2 with ⟨rfl, hn⟩ | ⟨g, cap, cur, rfl, _, _, hnc, _⟩
      · simp [Builtin.append_, run_underlying ht, sizeOf, typeInfo, hi, Builtin.lenOf, Builtin.firstCells]
      · simp [Builtin.append_, run_underlying ht, sizeOf, typeInfo, hi, Builtin.lenOf, Builtin.firstCells, hnc, storeCells]
    · obtain ⟨v1, w1, hr, h2, h3, _, h5⟩ := run_append_own_at (P := P) W 0 t o.type e i0 z d.sz bytes ht hi hz0 hz1 hz2 hz hsz v xs.length inner HO ad m c news hl
        (fun j u hu => by obtain ⟨ad', h', hc⟩ := hnews j u hu; injection h' with h'; subst h'; exact hc) h1 (by simp only [maxLen]; omega) hbytes (Nat.zero_le _)
      exact ⟨v1, w1, hr, h2, h3, h5⟩
  obtain ⟨v1, w1, hr, hown, hg, hat⟩ := hrun
  refine wpList_plain hgd fun K hK => ?_
  unfold Oper.wp execOp
  simp only [ho, resolve, invoke, builtin, Sem.run_bind, Sem.run_pure, Result.andThen_ok, List.map_toArray, List.map_cons, List.map_nil, hs, hx, hr]
  refine hK _ _ (h v1 w1 ?_ (Fr.grown hg hv))
  have hin : inner.length = xs.length * d.sz := HO.1
  have hlt : ∀ k, v.ownBlock = some k → k < W.heap.size := fun k hk => own_lt HO k hk
  have hkeep : ∀ k, k < W.heap.size → some k ≠ v.ownBlock → w1.heap[k]? = W.heap[k]? := fun k hk hn => hg.block k hk hn
  have hv1 : ∀ k, k < W.heap.size → some k ≠ v.ownBlock → some k ≠ v1.ownBlock := fun k hk hn he => by
    rcases hat with hat | hat
    · exact hn (he.trans hat)
    · rw [hat] at he
      injection he with he
      omega
  classical
  refine ⟨inner ++ news, fun b => if ∃ j, T j b then xs.length + Classical.epsilon (fun j => T j b) else f b, by rw [List.length_append, hm]; exact hown, fun k hk => ?_, fun i y hiy => ?_⟩
  · rcases hat with hat | hat
    · exact hS k (hv k (hat ▸ hk))
    · rw [hat] at hk
      injection hk with hk
      exact hnew k (by omega)
  · rcases Nat.lt_or_ge i xs.length with hlx | hlx
    · rw [List.getElem?_append_left hlx] at hiy
      have hle : i * d.sz + d.sz ≤ inner.length := by
        have := Nat.mul_le_mul_right d.sz (show i + 1 ≤ xs.length by omega)
        rw [Nat.add_mul] at this
        omega
      have he : ((inner ++ news).drop (i * d.sz)).take d.sz = (inner.drop (i * d.sz)).take d.sz := by
        rw [List.drop_append_of_le_length (by omega), List.take_append_of_le_length (by simp; omega)]
      rw [he]
      refine d.O_mono ?_ (Ty.O_step_ d (hE i y hiy) (fun k hk hl => hkeep k hl hk.2.1))
      intro k hk
      refine ⟨hS k hk.1.1, hv1 k hk.2 hk.1.2.1, ?_⟩
      show (if ∃ j, T j k then _ else _) = i
      rw [if_neg (fun ⟨j, hj⟩ => hST j k hj hk.1.1)]
      exact hk.1.2.2
    · rw [List.getElem?_append_right hlx] at hiy
      have he : ((inner ++ news).drop (i * d.sz)).take d.sz = (news.drop ((i - xs.length) * d.sz)).take d.sz := by
        rw [List.drop_append, List.drop_eq_nil_of_le (by rw [hin]; exact Nat.mul_le_mul_right _ hlx), List.nil_append, hin, Nat.sub_mul]
      rw [he]
      refine d.O_mono ?_ (Ty.O_step_ d (hO _ y hiy) (fun k hk hl => hkeep k hl (fun e => hST _ k hk (hv k e.symm))))
      intro k hk
      refine ⟨hT _ k hk.1, hv1 k hk.2 (fun e => hST _ k hk.1 (hv k e.symm)), ?_⟩
      have hex : ∃ j, T j k := ⟨_, hk.1⟩
      show (if ∃ j, T j k then _ else _) = i
      rw [if_pos hex, hTT _ _ k (Classical.epsilon_spec hex) hk.1]
      omega
end
section
variable {P : Program} {ops : Array Oper} {rest : List Oper} {o : Oper} {a : Act} {Q : Exit → Act → World → Prop} {α : Type}
theorem add0 (g j : Nat) : (⟨g, 0, none⟩ : Addr).add j = ⟨g, j, none⟩ := by unfold Addr.add; split <;> simp_all
/-- append(v, y), y one element of one's own whose cells lie in the box behind W. -/
theorem append_one (d : Ty α) {W : World} (hgd : o.guard = none) (s x : Operand) (t e : TypeId) (z : Value) (bytes : Nat)
    (ho : o.op = .call { callee := .builtin .append, args := #[s, x], argTypes := #[t, t] })
    (ht : P.underlying t = some (.slice e)) (hinfo : (P.info? e).map (fun i => (i.zero, i.size, i.bytes)) = some (some z, d.sz, bytes)) (hz : z.cells.size = d.sz) (hsz : 0 < d.sz) (hb0 : 0 < bytes)
    {S S' T : Nat → Prop} {v : Value} {xs : List α} (y : α) (cs : List Value)
    (hs : a.eval s = v) (hx : a.eval x = .slice (some ⟨W.heap.size, 0, none⟩) 1 1) (HR : d.R e W S v xs) (hO : d.O W T y cs)
    (hST : ∀ k, T k → k < W.heap.size → ¬ S k) (hS : ∀ k, S k → S' k) (hT : ∀ k, T k → S' k) (hnew : ∀ k, W.heap.size ≤ k → S' k)
    (hbytes : (xs.length + 1) * bytes ≤ 140737488355328)
    (h : ∀ v1 w1, d.R e w1 S' v1 (xs ++ [y]) → Fr W w1 S → wpList P ops Q rest (a.put o.dst v1) w1) :
    wpList P ops Q (o :: rest) a (W.alloc (.cells cs.toArray e)) := by
  have hlen := d.K_len (d.O_K hO)
  have hb : Below W.heap.size W (W.alloc (.cells cs.toArray e)) := below_alloc (Below.refl _ _) _
  refine append_gen d (S := fun k => S k ∧ k < W.heap.size) (S' := S') (v := v) (xs := xs) (ys := [y]) hgd s x t e z bytes ho ht hinfo hz hsz hb0 (fun i k => i = 0 ∧ T k ∧ k < W.heap.size) (some ⟨W.heap.size, 0, none⟩) 1 1 cs hs hx
    (Ty.R_below (Ty.R_bound HR) hb) rfl (by rw [hlen, Nat.one_mul]) (fun j u hu => ⟨_, rfl, ?_⟩) (d.K_one (d.O_K hO)) (fun i y' hi => ?_) (fun i j k h1 h2 => by rw [h1.1, h2.1]) (fun i k hk hs => hST k hk.2.1 hk.2.2 hs.1) (fun k hk => hS k hk.1) (fun i k hk => hT k hk.2.1) (fun k hk => hnew k (by have := hk; simp at this; omega)) hbytes
    (fun v1 w1 hr hf => h v1 w1 hr (((Fr.refl W S).alloc _).then_ hf (fun k hk _ => hk.1)))
  · rw [add0]
    have e1 : (W.alloc (.cells cs.toArray e)).heap[W.heap.size]? = some (.cells cs.toArray e (0, 0)) := heap_alloc_new W _
    unfold World.cell?
    rw [e1]
    simpa using hu
  · rcases i with _ | i
    · simp at hi
      subst hi
      have he : (cs.drop (0 * d.sz)).take d.sz = cs := by rw [Nat.zero_mul, List.drop_zero, List.take_of_length_le (by omega)]
      rw [he]
      exact d.O_mono (fun k hk => ⟨rfl, hk⟩) (Ty.O_below (d.O_bound hO) hb)
    · simp at hi
/-- append(v, ys...), ys read, of one cell each that leads nowhere. -/
theorem append_scal {enc : α → Value} {h1 : ∀ x, (enc x).oneCell' = true} {W : World} (hgd : o.guard = none) (s x : Operand) (t e : TypeId) (z : Value) (bytes : Nat)
    (ho : o.op = .call { callee := .builtin .append, args := #[s, x], argTypes := #[t, t] })
    (ht : P.underlying t = some (.slice e)) (hinfo : (P.info? e).map (fun i => (i.zero, i.size, i.bytes)) = some (some z, 1, bytes)) (hz : z.cells.size = 1) (hb0 : 0 < bytes)
    {S S' : Nat → Prop} {v : Value} {xs ys : List α} {A : Option Addr} {c : Nat}
    (hs : a.eval s = v) (hx : a.eval x = .slice A ys.length c) (HR : (Ty.scal enc h1).R e W S v xs) (HC : (Ty.scal enc h1).C W A ys)
    (hS : ∀ k, S k → S' k) (hnew : ∀ k, W.heap.size ≤ k → S' k) (hbytes : (xs.length + ys.length) * bytes ≤ 140737488355328)
    (h : ∀ v1 w1, (Ty.scal enc h1).R e w1 S' v1 (xs ++ ys) → Fr W w1 S → wpList P ops Q rest (a.put o.dst v1) w1) :
    wpList P ops Q (o :: rest) a W := by
  refine append_gen (Ty.scal enc h1) (S := S) (S' := S') (v := v) (xs := xs) (ys := ys) hgd s x t e z bytes ho ht hinfo hz (Nat.le_refl 1) hb0 (fun i k => False) A ys.length c (ys.map enc) hs hx HR rfl (by simp [Ty.scal]) (fun j u hu => ?_) (fun u hu => ?_) (fun i y hi => ?_)
    (fun i j k h1 h2 => h1.elim) (fun i k hk => hk.elim) hS (fun i k hk => hk.elim) hnew hbytes h
  · rw [List.getElem?_map] at hu
    obtain ⟨y, hy, rfl⟩ := Option.map_eq_some_iff.1 hu
    obtain ⟨ad, cs, e1, hk, hc⟩ := HC.2 j y hy
    have e2 : cs = [enc y] := hk
    refine ⟨ad, e1, ?_⟩
    have := hc 0 (enc y) (by rw [e2]; rfl)
    simpa [Ty.scal] using this
  · obtain ⟨y, _, rfl⟩ := List.mem_map.1 hu
    exact h1 y
  · show ((ys.map enc).drop (i * 1)).take 1 = [enc y]
    have hil := (List.getElem?_eq_some_iff.1 hi).1
    rw [Nat.mul_one, ← List.map_drop, ← List.map_take, List.drop_eq_getElem_cons hil]
    simp [(List.getElem?_eq_some_iff.1 hi).2]
end
theorem heap_setCell_ {w : World} {g : Nat} {cur : Array Value} {e : TypeId} {fr : Nat × Nat} (hh : w.heap[g]? = some (.cells cur e fr)) (i : Nat) (u : Value) : (w.setCell ⟨g, i, none⟩ u).heap[g]? = some (.cells (cur.setIfInBounds i u) e fr) := by
  simp [World.setCell, Array.getElem?_modify, hh]
theorem set_drop_ {α : Type} (l : List α) (i j n : Nat) (u : α) : ((l.set (i + j) u).drop i).take n = (((l.drop i).take n).set j u) := by
  rw [List.drop_set, if_neg (by omega), Nat.add_sub_cancel_left, List.take_set]
namespace Ty
variable {α : Type} {d : Ty α} {e : TypeId} {w w1 : World} {S S' Si T : Nat → Prop} {v : Value} {xs : List α} {i : Nat} {cs : List Value}
/-- A row of one's own of which element i is out: its cells are cs; what it led to is Si. -/
def H (d : Ty α) (e : TypeId) (w : World) (S : Nat → Prop) (v : Value) (xs : List α) (i : Nat) (Si : Nat → Prop) (cs : List Value) : Prop :=
  i < xs.length ∧ cs.length = d.sz ∧ ∃ (inner : List Value) (f : Nat → Nat), w.ownsRow 0 e d.sz v xs.length inner ∧ (∀ k, v.ownBlock = some k → S k) ∧ (inner.drop (i * d.sz)).take d.sz = cs ∧ (∀ k, Si k → S k ∧ some k ≠ v.ownBlock) ∧
    ∀ j x, j ≠ i → xs[j]? = some x → d.O w (fun b => S b ∧ some b ≠ v.ownBlock ∧ f b = j ∧ ¬ Si b) x ((inner.drop (j * d.sz)).take d.sz)
theorem R_H (h : d.R e w S v xs) {x : α} (hx : xs[i]? = some x) : ∃ Si cs, d.H e w S v xs i Si cs ∧ d.O w Si x cs := by
  obtain ⟨inner, f, ho, hv, hE⟩ := h
  exact ⟨_, _, ⟨(List.getElem?_eq_some_iff.1 hx).1, d.K_len (d.O_K (hE i x hx)), inner, f, ho, hv, rfl, fun k hk => ⟨hk.1, hk.2.1⟩, fun j y hj hy => d.O_mono (fun k hk => ⟨hk.1, hk.2.1, hk.2.2, fun h => hj (hk.2.2.symm.trans h.2.2)⟩) (hE j y hy)⟩, hE i x hx⟩
theorem H_step (h : d.H e w S v xs i Si cs) (hm : ∀ k, S k → ¬ Si k → k < w.heap.size → w1.heap[k]? = w.heap[k]?) : d.H e w1 S v xs i Si cs := by
  obtain ⟨hi, hl, inner, f, ho, hv, hc, hs, hE⟩ := h
  exact ⟨hi, hl, inner, f, own_move ho (fun k hk => hm k (hv k hk) (fun h => (hs k h).2 hk.symm) (own_lt ho k hk)), hv, hc, hs, fun j y hj hy => O_step (hE j y hj hy) (fun k hk hl => hm k hk.1 hk.2.2.2 hl)⟩
theorem H_fr (h : d.H e w S v xs i Si cs) (hf : Fr w w1 S') (hd : ∀ k, S k → S' k → k < w.heap.size → Si k) : d.H e w1 S v xs i Si cs := H_step h (fun k hs hn hl => hf.block k hl (fun hk => hn (hd k hs hk hl)))
theorem H_back (h : d.H e w S v xs i Si cs) {x' : α} (hO : d.O w T x' cs) (hT : ∀ k, T k → Si k ∨ ¬ S k) (hS : ∀ k, S k → S' k) (hT' : ∀ k, T k → S' k) : d.R e w S' v (xs.set i x') := by
  obtain ⟨hi, hl, inner, f, ho, hv, hc, hs, hE⟩ := h
  classical
  refine ⟨inner, fun b => if T b then i else f b, by rw [List.length_set]; exact ho, fun k hk => hS k (hv k hk), fun j y hy => ?_⟩
  by_cases hj : j = i
  · subst hj
    rw [List.getElem?_set_self hi] at hy
    injection hy with hy
    subst hy
    rw [hc]
    refine d.O_mono (fun k hk => ⟨hT' k hk, fun he => ?_, if_pos hk⟩) hO
    rcases hT k hk with h | h
    · exact (hs k h).2 he
    · exact h (hv k he.symm)
  · rw [List.getElem?_set_ne (fun h => hj h.symm)] at hy
    refine d.O_mono (fun k hk => ⟨hS k hk.1, hk.2.1, ?_⟩) (hE j y hj hy)
    show (if T k then i else f k) = j
    rw [if_neg (fun h => (hT k h).elim hk.2.2.2 (fun h => h hk.1))]
    exact hk.2.2.1
/-- Where such a row lies. -/
theorem H_cells (h : d.H e w S v xs i Si cs) (hsz : 0 < d.sz) : ∃ g cap, v = .slice (some ⟨g, 0, none⟩) xs.length cap ∧ xs.length ≤ cap ∧ cap ≤ 9223372036854775807 ∧ S g ∧ g < w.heap.size ∧ ¬ Si g ∧
    (∀ j u, cs[j]? = some u → w.cell? ⟨g, i * d.sz + j, none⟩ = some u) ∧ ∀ j, w.frozen? ⟨g, j, none⟩ = false := by
  obtain ⟨hi, hl, inner, f, ho, hv, hc, hs, hE⟩ := h
  rcases ho.2 with ⟨rfl, h0⟩ | ⟨g, cap, cur, rfl, hg, hh, h1, h2, h3, h4⟩
  · omega
  · simp only [maxLen] at h2
    refine ⟨g, cap, rfl, h1, by omega, hv g (by simp [Value.ownBlock]), (Array.getElem?_eq_some_iff.1 hh).1, fun h => (hs g h).2 (by simp [Value.ownBlock]), fun j u hu => ?_, fun j => ?_⟩
    · have hj : j < d.sz := by
        have := (List.getElem?_eq_some_iff.1 hu).1
        omega
      rw [← hc, List.getElem?_take, if_pos hj, List.getElem?_drop, ← h4, List.getElem?_take] at hu
      split at hu
      · simp [World.cell?, hh]; simpa using hu
      · cases hu
    · simp [World.frozen?, hh]
/-- A cell of the element that is out is written. -/
theorem H_store {g n cap : Nat} (h : d.H e w S (.slice (some ⟨g, 0, none⟩) n cap) xs i Si cs) (j : Nat) (hj : j < d.sz) (u : Value) (hu : u.cells = #[u]) : d.H e (w.setCell ⟨g, i * d.sz + j, none⟩ u) S (.slice (some ⟨g, 0, none⟩) n cap) xs i Si (cs.set j u) := by
  obtain ⟨hi, hl, inner, f, ho, hv, hc, hs, hE⟩ := h
  rcases ho.2 with ⟨h0, _⟩ | ⟨g', cap', cur, he, hg, hh, h1, h2, h3, h4⟩
  · cases h0
  · injection he with he1 he2 he3
    injection he1 with he1
    injection he1 with he1 _ _
    subst he1; subst he3; subst he2
    have hi1 : i * d.sz + d.sz ≤ xs.length * d.sz := by
      have := Nat.mul_le_mul_right d.sz (show i + 1 ≤ xs.length by omega)
      rw [Nat.add_mul] at this
      omega
    have hcap := Nat.mul_le_mul_right d.sz h1
    have hin : i * d.sz + j < cur.size := by omega
    have hhs : (w.setCell ⟨g, i * d.sz + j, none⟩ u).heap[g]? = some (.cells (cur.setIfInBounds (i * d.sz + j) u) e (0, 0)) := heap_setCell_ hh _ u
    have hne : ∀ k, k ≠ g → (w.setCell ⟨g, i * d.sz + j, none⟩ u).heap[k]? = w.heap[k]? := fun k hk => Below.heap_setCell w _ u k hk
    refine ⟨hi, by rw [List.length_set]; exact hl, inner.set (i * d.sz + j) u, f, ⟨by rw [List.length_set]; exact ho.1, .inr ⟨g, cap, cur.setIfInBounds (i * d.sz + j) u, rfl, hg, hhs, h1, h2, by simpa using h3, ?_⟩⟩, hv, ?_, hs, fun k y hk hy => ?_⟩
    · rw [← h4, Array.toList_setIfInBounds, List.take_set]
    · rw [← hc, set_drop_]
    · have hkl := (List.getElem?_eq_some_iff.1 hy).1
      have he : ((inner.set (i * d.sz + j) u).drop (k * d.sz)).take d.sz = (inner.drop (k * d.sz)).take d.sz := by
        apply List.ext_getElem?
        intro q
        rw [List.getElem?_take, List.getElem?_take]
        split
        · rename_i hq
          rw [List.getElem?_drop, List.getElem?_drop, List.getElem?_set_ne]
          intro heq
          rcases Nat.lt_or_gt_of_ne hk with hlt | hgt
          · have := Nat.mul_le_mul_right d.sz (show k + 1 ≤ i by omega)
            rw [Nat.add_mul] at this
            omega
          · have := Nat.mul_le_mul_right d.sz (show i + 1 ≤ k by omega)
            rw [Nat.add_mul] at this
            omega
        · rfl
      rw [he]
      exact d.O_move (fun b hb => hne b (fun e => hb.2.1 (by simp [Value.ownBlock, e]))) (hE k y hk hy)
/-- Where a row that is not empty lies. -/
theorem R_form (h : d.R e w S v xs) (hp : 0 < xs.length) : ∃ g cap, v = .slice (some ⟨g, 0, none⟩) xs.length cap ∧ S g ∧ g < w.heap.size := by
  obtain ⟨inner, f, ho, hv, hE⟩ := h
  rcases ho.2 with ⟨rfl, h0⟩ | ⟨g, cap, cur, rfl, hg, hh, h1, h2, h3, h4⟩
  · omega
  · exact ⟨g, cap, rfl, hv g (by simp [Value.ownBlock]), (Array.getElem?_eq_some_iff.1 hh).1⟩
/-- Element i of a row of scalars is written. -/
theorem R_store1 {enc : α → Value} {h1 : ∀ x, (enc x).oneCell' = true} (hc1 : ∀ x, (enc x).cells = #[enc x]) {g n cap : Nat} (h : (scal enc h1).R e w S (.slice (some ⟨g, 0, none⟩) n cap) xs) {x : α} (hx : xs[i]? = some x) : g < w.heap.size ∧ w.cell? ⟨g, i, none⟩ = some (enc x) ∧ w.frozen? ⟨g, i, none⟩ = false ∧
    ∀ u, (scal enc h1).R e (w.setCell ⟨g, i, none⟩ (enc u)) S (.slice (some ⟨g, 0, none⟩) n cap) (xs.set i u) := by
  obtain ⟨Si, cs, hH, hO⟩ := R_H h hx
  have hcs : cs = [enc x] := hO
  obtain ⟨g', cap', he, _, _, hg, hgl, _, hcell, hfz⟩ := H_cells hH (Nat.le_refl 1)
  injection he with he _ _; injection he with he; injection he with he _ _; subst he
  refine ⟨hgl, ?_, hfz i, fun u => ?_⟩
  · have := hcell 0 (enc x) (by rw [hcs]; rfl)
    simpa [scal] using this
  · have h2 := H_store hH 0 (Nat.le_refl 1) (enc u) (hc1 u)
    have e1 : i * (scal enc h1).sz + 0 = i := by simp [scal]
    rw [e1] at h2
    exact H_back h2 (T := fun _ => False) (show cs.set 0 (enc u) = [enc u] by rw [hcs]; rfl) (fun k hk => hk.elim) (fun k hk => hk) (fun k hk => hk.elim)
/-- What make leaves. -/
theorem R_made {W : World} {z : Value} (zv : α) (n : Nat) (hsz : 0 < d.sz) (hn : n ≤ 9223372036854775807) (hz : z.cells.size = d.sz) (hO : 0 < n → ∀ w S, d.O w S zv z.cells.toList) (hS : S W.heap.size) :
    d.R e (W.alloc (.cells (madeCells z.cells (n * d.sz)) e)) S (.slice (some ⟨W.heap.size, 0, none⟩) n n) (List.replicate n zv) := by
  have := R_block (d := d) (e := e) (w := W.alloc (.cells (madeCells z.cells (n * d.sz)) e)) (S := S) (g := W.heap.size) (cap := n) (xs := List.replicate n zv) (heap_alloc_new W _) hS (by simp) hn (by simp [size_madeCells]) (fun b => 0) (fun i x hi => ?_)
  · simpa using this
  · have hil : i < n := by simpa using (List.getElem?_eq_some_iff.1 hi).1
    obtain rfl : zv = x := by
      have := (List.getElem?_eq_some_iff.1 hi).2
      simpa using this
    have h1 : i * d.sz + d.sz ≤ n * d.sz := by
      have := Nat.mul_le_mul_right d.sz (show i + 1 ≤ n by omega)
      rw [Nat.add_mul] at this
      omega
    have he : ((madeCells z.cells (n * d.sz)).toList.drop (i * d.sz)).take d.sz = z.cells.toList := by
      apply List.ext_getElem
      · simp [madeCells, hz]; omega
      · intro q h2 h3
        have hq : q < d.sz := by simpa [hz] using h3
        have : (i * d.sz + q) % z.cells.size = q := by rw [hz, Nat.mul_comm, Nat.mul_add_mod, Nat.mod_eq_of_lt hq]
        simp only [List.getElem_take, List.getElem_drop, madeCells, Array.toList_map, List.getElem_map, Array.toList_range, List.getElem_range, this]
        simp [hz, hq]
    rw [he]
    exact hO (by omega) _ _
end Ty
theorem set_rep {α : Type} (l : List α) (z : α) (k : Nat) (hk : k < l.length) : (l.take k ++ List.replicate (l.length - k) z).set k l[k] = l.take (k + 1) ++ List.replicate (l.length - (k + 1)) z := by
  rw [List.set_append_right _ _ (by simp; omega)]
  have h1 : k - (l.take k).length = 0 := by simp; omega
  have h2 : l.length - k = (l.length - (k + 1)) + 1 := by omega
  rw [h1, h2, List.replicate_succ, List.set_cons_zero, List.take_succ_eq_append_getElem hk, List.append_assoc]
  rfl
theorem make_eq {P : Program} (t e : TypeId) (z : Value) (sz bytes : Nat) (ht : P.underlying t = some (.slice e)) (hinfo : (P.info? e).map (fun i => (i.zero, i.size, i.bytes)) = some (some z, sz, bytes)) (n : Nat) (hb : bytes * n ≤ 281474976710656) (hn : n ≤ 9223372036854775807) (W : World) :
    (Instr.makeSlice t (.int .i64 (n : Int)) (.int .i64 (n : Int))).run P W = .ok (.slice (some ⟨W.heap.size, 0, none⟩) n n) (W.alloc (.cells (madeCells z.cells (n * sz)) e)) := by
  obtain ⟨i, hi, hzz⟩ := Option.map_eq_some_iff.1 hinfo
  simp only [Prod.mk.injEq] at hzz
  obtain ⟨h1, h2, h3⟩ := hzz
  subst h2; subst h3
  have := run_make (P := P) W t e i z ht hi h1 .i64 .i64 n n (by omega) (by omega) (by have : ((i.bytes * n : Nat) : Int) ≤ 281474976710656 := by omega
                                                                                       simpa using this) (by omega)
  simpa using this
end Go.Proofs.Ytlkjpnlpankhpaa.X
