/- What is proved here: lemmas about the functions that the statement reaches, and what they compute (part 1). Conditions: none. -/
import Derived.Below
import Derived.OwnWalk
import Derived.Maps.AppendAt
import Derived.WalkKit
import Derived.KernelRfl
import Derived.Deep.LoopGhost
import Derived.BigQuiet
import Derived.Lib.QuietBelow
import Derived.Laws.MakeOwn
import Derived.Laws.OwnMore
import Derived.Test.YtegcecnjmimbiaaDoorProg
import Derived.Lib.LaidTab
import Derived.Lib.ItoaNum
import Derived.Test.YtegcecnjmimbiaaDoorRows
import Derived.ProofKit
import Derived.OpenShut
import Derived.Deep.DeepHandedRow
import Derived.Stop.LaidErr
import Derived.Shelf.Vars
import Derived.WalkSpells
import Derived.Test.YtegcecnjmimbiaaDoorWLast
import Derived.WideShapes
import Derived.StillTailTactics
import Derived.Deep.RegionWith
namespace Go.Proofs.YtegcecnjmimbiaaDoor.X
open Go.RowKit
set_option linter.unusedVariables false
set_option linter.unusedSimpArgs false

structure Hd (p : Prop) : Prop where mk :: (out : p)

structure Ty (α : Type) where
  sz : Nat
  K : World → α → List Value → Prop
  O : World → (Nat → Prop) → α → List Value → Prop
  K_len : ∀ {w x cs}, K w x cs → cs.length = sz
  K_one : ∀ {w x cs}, K w x cs → ∀ u ∈ cs, u.oneCell' = true
  K_below : ∀ {w w1 : World} {x cs}, Below w.heap.size w w1 → K w x cs → K w1 x cs
  O_K : ∀ {w S x cs}, O w S x cs → K w x cs
  O_mono : ∀ {w} {S S' : Nat → Prop} {x cs}, (∀ k, S k → S' k) → O w S x cs → O w S' x cs
  O_bound : ∀ {w : World} {S x cs}, O w S x cs → O w (fun k => S k ∧ k < w.heap.size) x cs
  O_move : ∀ {w w1 : World} {S : Nat → Prop} {x cs}, (∀ k, S k → w1.heap[k]? = w.heap[k]?) → O w S x cs → O w1 S x cs

theorem below_alloc {w W : World} (h : Below w.heap.size w W) (o : Obj) : Below w.heap.size w (W.alloc o) := h.alloc h.size o
theorem below_drew {B : Nat} {w W : World} (h : Below B w W) : Below B w W.drew := ⟨h.os, h.tape, h.output, h.size, h.block⟩
theorem below_drewN {B : Nat} {w W : World} (h : Below B w W) (n : Nat) : Below B w (W.drewN n) := ⟨h.os, h.tape, h.output, h.size, h.block⟩
theorem below_then {w w1 w2 : World} (h : Below w.heap.size w w1) (k : Below w1.heap.size w1 w2) : Below w.heap.size w w2 :=
  h.trans ⟨k.os, k.tape, k.output, k.size, fun i hi => k.block i (Nat.lt_of_lt_of_le hi h.size)⟩
theorem cell_below {w w1 : World} (h : Below w.heap.size w w1) {a : Addr} {v : Value} (hc : w.cell? a = some v) : w1.cell? a = some v := (h.cell (World.block_lt_of_cell? w a hc)).trans hc

theorem frozen_below {w w1 : World} (h : Below w.heap.size w w1) {a : Addr} (ha : a.block < w.heap.size) (hf : w.frozen? a = false) : w1.frozen? a = false := (h.frozen ha).trans hf
theorem own_lt {w : World} {base : Nat} {e : TypeId} {size n : Nat} {v : Value} {xs : List Value} (h : w.ownsRow base e size v n xs) (k : Nat) (hk : v.ownBlock = some k) : k < w.heap.size := by
  rcases h.2 with ⟨rfl, _⟩ | ⟨g, cap, cur, rfl, hb, hh, _⟩
  · simp [Value.ownBlock] at hk
  · have : g = k := by simpa [Value.ownBlock] using hk
    subst this
    exact (Array.getElem?_eq_some_iff.1 hh).1
theorem own_move {w w1 : World} {base : Nat} {e : TypeId} {size n : Nat} {v : Value} {xs : List Value} (h : w.ownsRow base e size v n xs) (hm : ∀ k, v.ownBlock = some k → w1.heap[k]? = w.heap[k]?) : w1.ownsRow base e size v n xs := by
  obtain ⟨h1, h2⟩ := h
  refine ⟨h1, ?_⟩
  rcases h2 with h2 | ⟨g, cap, cur, rfl, hg, hh, r⟩
  · exact .inl h2
  · exact .inr ⟨g, cap, cur, rfl, hg, (hm g (by simp [Value.ownBlock])).trans hh, r⟩

def Blk (w : World) (g : Nat) (cs : Array Value) (t : TypeId) : Prop := w.heap[g]? = some (.cells cs t (0, 0))
namespace Blk
variable {w w1 : World} {g : Nat} {cs : Array Value} {t : TypeId}
theorem lt (h : Blk w g cs t) : g < w.heap.size := (Array.getElem?_eq_some_iff.1 h).1
theorem below (h : Blk w g cs t) (hb : Below w.heap.size w w1) : Blk w1 g cs t := (hb.block g h.lt).trans h
theorem cell (h : Blk w g cs t) (j : Nat) {v : Value} (hv : cs[j]? = some v) : w.cell? ⟨g, j, none⟩ = some v := by
  unfold World.cell?
  rw [show w.heap[(⟨g, j, none⟩ : Addr).block]? = some (.cells cs t (0, 0)) from h]
  simpa using hv
theorem frozen (h : Blk w g cs t) (j : Nat) : w.frozen? ⟨g, j, none⟩ = false := by
  unfold World.frozen?
  rw [show w.heap[(⟨g, j, none⟩ : Addr).block]? = some (.cells cs t (0, 0)) from h]
  simp
theorem new (w : World) (cs : Array Value) (t : TypeId) : Blk (w.alloc (.cells cs t)) w.heap.size cs t := by
  unfold Blk World.alloc
  simp
theorem alloc (h : Blk w g cs t) (o : Obj) : Blk (w.alloc o) g cs t := h.below (Below.alloc (Below.refl _ _) (Nat.le_refl _) o)
theorem drew (h : Blk w g cs t) : Blk w.drew g cs t := h
theorem drewN (h : Blk w g cs t) (n : Nat) : Blk (w.drewN n) g cs t := h
theorem set (h : Blk w g cs t) (j : Nat) (u : Value) : Blk (w.setCell ⟨g, j, none⟩ u) g (cs.setIfInBounds j u) t := by
  unfold Blk at h ⊢
  simp [World.setCell, Array.getElem?_modify, h]
theorem other (h : Blk w g cs t) (p : Addr) (hp : p.block ≠ g) (u : Value) : Blk (w.setCell p u) g cs t := (Below.heap_setCell w p u g (Ne.symm hp)).trans h
end Blk
theorem add_field (ad : Addr) (m j : Nat) (hj : 0 < j) : ad.add (m + j) = ⟨(ad.add m).block, (ad.add m).off + j, none⟩ := by
  unfold Addr.add
  by_cases hm : m = 0
  · subst hm
    simp [Nat.ne_of_gt hj]
  · simp [hm, Nat.add_assoc]
namespace Ty
def C {α : Type} (d : Ty α) (w : World) (A : Option Addr) (xs : List α) : Prop :=
  xs.length ≤ 9223372036854775807 ∧ ∀ i x, xs[i]? = some x → ∃ ad cs, A = some ad ∧ d.K w x cs ∧ ∀ j u, cs[j]? = some u → w.cell? (ad.add (i * d.sz + j)) = some u
def R {α : Type} (d : Ty α) (e : TypeId) (w : World) (S : Nat → Prop) (v : Value) (xs : List α) : Prop :=
  ∃ (inner : List Value) (f : Nat → Nat), w.ownsRow 0 e d.sz v xs.length inner ∧ (∀ k, v.ownBlock = some k → S k) ∧
    ∀ i x, xs[i]? = some x → d.O w (fun b => S b ∧ some b ≠ v.ownBlock ∧ f b = i) x ((inner.drop (i * d.sz)).take d.sz)
section
variable {α : Type} {d : Ty α} {e : TypeId} {w w1 : World} {S S' : Nat → Prop} {v : Value} {xs : List α} {A : Option Addr}
theorem C_below (h : d.C w A xs) (hb : Below w.heap.size w w1) : d.C w1 A xs :=
  ⟨h.1, fun i x hx => by
    obtain ⟨ad, cs, e, hk, hc⟩ := h.2 i x hx
    exact ⟨ad, cs, e, d.K_below hb hk, fun j u hu => cell_below hb (hc j u hu)⟩⟩
theorem C_get (h : d.C w A xs) (z : α) (i : Nat) (hi : i < xs.length) : ∃ ad cs, A = some ad ∧ cs.length = d.sz ∧ d.K w (xs.getD i z) cs ∧ ∀ j u, cs[j]? = some u → w.cell? (ad.add (i * d.sz + j)) = some u := by
  obtain ⟨ad, cs, e, hk, hc⟩ := h.2 i (xs.getD i z) (by simp [List.getD_eq_getElem?_getD, hi])
  exact ⟨ad, cs, e, d.K_len hk, hk, hc⟩
theorem C_at (h : d.C w A xs) (hb : Below w.heap.size w w1) (i : Nat) (hi : i < xs.length) : ∃ ad cs, A = some ad ∧ d.K w1 xs[i] cs ∧ (∀ u, cs[0]? = some u → w1.cell? (ad.add (i * d.sz)) = some u) ∧ ∀ j u, cs[j + 1]? = some u → w1.cell? ⟨(ad.add (i * d.sz)).block, (ad.add (i * d.sz)).off + (j + 1), none⟩ = some u := by
  obtain ⟨ad, cs, e, hk, hc⟩ := h.2 i xs[i] (by simp [hi])
  exact ⟨ad, cs, e, d.K_below hb hk, fun u hu => cell_below hb (hc 0 u hu), fun j u hu => by rw [← add_field _ _ _ (Nat.succ_pos j)]; exact cell_below hb (hc (j + 1) u hu)⟩
theorem C_nil (A : Option Addr) : d.C w A [] := ⟨by simp, fun i x hx => by simp at hx⟩
theorem O_step {x : α} {cs : List Value} (h : d.O w S x cs) (hm : ∀ k, S k → k < w.heap.size → w1.heap[k]? = w.heap[k]?) : d.O w1 S x cs :=
  d.O_mono (fun _ hk => hk.1) (d.O_move (fun k hk => hm k hk.1 hk.2) (d.O_bound h))
theorem O_step_ (d : Ty α) {w w1 : World} {S : Nat → Prop} {x : α} {cs : List Value} (h : d.O w S x cs) (hm : ∀ k, S k → k < w.heap.size → w1.heap[k]? = w.heap[k]?) : d.O w1 (fun k => S k ∧ k < w.heap.size) x cs :=
  d.O_move (fun k hk => hm k hk.1 hk.2) (d.O_bound h)
theorem O_below {x : α} {cs : List Value} (h : d.O w S x cs) (hb : Below w.heap.size w w1) : d.O w1 S x cs := O_step h (fun k _ hk => hb.block k hk)
theorem R_mono (hs : ∀ k, S k → S' k) (h : d.R e w S v xs) : d.R e w S' v xs := by
  obtain ⟨inner, f, ho, hv, hx⟩ := h
  exact ⟨inner, f, ho, fun k hk => hs k (hv k hk), fun i x hi => d.O_mono (fun k hk => ⟨hs k hk.1, hk.2⟩) (hx i x hi)⟩
theorem R_bound (h : d.R e w S v xs) : d.R e w (fun k => S k ∧ k < w.heap.size) v xs := by
  obtain ⟨inner, f, ho, hv, hx⟩ := h
  exact ⟨inner, f, ho, fun k hk => ⟨hv k hk, own_lt ho k hk⟩, fun i x hi => d.O_mono (fun k hk => ⟨⟨hk.1.1, hk.2⟩, hk.1.2⟩) (d.O_bound (hx i x hi))⟩
theorem R_move (hm : ∀ k, S k → w1.heap[k]? = w.heap[k]?) (h : d.R e w S v xs) : d.R e w1 S v xs := by
  obtain ⟨inner, f, ho, hv, hx⟩ := h
  exact ⟨inner, f, own_move ho (fun k hk => hm k (hv k hk)), hv, fun i x hi => d.O_move (fun k hk => hm k hk.1) (hx i x hi)⟩
theorem R_step (h : d.R e w S v xs) (hm : ∀ k, S k → k < w.heap.size → w1.heap[k]? = w.heap[k]?) : d.R e w1 S v xs :=
  R_mono (fun _ hk => hk.1) (R_move (fun k hk => hm k hk.1 hk.2) (R_bound h))
theorem R_below (h : d.R e w S v xs) (hb : Below w.heap.size w w1) : d.R e w1 S v xs := R_step h (fun k _ hk => hb.block k hk)
theorem R_nil : d.R e w S (.slice none 0 0) [] := ⟨[], fun _ => 0, ⟨by simp, .inl ⟨rfl, rfl⟩⟩, fun k hk => by simp [Value.ownBlock] at hk, fun i x hx => by simp at hx⟩
theorem R_C (h : d.R e w S v xs) : ∃ A c, v = .slice A xs.length c ∧ xs.length ≤ c ∧ d.C w A xs := by
  obtain ⟨inner, f, ⟨hl, ho⟩, hv, hx⟩ := h
  rcases ho with ⟨rfl, h0⟩ | ⟨g, cap, cur, rfl, hg, hh, h1, h2, h3, h4⟩
  · obtain rfl : xs = [] := List.eq_nil_of_length_eq_zero h0
    exact ⟨none, 0, rfl, Nat.le_refl _, C_nil _⟩
  · simp only [maxLen] at h2
    refine ⟨_, cap, rfl, h1, ⟨by omega, fun i x hi => ⟨⟨g, 0, none⟩, _, rfl, d.O_K (hx i x hi), fun j u hu => ?_⟩⟩⟩
    have hin : i < xs.length := (List.getElem?_eq_some_iff.1 hi).1
    have hj : j < d.sz := by
      have := d.K_len (d.O_K (hx i x hi))
      have h5 := (List.getElem?_eq_some_iff.1 hu).1
      omega
    have e1 : cur[i * d.sz + j]? = some u := by
      rw [List.getElem?_take, if_pos hj, List.getElem?_drop, ← h4, List.getElem?_take] at hu
      split at hu
      · simpa using hu
      · cases hu
    have ha : (⟨g, 0, none⟩ : Addr).add (i * d.sz + j) = ⟨g, i * d.sz + j, none⟩ := by unfold Addr.add; split <;> simp_all
    rw [ha]
    simp [World.cell?, hh, e1]
end

def scal {α : Type} (enc : α → Value) (h1 : ∀ x, (enc x).oneCell' = true) : Ty α where
  sz := 1
  K := fun _ x cs => cs = [enc x]
  O := fun _ _ x cs => cs = [enc x]
  K_len := fun h => by rw [h]; rfl
  K_one := fun h u hu => by
    rw [h] at hu
    rw [List.mem_singleton.1 hu]
    exact h1 _
  K_below := fun _ h => h
  O_K := fun h => h
  O_mono := fun _ h => h
  O_bound := fun h => h
  O_move := fun _ h => h
def int : Ty Int := scal (Value.int .i64) (fun _ => rfl)
def bool : Ty Bool := scal Value.bool (fun _ => rfl)
def str : Ty ByteArray where
  sz := 1
  K := fun _ x cs => cs = [.string x] ∧ x.size ≤ 9223372036854775807
  O := fun _ _ x cs => cs = [.string x] ∧ x.size ≤ 9223372036854775807
  K_len := fun h => by rw [h.1]; rfl
  K_one := fun h u hu => by
    rw [h.1] at hu
    rw [List.mem_singleton.1 hu]
    rfl
  K_below := fun _ h => h
  O_K := fun h => h
  O_mono := fun _ h => h
  O_bound := fun h => h
  O_move := fun _ h => h
def sl {α : Type} (e : TypeId) (d : Ty α) : Ty (List α) where
  sz := 1
  K := fun w xs cs => ∃ A c, cs = [.slice A xs.length c] ∧ xs.length ≤ c ∧ d.C w A xs
  O := fun w S xs cs => ∃ v, cs = [v] ∧ d.R e w S v xs
  K_len := by
    rintro w x cs ⟨A, c, rfl, _⟩
    rfl
  K_one := by
    rintro w x cs ⟨A, c, rfl, _⟩ u hu
    rw [List.mem_singleton.1 hu]
    rfl
  K_below := by
    rintro w w1 x cs hb ⟨A, c, rfl, hl, hr⟩
    exact ⟨A, c, rfl, hl, C_below hr hb⟩
  O_K := by
    rintro w S x cs ⟨v, rfl, h⟩
    obtain ⟨A, c, rfl, hl, hr⟩ := R_C h
    exact ⟨A, c, rfl, hl, hr⟩
  O_mono := by
    rintro w S S' x cs hok ⟨v, rfl, h⟩
    exact ⟨v, rfl, R_mono hok h⟩
  O_bound := by
    rintro w S x cs ⟨v, rfl, h⟩
    exact ⟨v, rfl, R_bound h⟩
  O_move := by
    rintro w w1 S x cs hm ⟨v, rfl, h⟩
    exact ⟨v, rfl, R_move hm h⟩
def pr {α β : Type} (a : Ty α) (b : Ty β) : Ty (α × β) where
  sz := a.sz + b.sz
  K := fun w x cs => ∃ c0 c1, cs = c0 ++ c1 ∧ a.K w x.1 c0 ∧ b.K w x.2 c1
  O := fun w S x cs => ∃ c0 c1, ∃ f : Nat → Bool, cs = c0 ++ c1 ∧ a.O w (fun k => S k ∧ f k = true) x.1 c0 ∧ b.O w (fun k => S k ∧ f k = false) x.2 c1
  K_len := by
    rintro w x cs ⟨c0, c1, rfl, h0, h1⟩
    rw [List.length_append, a.K_len h0, b.K_len h1]
  K_one := by
    rintro w x cs ⟨c0, c1, rfl, h0, h1⟩ u hu
    rcases List.mem_append.1 hu with hu | hu
    · exact a.K_one h0 u hu
    · exact b.K_one h1 u hu
  K_below := by
    rintro w w1 x cs hb ⟨c0, c1, rfl, h0, h1⟩
    exact ⟨c0, c1, rfl, a.K_below hb h0, b.K_below hb h1⟩
  O_K := by
    rintro w S x cs ⟨c0, c1, f, rfl, h0, h1⟩
    exact ⟨c0, c1, rfl, a.O_K h0, b.O_K h1⟩
  O_mono := by
    rintro w S S' x cs hok ⟨c0, c1, f, rfl, h0, h1⟩
    exact ⟨c0, c1, f, rfl, a.O_mono (fun k hk => ⟨hok k hk.1, hk.2⟩) h0, b.O_mono (fun k hk => ⟨hok k hk.1, hk.2⟩) h1⟩
  O_bound := by
    rintro w S x cs ⟨c0, c1, f, rfl, h0, h1⟩
    exact ⟨c0, c1, f, rfl, a.O_mono (fun k hk => ⟨⟨hk.1.1, hk.2⟩, hk.1.2⟩) (a.O_bound h0), b.O_mono (fun k hk => ⟨⟨hk.1.1, hk.2⟩, hk.1.2⟩) (b.O_bound h1)⟩
  O_move := by
    rintro w w1 S x cs hm ⟨c0, c1, f, rfl, h0, h1⟩
    exact ⟨c0, c1, f, rfl, a.O_move (fun k hk => hm k hk.1) h0, b.O_move (fun k hk => hm k hk.1) h1⟩
def iso {α β : Type} (d : Ty α) (f : β → α) : Ty β where
  sz := d.sz
  K := fun w x cs => d.K w (f x) cs
  O := fun w S x cs => d.O w S (f x) cs
  K_len := d.K_len
  K_one := d.K_one
  K_below := d.K_below
  O_K := d.O_K
  O_mono := d.O_mono
  O_bound := d.O_bound
  O_move := d.O_move
def bot {α : Type} (sz : Nat) : Ty α where
  sz := sz
  K := fun _ _ _ => False
  O := fun _ _ _ _ => False
  K_len := fun h => h.elim
  K_one := fun h => h.elim
  K_below := fun _ h => h
  O_K := fun h => h
  O_mono := fun _ h => h
  O_bound := fun h => h
  O_move := fun _ h => h
structure Le {α : Type} (d d' : Ty α) : Prop where
  sz : d.sz = d'.sz
  K : ∀ w x cs, d.K w x cs → d'.K w x cs
  O : ∀ w S x cs, d.O w S x cs → d'.O w S x cs
theorem Le.refl {α : Type} (d : Ty α) : Le d d := ⟨rfl, fun _ _ _ h => h, fun _ _ _ _ h => h⟩
theorem Le.C {α : Type} {d d' : Ty α} (h : Le d d') {w : World} {A : Option Addr} {xs : List α} (hc : d.C w A xs) : d'.C w A xs :=
  ⟨hc.1, fun i x hx => by
    obtain ⟨ad, cs, e, hk, hl⟩ := hc.2 i x hx
    exact ⟨ad, cs, e, h.K _ _ _ hk, by rw [← h.sz]; exact hl⟩⟩
theorem Le.R {α : Type} {d d' : Ty α} (h : Le d d') {e : TypeId} {w : World} {S : Nat → Prop} {v : Value} {xs : List α} (hc : d.R e w S v xs) : d'.R e w S v xs := by
  obtain ⟨inner, f, ho, hv, hx⟩ := hc
  exact ⟨inner, f, by rw [← h.sz]; exact ho, hv, fun i x hi => by rw [← h.sz]; exact h.O _ _ _ _ (hx i x hi)⟩
theorem Le.sl {α : Type} {d d' : Ty α} (h : Le d d') (e : TypeId) : Le (sl e d) (sl e d') := by
  refine ⟨rfl, ?_, ?_⟩
  · rintro w x cs ⟨A, c, rfl, hl, hc⟩
    exact ⟨A, c, rfl, hl, h.C hc⟩
  · rintro w S x cs ⟨v, rfl, hr⟩
    exact ⟨v, rfl, h.R hr⟩
theorem Le.pr {α β : Type} {a a' : Ty α} {b b' : Ty β} (h : Le a a') (k : Le b b') : Le (pr a b) (pr a' b') := by
  refine ⟨by show a.sz + b.sz = a'.sz + b'.sz; rw [h.sz, k.sz], ?_, ?_⟩
  · rintro w x cs ⟨c0, c1, rfl, h0, h1⟩
    exact ⟨c0, c1, rfl, h.K _ _ _ h0, k.K _ _ _ h1⟩
  · rintro w S x cs ⟨c0, c1, f, rfl, h0, h1⟩
    exact ⟨c0, c1, f, rfl, h.O _ _ _ _ h0, k.O _ _ _ _ h1⟩
theorem Le.iso {α β : Type} {d d' : Ty α} (h : Le d d') (f : β → α) : Le (iso d f) (iso d' f) := ⟨h.sz, fun w x cs => h.K w (f x) cs, fun w S x cs => h.O w S (f x) cs⟩
end Ty

structure Fr (w w' : World) (S : Nat → Prop) : Prop where
  os : w'.os = w.os
  tape : w'.tape = w.tape
  output : w'.output = w.output
  size : w.heap.size ≤ w'.heap.size
  block : ∀ k, k < w.heap.size → ¬ S k → w'.heap[k]? = w.heap[k]?
namespace Fr
variable {w w1 w2 : World} {S S' : Nat → Prop}
theorem refl (w : World) (S : Nat → Prop) : Fr w w S := ⟨rfl, rfl, rfl, Nat.le_refl _, fun _ _ _ => rfl⟩
theorem trans (h : Fr w w1 S) (k : Fr w1 w2 S) : Fr w w2 S :=
  ⟨k.os.trans h.os, k.tape.trans h.tape, k.output.trans h.output, Nat.le_trans h.size k.size, fun i hi hs => (k.block i (Nat.lt_of_lt_of_le hi h.size) hs).trans (h.block i hi hs)⟩
theorem mono (h : Fr w w1 S) (hs : ∀ k, k < w.heap.size → S k → S' k) : Fr w w1 S' := ⟨h.os, h.tape, h.output, h.size, fun i hi hn => h.block i hi (fun hk => hn (hs i hi hk))⟩
theorem of_below (h : Below w.heap.size w w1) (S : Nat → Prop) : Fr w w1 S := ⟨h.os, h.tape, h.output, h.size, fun i hi _ => h.block i hi⟩
theorem below (h : Fr w w1 S) (hs : ∀ k, S k → w.heap.size ≤ k) : Below w.heap.size w w1 := ⟨h.os, h.tape, h.output, h.size, fun i hi => h.block i hi (fun hk => by have := hs i hk; omega)⟩
theorem then_ (h : Fr w w1 S) (k : Fr w1 w2 S') (hs : ∀ k, S' k → k < w.heap.size → S k) : Fr w w2 S :=
  ⟨k.os.trans h.os, k.tape.trans h.tape, k.output.trans h.output, Nat.le_trans h.size k.size, fun i hi hn => (k.block i (Nat.lt_of_lt_of_le hi h.size) (fun hk => hn (hs i hk hi))).trans (h.block i hi hn)⟩
theorem alloc (h : Fr w w1 S) (o : Obj) : Fr w (w1.alloc o) S := h.trans (of_below (below_alloc (Below.refl _ _) o) S)
theorem drew (h : Fr w w1 S) : Fr w w1.drew S := ⟨h.os, h.tape, h.output, h.size, h.block⟩
theorem drewN (h : Fr w w1 S) (n : Nat) : Fr w (w1.drewN n) S := ⟨h.os, h.tape, h.output, h.size, h.block⟩
theorem setCell (h : Fr w w1 S) (p : Addr) (hp : p.block < w.heap.size → S p.block) (u : Value) : Fr w (w1.setCell p u) S :=
  ⟨h.os, h.tape, h.output, by have := h.size; simpa using this, fun i hi hn => by
    rw [Below.heap_setCell _ _ _ _ (fun e => hn (by subst e; exact hp hi))]
    exact h.block i hi hn⟩
theorem grown {row : Option Nat} (hg : w.grownBy w1 row) (hr : ∀ k, row = some k → S k) : Fr w w1 S :=
  ⟨hg.os, hg.tape, hg.output, hg.size, fun i hi hn => hg.block i hi (fun e => hn (hr i e.symm))⟩
end Fr
namespace Ty
variable {α : Type} {d : Ty α} {e : TypeId} {w w1 : World} {S S' : Nat → Prop} {v : Value} {xs : List α}
theorem R_fr (h : d.R e w S v xs) (hf : Fr w w1 S') (hd : ∀ k, S k → k < w.heap.size → ¬ S' k) : d.R e w1 S v xs := R_step h (fun k hk hl => hf.block k hl (hd k hk hl))
theorem O_fr {x : α} {cs : List Value} (h : d.O w S x cs) (hf : Fr w w1 S') (hd : ∀ k, S k → k < w.heap.size → ¬ S' k) : d.O w1 S x cs := O_step h (fun k hk hl => hf.block k hl (hd k hk hl))
theorem R_setCell (h : d.R e w S v xs) {p : Addr} (hp : ¬ S p.block) (u : Value) : d.R e (w.setCell p u) S v xs := R_step h (fun k hk _ => Below.heap_setCell w p u k (fun e => hp (e ▸ hk)))
theorem O_setCell {x : α} {cs : List Value} (h : d.O w S x cs) {p : Addr} (hp : ¬ S p.block) (u : Value) : d.O (w.setCell p u) S x cs := O_step h (fun k hk _ => Below.heap_setCell w p u k (fun e => hp (e ▸ hk)))
theorem R_block {g cap : Nat} {cur : Array Value} (hb : w.heap[g]? = some (.cells cur e (0, 0))) (hg : S g) (hn : xs.length ≤ cap) (hm : cap ≤ 9223372036854775807) (hc : cur.size = cap * d.sz) (f : Nat → Nat)
    (hO : ∀ i x, xs[i]? = some x → d.O w (fun b => S b ∧ b ≠ g ∧ f b = i) x ((cur.toList.drop (i * d.sz)).take d.sz)) : d.R e w S (.slice (some ⟨g, 0, none⟩) xs.length cap) xs := by
  have hle : xs.length * d.sz ≤ cap * d.sz := Nat.mul_le_mul_right _ hn
  refine ⟨cur.toList.take (xs.length * d.sz), f, ⟨by simp; omega, .inr ⟨g, cap, cur, rfl, Nat.zero_le _, hb, hn, by simp only [maxLen]; omega, hc, rfl⟩⟩, fun k hk => ?_, fun i x hi => ?_⟩
  · have : g = k := by simpa [Value.ownBlock] using hk
    exact this ▸ hg
  · have hil : i < xs.length := (List.getElem?_eq_some_iff.1 hi).1
    have h1 : i * d.sz + d.sz ≤ xs.length * d.sz := by
      have := Nat.mul_le_mul_right d.sz (show i + 1 ≤ xs.length by omega)
      rw [Nat.add_mul] at this
      omega
    have he : (((cur.toList.take (xs.length * d.sz)).drop (i * d.sz)).take d.sz) = ((cur.toList.drop (i * d.sz)).take d.sz) := by
      rw [List.drop_take, List.take_take, Nat.min_eq_left (by omega)]
    rw [he]
    exact d.O_mono (fun k hk => ⟨hk.1, by simpa [Value.ownBlock] using hk.2.1, hk.2.2⟩) (hO i x hi)
end Ty
section
variable {P : Program} {ops : Array Oper} {rest : List Oper} {o : Oper} {a : Act} {Q : Exit → Act → World → Prop} {α : Type}
theorem append_gen (d : Ty α) {W : World} (hgd : o.guard = none) (s x : Operand) (t e : TypeId) (z : Value) (bytes : Nat)
    (ho : o.op = .call { callee := .builtin .append, args := #[s, x], argTypes := #[t, t] })
    (ht : P.underlying t = some (.slice e)) (hinfo : (P.info? e).map (fun i => (i.zero, i.size, i.bytes)) = some (some z, d.sz, bytes)) (hz : z.cells.size = d.sz) (hsz : 0 < d.sz) (hb0 : 0 < bytes)
    {S S' : Nat → Prop} {v : Value} {xs ys : List α} (T : Nat → Nat → Prop) (A : Option Addr) (m c : Nat) (news : List Value)
    (hs : a.eval s = v) (hx : a.eval x = .slice A m c) (HR : d.R e W S v xs) (hm : ys.length = m) (hl : news.length = m * d.sz)
    (hnews : ∀ j u, news[j]? = some u → ∃ ad, A = some ad ∧ W.cell? (ad.add j) = some u) (h1 : ∀ u ∈ news, u.oneCell' = true)
    (hO : ∀ i y, ys[i]? = some y → d.O W (T i) y ((news.drop (i * d.sz)).take d.sz))
    (hTT : ∀ i j k, T i k → T j k → i = j) (hST : ∀ i k, T i k → ¬ S k) (hS : ∀ k, S k → S' k) (hT : ∀ i k, T i k → S' k) (hnew : ∀ k, W.heap.size ≤ k → S' k)
    (hbytes : (xs.length + m) * bytes ≤ 140737488355328)
    (h : ∀ v1 w1, d.R e w1 S' v1 (xs ++ ys) → Fr W w1 S → wpList P ops Q rest (a.put o.dst v1) w1) :
    wpList P ops Q (o :: rest) a W := by
  obtain ⟨i0, hi, hzz⟩ := Option.map_eq_some_iff.1 hinfo
  simp only [Prod.mk.injEq] at hzz
  obtain ⟨hz0, hz1, hz2⟩ := hzz
  have hlen : xs.length + m ≤ 140737488355328 := Nat.le_trans (Nat.le_mul_of_pos_right _ hb0) hbytes
  obtain ⟨inner, f, HO, hv, hE⟩ := HR
  have hrun : ∃ v1 w1, (Builtin.append_ #[t, t] o.type #[v, .slice A m c]).run P W = .ok v1 w1 ∧ w1.ownsRow 0 e d.sz v1 (xs.length + m) (inner ++ news) ∧ W.grownBy w1 v.ownBlock ∧ (v1.ownBlock = v.ownBlock ∨ v1.ownBlock = some W.heap.size) := by
    rcases A with _ | ad
    · have h0 : news = [] := by
        rcases news with _ | ⟨u, us⟩
        · rfl
        · obtain ⟨ad, h, _⟩ := hnews 0 u rfl
          cases h
      subst h0
      have hm0 : m = 0 := by
        rcases Nat.eq_zero_or_pos m with h | h
        · exact h
        · have := Nat.mul_pos h hsz
          simp at hl
          omega
      subst hm0
      refine ⟨v, W, ?_, by simpa using HO, World.grownBy.refl W _, .inl rfl⟩
      rcases HO.2 with ⟨rfl, hn⟩ | ⟨g, cap, cur, rfl, _, _, hnc, _⟩
      · simp [Builtin.append_, run_underlying ht, sizeOf, typeInfo, hi, Builtin.lenOf, Builtin.firstCells]
      · simp [Builtin.append_, run_underlying ht, sizeOf, typeInfo, hi, Builtin.lenOf, Builtin.firstCells, hnc, storeCells]
    · obtain ⟨v1, w1, hr, h2, h3, _, h5⟩ := run_append_own_at (P := P) W 0 t o.type e i0 z d.sz bytes ht hi hz0 hz1 hz2 hz hsz v xs.length inner HO ad m c news hl
        (fun j u hu => by obtain ⟨ad', h', hc⟩ := hnews j u hu; injection h' with h'; subst h'; exact hc) h1 (by simp only [maxLen]; omega) hbytes (Nat.zero_le _)
      exact ⟨v1, w1, hr, h2, h3, h5⟩
  obtain ⟨v1, w1, hr, hown, hg, hat⟩ := hrun
  refine wpList_plain hgd fun K hK => ?_
  unfold Oper.wp execOp
  simp only [ho, resolve, invoke, builtin, Sem.run_bind, Sem.run_pure, Result.andThen_ok, List.map_toArray, List.map_cons, List.map_nil, hs, hx, hr]
  refine hK _ _ (h v1 w1 ?_ (Fr.grown hg hv))
  have hin : inner.length = xs.length * d.sz := HO.1
  have hlt : ∀ k, v.ownBlock = some k → k < W.heap.size := fun k hk => own_lt HO k hk
  have hkeep : ∀ k, k < W.heap.size → some k ≠ v.ownBlock → w1.heap[k]? = W.heap[k]? := fun k hk hn => hg.block k hk hn
  have hv1 : ∀ k, k < W.heap.size → some k ≠ v.ownBlock → some k ≠ v1.ownBlock := fun k hk hn he => by
    rcases hat with hat | hat
    · exact hn (he.trans hat)
    · rw [hat] at he
      injection he with he
      omega
  classical
  refine ⟨inner ++ news, fun b => if ∃ j, T j b then xs.length + Classical.epsilon (fun j => T j b) else f b, by rw [List.length_append, hm]; exact hown, fun k hk => ?_, fun i y hiy => ?_⟩
  · rcases hat with hat | hat
    · exact hS k (hv k (hat ▸ hk))
    · rw [hat] at hk
      injection hk with hk
      exact hnew k (by omega)
  · rcases Nat.lt_or_ge i xs.length with hlx | hlx
    · rw [List.getElem?_append_left hlx] at hiy
      have hle : i * d.sz + d.sz ≤ inner.length := by
        have := Nat.mul_le_mul_right d.sz (show i + 1 ≤ xs.length by omega)
        rw [Nat.add_mul] at this
        omega
      have he : ((inner ++ news).drop (i * d.sz)).take d.sz = (inner.drop (i * d.sz)).take d.sz := by
        rw [List.drop_append_of_le_length (by omega), List.take_append_of_le_length (by simp; omega)]
      rw [he]
      refine d.O_mono ?_ (Ty.O_step_ d (hE i y hiy) (fun k hk hl => hkeep k hl hk.2.1))
      intro k hk
      refine ⟨hS k hk.1.1, hv1 k hk.2 hk.1.2.1, ?_⟩
      show (if ∃ j, T j k then _ else _) = i
      rw [if_neg (fun ⟨j, hj⟩ => hST j k hj hk.1.1)]
      exact hk.1.2.2
    · rw [List.getElem?_append_right hlx] at hiy
      have he : ((inner ++ news).drop (i * d.sz)).take d.sz = (news.drop ((i - xs.length) * d.sz)).take d.sz := by
        rw [List.drop_append, List.drop_eq_nil_of_le (by rw [hin]; exact Nat.mul_le_mul_right _ hlx), List.nil_append, hin, Nat.sub_mul]
      rw [he]
      refine d.O_mono ?_ (Ty.O_step_ d (hO _ y hiy) (fun k hk hl => hkeep k hl (fun e => hST _ k hk (hv k e.symm))))
      intro k hk
      refine ⟨hT _ k hk.1, hv1 k hk.2 (fun e => hST _ k hk.1 (hv k e.symm)), ?_⟩
      have hex : ∃ j, T j k := ⟨_, hk.1⟩
      show (if ∃ j, T j k then _ else _) = i
      rw [if_pos hex, hTT _ _ k (Classical.epsilon_spec hex) hk.1]
      omega
end
section
variable {P : Program} {ops : Array Oper} {rest : List Oper} {o : Oper} {a : Act} {Q : Exit → Act → World → Prop} {α : Type}
theorem add0 (g j : Nat) : (⟨g, 0, none⟩ : Addr).add j = ⟨g, j, none⟩ := by unfold Addr.add; split <;> simp_all
theorem append_one (d : Ty α) {W : World} (hgd : o.guard = none) (s x : Operand) (t e : TypeId) (z : Value) (bytes : Nat)
    (ho : o.op = .call { callee := .builtin .append, args := #[s, x], argTypes := #[t, t] })
    (ht : P.underlying t = some (.slice e)) (hinfo : (P.info? e).map (fun i => (i.zero, i.size, i.bytes)) = some (some z, d.sz, bytes)) (hz : z.cells.size = d.sz) (hsz : 0 < d.sz) (hb0 : 0 < bytes)
    {S S' T : Nat → Prop} {v : Value} {xs : List α} (y : α) (cs : List Value)
    (hs : a.eval s = v) (hx : a.eval x = .slice (some ⟨W.heap.size, 0, none⟩) 1 1) (HR : d.R e W S v xs) (hO : d.O W T y cs)
    (hST : ∀ k, T k → k < W.heap.size → ¬ S k) (hS : ∀ k, S k → S' k) (hT : ∀ k, T k → S' k) (hnew : ∀ k, W.heap.size ≤ k → S' k)
    (hbytes : (xs.length + 1) * bytes ≤ 140737488355328)
    (h : ∀ v1 w1, d.R e w1 S' v1 (xs ++ [y]) → Fr W w1 S → wpList P ops Q rest (a.put o.dst v1) w1) :
    wpList P ops Q (o :: rest) a (W.alloc (.cells cs.toArray e)) := by
  have hlen := d.K_len (d.O_K hO)
  have hb : Below W.heap.size W (W.alloc (.cells cs.toArray e)) := below_alloc (Below.refl _ _) _
  refine append_gen d (S := fun k => S k ∧ k < W.heap.size) (S' := S') (v := v) (xs := xs) (ys := [y]) hgd s x t e z bytes ho ht hinfo hz hsz hb0 (fun i k => i = 0 ∧ T k ∧ k < W.heap.size) (some ⟨W.heap.size, 0, none⟩) 1 1 cs hs hx
    (Ty.R_below (Ty.R_bound HR) hb) rfl (by rw [hlen, Nat.one_mul]) (fun j u hu => ⟨_, rfl, ?_⟩) (d.K_one (d.O_K hO)) (fun i y' hi => ?_) (fun i j k h1 h2 => by rw [h1.1, h2.1]) (fun i k hk hs => hST k hk.2.1 hk.2.2 hs.1) (fun k hk => hS k hk.1) (fun i k hk => hT k hk.2.1) (fun k hk => hnew k (by have := hk; simp at this; omega)) hbytes
    (fun v1 w1 hr hf => h v1 w1 hr (((Fr.refl W S).alloc _).then_ hf (fun k hk _ => hk.1)))
  · rw [add0]
    have e1 : (W.alloc (.cells cs.toArray e)).heap[W.heap.size]? = some (.cells cs.toArray e (0, 0)) := heap_alloc_new W _
    unfold World.cell?
    rw [e1]
    simpa using hu
  · rcases i with _ | i
    · simp at hi
      subst hi
      have he : (cs.drop (0 * d.sz)).take d.sz = cs := by rw [Nat.zero_mul, List.drop_zero, List.take_of_length_le (by omega)]
      rw [he]
      exact d.O_mono (fun k hk => ⟨rfl, hk⟩) (Ty.O_below (d.O_bound hO) hb)
    · simp at hi
theorem append_scal {enc : α → Value} {h1 : ∀ x, (enc x).oneCell' = true} {W : World} (hgd : o.guard = none) (s x : Operand) (t e : TypeId) (z : Value) (bytes : Nat)
    (ho : o.op = .call { callee := .builtin .append, args := #[s, x], argTypes := #[t, t] })
    (ht : P.underlying t = some (.slice e)) (hinfo : (P.info? e).map (fun i => (i.zero, i.size, i.bytes)) = some (some z, 1, bytes)) (hz : z.cells.size = 1) (hb0 : 0 < bytes)
    {S S' : Nat → Prop} {v : Value} {xs ys : List α} {A : Option Addr} {c : Nat}
    (hs : a.eval s = v) (hx : a.eval x = .slice A ys.length c) (HR : (Ty.scal enc h1).R e W S v xs) (HC : (Ty.scal enc h1).C W A ys)
    (hS : ∀ k, S k → S' k) (hnew : ∀ k, W.heap.size ≤ k → S' k) (hbytes : (xs.length + ys.length) * bytes ≤ 140737488355328)
    (h : ∀ v1 w1, (Ty.scal enc h1).R e w1 S' v1 (xs ++ ys) → Fr W w1 S → wpList P ops Q rest (a.put o.dst v1) w1) :
    wpList P ops Q (o :: rest) a W := by
  refine append_gen (Ty.scal enc h1) (S := S) (S' := S') (v := v) (xs := xs) (ys := ys) hgd s x t e z bytes ho ht hinfo hz (Nat.le_refl 1) hb0 (fun i k => False) A ys.length c (ys.map enc) hs hx HR rfl (by simp [Ty.scal]) (fun j u hu => ?_) (fun u hu => ?_) (fun i y hi => ?_)
    (fun i j k h1 h2 => h1.elim) (fun i k hk => hk.elim) hS (fun i k hk => hk.elim) hnew hbytes h
  · rw [List.getElem?_map] at hu
    obtain ⟨y, hy, rfl⟩ := Option.map_eq_some_iff.1 hu
    obtain ⟨ad, cs, e1, hk, hc⟩ := HC.2 j y hy
    have e2 : cs = [enc y] := hk
    refine ⟨ad, e1, ?_⟩
    have := hc 0 (enc y) (by rw [e2]; rfl)
    simpa [Ty.scal] using this
  · obtain ⟨y, _, rfl⟩ := List.mem_map.1 hu
    exact h1 y
  · show ((ys.map enc).drop (i * 1)).take 1 = [enc y]
    have hil := (List.getElem?_eq_some_iff.1 hi).1
    rw [Nat.mul_one, ← List.map_drop, ← List.map_take, List.drop_eq_getElem_cons hil]
    simp [(List.getElem?_eq_some_iff.1 hi).2]
end
theorem heap_setCell_ {w : World} {g : Nat} {cur : Array Value} {e : TypeId} {fr : Nat × Nat} (hh : w.heap[g]? = some (.cells cur e fr)) (i : Nat) (u : Value) : (w.setCell ⟨g, i, none⟩ u).heap[g]? = some (.cells (cur.setIfInBounds i u) e fr) := by
  simp [World.setCell, Array.getElem?_modify, hh]
theorem set_drop_ {α : Type} (l : List α) (i j n : Nat) (u : α) : ((l.set (i + j) u).drop i).take n = (((l.drop i).take n).set j u) := by
  rw [List.drop_set, if_neg (by omega), Nat.add_sub_cancel_left, List.take_set]
namespace Ty
variable {α : Type} {d : Ty α} {e : TypeId} {w w1 : World} {S S' Si T : Nat → Prop} {v : Value} {xs : List α} {i : Nat} {cs : List Value}
def H (d : Ty α) (e : TypeId) (w : World) (S : Nat → Prop) (v : Value) (xs : List α) (i : Nat) (Si : Nat → Prop) (cs : List Value) : Prop :=
  i < xs.length ∧ cs.length = d.sz ∧ ∃ (inner : List Value) (f : Nat → Nat), w.ownsRow 0 e d.sz v xs.length inner ∧ (∀ k, v.ownBlock = some k → S k) ∧ (inner.drop (i * d.sz)).take d.sz = cs ∧ (∀ k, Si k → S k ∧ some k ≠ v.ownBlock) ∧
    ∀ j x, j ≠ i → xs[j]? = some x → d.O w (fun b => S b ∧ some b ≠ v.ownBlock ∧ f b = j ∧ ¬ Si b) x ((inner.drop (j * d.sz)).take d.sz)
theorem R_H (h : d.R e w S v xs) {x : α} (hx : xs[i]? = some x) : ∃ Si cs, d.H e w S v xs i Si cs ∧ d.O w Si x cs := by
  obtain ⟨inner, f, ho, hv, hE⟩ := h
  exact ⟨_, _, ⟨(List.getElem?_eq_some_iff.1 hx).1, d.K_len (d.O_K (hE i x hx)), inner, f, ho, hv, rfl, fun k hk => ⟨hk.1, hk.2.1⟩, fun j y hj hy => d.O_mono (fun k hk => ⟨hk.1, hk.2.1, hk.2.2, fun h => hj (hk.2.2.symm.trans h.2.2)⟩) (hE j y hy)⟩, hE i x hx⟩
theorem H_step (h : d.H e w S v xs i Si cs) (hm : ∀ k, S k → ¬ Si k → k < w.heap.size → w1.heap[k]? = w.heap[k]?) : d.H e w1 S v xs i Si cs := by
  obtain ⟨hi, hl, inner, f, ho, hv, hc, hs, hE⟩ := h
  exact ⟨hi, hl, inner, f, own_move ho (fun k hk => hm k (hv k hk) (fun h => (hs k h).2 hk.symm) (own_lt ho k hk)), hv, hc, hs, fun j y hj hy => O_step (hE j y hj hy) (fun k hk hl => hm k hk.1 hk.2.2.2 hl)⟩
theorem H_fr (h : d.H e w S v xs i Si cs) (hf : Fr w w1 S') (hd : ∀ k, S k → S' k → k < w.heap.size → Si k) : d.H e w1 S v xs i Si cs := H_step h (fun k hs hn hl => hf.block k hl (fun hk => hn (hd k hs hk hl)))
theorem H_back (h : d.H e w S v xs i Si cs) {x' : α} (hO : d.O w T x' cs) (hT : ∀ k, T k → Si k ∨ ¬ S k) (hS : ∀ k, S k → S' k) (hT' : ∀ k, T k → S' k) : d.R e w S' v (xs.set i x') := by
  obtain ⟨hi, hl, inner, f, ho, hv, hc, hs, hE⟩ := h
  classical
  refine ⟨inner, fun b => if T b then i else f b, by rw [List.length_set]; exact ho, fun k hk => hS k (hv k hk), fun j y hy => ?_⟩
  by_cases hj : j = i
  · subst hj
    rw [List.getElem?_set_self hi] at hy
    injection hy with hy
    subst hy
    rw [hc]
    refine d.O_mono (fun k hk => ⟨hT' k hk, fun he => ?_, if_pos hk⟩) hO
    rcases hT k hk with h | h
    · exact (hs k h).2 he
    · exact h (hv k he.symm)
  · rw [List.getElem?_set_ne (fun h => hj h.symm)] at hy
    refine d.O_mono (fun k hk => ⟨hS k hk.1, hk.2.1, ?_⟩) (hE j y hj hy)
    show (if T k then i else f k) = j
    rw [if_neg (fun h => (hT k h).elim hk.2.2.2 (fun h => h hk.1))]
    exact hk.2.2.1
theorem H_cells (h : d.H e w S v xs i Si cs) (hsz : 0 < d.sz) : ∃ g cap, v = .slice (some ⟨g, 0, none⟩) xs.length cap ∧ xs.length ≤ cap ∧ cap ≤ 9223372036854775807 ∧ S g ∧ g < w.heap.size ∧ ¬ Si g ∧
    (∀ j u, cs[j]? = some u → w.cell? ⟨g, i * d.sz + j, none⟩ = some u) ∧ ∀ j, w.frozen? ⟨g, j, none⟩ = false := by
  obtain ⟨hi, hl, inner, f, ho, hv, hc, hs, hE⟩ := h
  rcases ho.2 with ⟨rfl, h0⟩ | ⟨g, cap, cur, rfl, hg, hh, h1, h2, h3, h4⟩
  · omega
  · simp only [maxLen] at h2
    refine ⟨g, cap, rfl, h1, by omega, hv g (by simp [Value.ownBlock]), (Array.getElem?_eq_some_iff.1 hh).1, fun h => (hs g h).2 (by simp [Value.ownBlock]), fun j u hu => ?_, fun j => ?_⟩
    · have hj : j < d.sz := by
        have := (List.getElem?_eq_some_iff.1 hu).1
        omega
      rw [← hc, List.getElem?_take, if_pos hj, List.getElem?_drop, ← h4, List.getElem?_take] at hu
      split at hu
      · simp [World.cell?, hh]; simpa using hu
      · cases hu
    · simp [World.frozen?, hh]
theorem H_store {g n cap : Nat} (h : d.H e w S (.slice (some ⟨g, 0, none⟩) n cap) xs i Si cs) (j : Nat) (hj : j < d.sz) (u : Value) (hu : u.cells = #[u]) : d.H e (w.setCell ⟨g, i * d.sz + j, none⟩ u) S (.slice (some ⟨g, 0, none⟩) n cap) xs i Si (cs.set j u) := by
  obtain ⟨hi, hl, inner, f, ho, hv, hc, hs, hE⟩ := h
  rcases ho.2 with ⟨h0, _⟩ | ⟨g', cap', cur, he, hg, hh, h1, h2, h3, h4⟩
  · cases h0
  · injection he with he1 he2 he3
    injection he1 with he1
    injection he1 with he1 _ _
    subst he1; subst he3; subst he2
    have hi1 : i * d.sz + d.sz ≤ xs.length * d.sz := by
      have := Nat.mul_le_mul_right d.sz (show i + 1 ≤ xs.length by omega)
      rw [Nat.add_mul] at this
      omega
    have hcap := Nat.mul_le_mul_right d.sz h1
    have hin : i * d.sz + j < cur.size := by omega
    have hhs : (w.setCell ⟨g, i * d.sz + j, none⟩ u).heap[g]? = some (.cells (cur.setIfInBounds (i * d.sz + j) u) e (0, 0)) := heap_setCell_ hh _ u
    have hne : ∀ k, k ≠ g → (w.setCell ⟨g, i * d.sz + j, none⟩ u).heap[k]? = w.heap[k]? := fun k hk => Below.heap_setCell w _ u k hk
    refine ⟨hi, by rw [List.length_set]; exact hl, inner.set (i * d.sz + j) u, f, ⟨by rw [List.length_set]; exact ho.1, .inr ⟨g, cap, cur.setIfInBounds (i * d.sz + j) u, rfl, hg, hhs, h1, h2, by simpa using h3, ?_⟩⟩, hv, ?_, hs, fun k y hk hy => ?_⟩
    · rw [← h4, Array.toList_setIfInBounds, List.take_set]
    · rw [← hc, set_drop_]
    · have hkl := (List.getElem?_eq_some_iff.1 hy).1
      have he : ((inner.set (i * d.sz + j) u).drop (k * d.sz)).take d.sz = (inner.drop (k * d.sz)).take d.sz := by
        apply List.ext_getElem?
        intro q
        rw [List.getElem?_take, List.getElem?_take]
        split
        · rename_i hq
          rw [List.getElem?_drop, List.getElem?_drop, List.getElem?_set_ne]
          intro heq
          rcases Nat.lt_or_gt_of_ne hk with hlt | hgt
          · have := Nat.mul_le_mul_right d.sz (show k + 1 ≤ i by omega)
            rw [Nat.add_mul] at this
            omega
          · have := Nat.mul_le_mul_right d.sz (show i + 1 ≤ k by omega)
            rw [Nat.add_mul] at this
            omega
        · rfl
      rw [he]
      exact d.O_move (fun b hb => hne b (fun e => hb.2.1 (by simp [Value.ownBlock, e]))) (hE k y hk hy)
theorem R_form (h : d.R e w S v xs) (hp : 0 < xs.length) : ∃ g cap, v = .slice (some ⟨g, 0, none⟩) xs.length cap ∧ S g ∧ g < w.heap.size := by
  obtain ⟨inner, f, ho, hv, hE⟩ := h
  rcases ho.2 with ⟨rfl, h0⟩ | ⟨g, cap, cur, rfl, hg, hh, h1, h2, h3, h4⟩
  · omega
  · exact ⟨g, cap, rfl, hv g (by simp [Value.ownBlock]), (Array.getElem?_eq_some_iff.1 hh).1⟩
theorem R_store1 {enc : α → Value} {h1 : ∀ x, (enc x).oneCell' = true} (hc1 : ∀ x, (enc x).cells = #[enc x]) {g n cap : Nat} (h : (scal enc h1).R e w S (.slice (some ⟨g, 0, none⟩) n cap) xs) {x : α} (hx : xs[i]? = some x) : g < w.heap.size ∧ w.cell? ⟨g, i, none⟩ = some (enc x) ∧ w.frozen? ⟨g, i, none⟩ = false ∧
    ∀ u, (scal enc h1).R e (w.setCell ⟨g, i, none⟩ (enc u)) S (.slice (some ⟨g, 0, none⟩) n cap) (xs.set i u) := by
  obtain ⟨Si, cs, hH, hO⟩ := R_H h hx
  have hcs : cs = [enc x] := hO
  obtain ⟨g', cap', he, _, _, hg, hgl, _, hcell, hfz⟩ := H_cells hH (Nat.le_refl 1)
  injection he with he _ _; injection he with he; injection he with he _ _; subst he
  refine ⟨hgl, ?_, hfz i, fun u => ?_⟩
  · have := hcell 0 (enc x) (by rw [hcs]; rfl)
    simpa [scal] using this
  · have h2 := H_store hH 0 (Nat.le_refl 1) (enc u) (hc1 u)
    have e1 : i * (scal enc h1).sz + 0 = i := by simp [scal]
    rw [e1] at h2
    exact H_back h2 (T := fun _ => False) (show cs.set 0 (enc u) = [enc u] by rw [hcs]; rfl) (fun k hk => hk.elim) (fun k hk => hk) (fun k hk => hk.elim)
theorem R_made {W : World} {z : Value} (zv : α) (n : Nat) (hsz : 0 < d.sz) (hn : n ≤ 9223372036854775807) (hz : z.cells.size = d.sz) (hO : 0 < n → ∀ w S, d.O w S zv z.cells.toList) (hS : S W.heap.size) :
    d.R e (W.alloc (.cells (madeCells z.cells (n * d.sz)) e)) S (.slice (some ⟨W.heap.size, 0, none⟩) n n) (List.replicate n zv) := by
  have := R_block (d := d) (e := e) (w := W.alloc (.cells (madeCells z.cells (n * d.sz)) e)) (S := S) (g := W.heap.size) (cap := n) (xs := List.replicate n zv) (heap_alloc_new W _) hS (by simp) hn (by simp [size_madeCells]) (fun b => 0) (fun i x hi => ?_)
  · simpa using this
  · have hil : i < n := by simpa using (List.getElem?_eq_some_iff.1 hi).1
    obtain rfl : zv = x := by
      have := (List.getElem?_eq_some_iff.1 hi).2
      simpa using this
    have h1 : i * d.sz + d.sz ≤ n * d.sz := by
      have := Nat.mul_le_mul_right d.sz (show i + 1 ≤ n by omega)
      rw [Nat.add_mul] at this
      omega
    have he : ((madeCells z.cells (n * d.sz)).toList.drop (i * d.sz)).take d.sz = z.cells.toList := by
      apply List.ext_getElem
      · simp [madeCells, hz]; omega
      · intro q h2 h3
        have hq : q < d.sz := by simpa [hz] using h3
        have : (i * d.sz + q) % z.cells.size = q := by rw [hz, Nat.mul_comm, Nat.mul_add_mod, Nat.mod_eq_of_lt hq]
        simp only [List.getElem_take, List.getElem_drop, madeCells, Array.toList_map, List.getElem_map, Array.toList_range, List.getElem_range, this]
        simp [hz, hq]
    rw [he]
    exact hO (by omega) _ _
end Ty
theorem set_rep {α : Type} (l : List α) (z : α) (k : Nat) (hk : k < l.length) : (l.take k ++ List.replicate (l.length - k) z).set k l[k] = l.take (k + 1) ++ List.replicate (l.length - (k + 1)) z := by
  rw [List.set_append_right _ _ (by simp; omega)]
  have h1 : k - (l.take k).length = 0 := by simp; omega
  have h2 : l.length - k = (l.length - (k + 1)) + 1 := by omega
  rw [h1, h2, List.replicate_succ, List.set_cons_zero, List.take_succ_eq_append_getElem hk, List.append_assoc]
  rfl
theorem make_eq {P : Program} (t e : TypeId) (z : Value) (sz bytes : Nat) (ht : P.underlying t = some (.slice e)) (hinfo : (P.info? e).map (fun i => (i.zero, i.size, i.bytes)) = some (some z, sz, bytes)) (n : Nat) (hb : bytes * n ≤ 281474976710656) (hn : n ≤ 9223372036854775807) (W : World) :
    (Instr.makeSlice t (.int .i64 (n : Int)) (.int .i64 (n : Int))).run P W = .ok (.slice (some ⟨W.heap.size, 0, none⟩) n n) (W.alloc (.cells (madeCells z.cells (n * sz)) e)) := by
  obtain ⟨i, hi, hzz⟩ := Option.map_eq_some_iff.1 hinfo
  simp only [Prod.mk.injEq] at hzz
  obtain ⟨h1, h2, h3⟩ := hzz
  subst h2; subst h3
  have := run_make (P := P) W t e i z ht hi h1 .i64 .i64 n n (by omega) (by omega) (by have : ((i.bytes * n : Nat) : Int) ≤ 281474976710656 := by omega
                                                                                       simpa using this) (by omega)
  simpa using this
end Go.Proofs.YtegcecnjmimbiaaDoor.X
namespace Go.Proofs.YtegcecnjmimbiaaDoor.X
open Go.RowKit Go.Lib
set_option linter.unusedVariables false
theorem var_below {P : Program} {w w1 : World} (h : Below w.heap.size w w1) {nm : String} {cs : Array Value} (hv : w.var? P nm = some cs) : w1.var? P nm = some cs := by
 unfold World.var? at hv ⊢
 cases hg : P.globalNamed nm with
 | none => simp [hg] at hv
 | some g =>
  simp only [hg, Option.bind_some] at hv ⊢
  have hlt : g < w.heap.size := by
   rcases Nat.lt_or_ge g w.heap.size with h' | h'
   ·exact h'
   ·rw [Array.getElem?_eq_none h'] at hv; simp at hv
  rw [h.block g hlt]
  exact hv
def EnvT (w : World) : Prop := TabIs Tryd.prog w "internal/strconv.uint64pow10" .u64 pow10Tab
def EnvE (w : World) : Prop := (∃ tp p, w.var? Tryd.prog "strconv.ErrSyntax" = some #[.iface tp p]) ∧ ∃ tp p, w.var? Tryd.prog "strconv.ErrRange" = some #[.iface tp p]
theorem EnvT.below {w w1 : World} (h : EnvT w) (hb : Below w.heap.size w w1) : EnvT w1 := by
 unfold EnvT TabIs at h ⊢
 exact var_below hb h
theorem EnvE.below {w w1 : World} (h : EnvE w) (hb : Below w.heap.size w w1) : EnvE w1 := by
 obtain ⟨⟨t, p, h1⟩, t2, p2, h2⟩ := h
 exact ⟨⟨t, p, var_below hb h1⟩, t2, p2, var_below hb h2⟩
theorem envT_mv {w w1 : World} (hb : Below w.heap.size w w1) (h : EnvT w) : EnvT w1 := h.below hb
theorem envE_mv {w w1 : World} (hb : Below w.heap.size w w1) (h : EnvE w) : EnvE w1 := h.below hb
end Go.Proofs.YtegcecnjmimbiaaDoor.X
namespace Go.Proofs.YtegcecnjmimbiaaDoor.X
open Go.ChangeShapes Go.WideShapes Go.ChangeAt Go.RowKit
set_option linter.unusedVariables false
def flat1 : DataW Unit → List Value
 | .agg ps => ps.map fun
  | .lit (.int k z) => .int k z
  | _ => undef
 | _ => []
def flat2 : DataW Unit → List Value
 | .agg ps => ps.flatMap flat1
 | _ => []
def setG (g : Nat) (cs : List Value) (h : Array Obj) : Array Obj := h.modify g fun
 | .cells _ t frozen => .cells cs.toArray t frozen
 | o => o
abbrev synS : ByteArray := { data := #[105, 110, 118, 97, 108, 105, 100, 32, 115, 121, 110, 116, 97, 120] }
abbrev rngS : ByteArray := { data := #[118, 97, 108, 117, 101, 32, 111, 117, 116, 32, 111, 102, 32, 114, 97, 110, 103, 101] }
noncomputable def low : Nat := (World.holding Tryd.prog default ⟨#[], #[], []⟩).heap.size
noncomputable def laidWorld (os : Os) : World := let w0 := World.holding Tryd.prog os ⟨#[], #[], []⟩; { w0 with heap := setG 0 (flat1 Rows.laid_internal_strconv_uint64pow10) (setG 1 (flat1 Rows.laid_math_bits_deBruijn32tab) (setG 2 (flat1 Rows.laid_math_bits_deBruijn64tab) w0.heap)) }
theorem gPT : Tryd.prog.globalNamed "internal/strconv.uint64pow10" = some 0 := by kernel_rfl
theorem star : "*" ++ "errors.errorString" = "*errors.errorString" := by decide
theorem envT_of {rest : List (String × DataW Unit)} {W : World} (h : laidMet Tryd.prog (("internal/strconv.uint64pow10", Rows.laid_internal_strconv_uint64pow10) :: rest) W) : EnvT W :=
 Lib.tabIs_of_head (k := .u64) (zs := Lib.pow10Tab) (rest := rest) (t := 88) (e := 81) (n := 20) gPT (by kernel_rfl) (by kernel_rfl) (by kernel_rfl) (by kernel_rfl) (by kernel_rfl) h
end Go.Proofs.YtegcecnjmimbiaaDoor.X
namespace Go.Proofs.YtegcecnjmimbiaaDoor.X
open Go.RowKit
set_option linter.unusedVariables false
set_option linter.unusedSimpArgs false

structure Row where
 id : Int
 cells : List Int
 deriving DecidableEq
structure Store where
 cols : List Int
 ver : Int
 tabs : List (List Row)
 deriving DecidableEq
structure Mut where
 kind : Int
 table : Int
 row : Row
structure Change where
 table : Int
 had : Bool
 has : Bool
 old : Row
 new : Row
 deriving DecidableEq
inductive J where
 | mk (kind n : Int) (s : ByteArray) (list : List J) (names : List ByteArray)
namespace J
def kind : J → Int | mk k _ _ _ _ => k
def n : J → Int | mk _ n _ _ _ => n
def s : J → ByteArray | mk _ _ s _ _ => s
def list : J → List J | mk _ _ _ l _ => l
def names : J → List ByteArray | mk _ _ _ _ l => l
@[simp] theorem kind_mk (k n : Int) (s : ByteArray) (l : List J) (ns : List ByteArray) : (mk k n s l ns).kind = k := rfl
@[simp] theorem n_mk (k n : Int) (s : ByteArray) (l : List J) (ns : List ByteArray) : (mk k n s l ns).n = n := rfl
@[simp] theorem s_mk (k n : Int) (s : ByteArray) (l : List J) (ns : List ByteArray) : (mk k n s l ns).s = s := rfl
@[simp] theorem list_mk (k n : Int) (s : ByteArray) (l : List J) (ns : List ByteArray) : (mk k n s l ns).list = l := rfl
@[simp] theorem names_mk (k n : Int) (s : ByteArray) (l : List J) (ns : List ByteArray) : (mk k n s l ns).names = ns := rfl
theorem eta : ∀ j : J, mk j.kind j.n j.s j.list j.names = j
 | mk _ _ _ _ _ => rfl
def null : J := mk 0 0 ByteArray.empty [] []
end J
structure JOp where
 kind : Int
 way : List ByteArray
 value : J

namespace Ty
theorem scal_K {α : Type} {enc : α → Value} {h1 : ∀ x, (enc x).oneCell' = true} {w : World} {x : α} {cs : List Value} : (scal enc h1).K w x cs ↔ cs = [enc x] := Iff.rfl
theorem sl_K {α : Type} {e : TypeId} {d : Ty α} {w : World} {xs : List α} {cs : List Value} : (sl e d).K w xs cs ↔ ∃ A c, cs = [.slice A xs.length c] ∧ xs.length ≤ c ∧ d.C w A xs := Iff.rfl
theorem sl_O {α : Type} {e : TypeId} {d : Ty α} {w : World} {S : Nat → Prop} {xs : List α} {cs : List Value} : (sl e d).O w S xs cs ↔ ∃ v, cs = [v] ∧ d.R e w S v xs := Iff.rfl
theorem pr_scal_K {α β : Type} {enc : α → Value} {h1 : ∀ x, (enc x).oneCell' = true} {b : Ty β} {w : World} {x : α × β} {cs : List Value} : (pr (scal enc h1) b).K w x cs ↔ ∃ c1, cs = enc x.1 :: c1 ∧ b.K w x.2 c1 := by
 constructor
 ·rintro ⟨c0, c1, rfl, h0, h1⟩
  exact ⟨c1, by rw [show c0 = [enc x.1] from h0]; rfl, h1⟩
 ·rintro ⟨c1, rfl, h⟩
  exact ⟨[enc x.1], c1, rfl, rfl, h⟩
theorem pr_scal_O {α β : Type} {enc : α → Value} {h1 : ∀ x, (enc x).oneCell' = true} {b : Ty β} {w : World} {S : Nat → Prop} {x : α × β} {cs : List Value} : (pr (scal enc h1) b).O w S x cs ↔ ∃ c1, cs = enc x.1 :: c1 ∧ b.O w S x.2 c1 := by
 constructor
 ·rintro ⟨c0, c1, f, rfl, h0, h1⟩
  exact ⟨c1, by rw [show c0 = [enc x.1] from h0]; rfl, b.O_mono (fun _ h => h.1) h1⟩
 ·rintro ⟨c1, rfl, h⟩
  exact ⟨[enc x.1], c1, fun _ => false, rfl, rfl, b.O_mono (fun _ h => ⟨h, rfl⟩) h⟩
theorem int_K {w : World} {x : Int} {cs : List Value} : int.K w x cs ↔ cs = [.int .i64 x] := Iff.rfl
theorem bool_K {w : World} {x : Bool} {cs : List Value} : Ty.bool.K w x cs ↔ cs = [.bool x] := Iff.rfl
theorem str_K {w : World} {x : ByteArray} {cs : List Value} : str.K w x cs ↔ cs = [.string x] ∧ x.size ≤ 9223372036854775807 := Iff.rfl
theorem pr_int_K {β : Type} {b : Ty β} {w : World} {x : Int} {y : β} {cs : List Value} : (pr int b).K w (x, y) cs ↔ ∃ c1, cs = .int .i64 x :: c1 ∧ b.K w y c1 := pr_scal_K
theorem pr_bool_K {β : Type} {b : Ty β} {w : World} {x : Bool} {y : β} {cs : List Value} : (pr Ty.bool b).K w (x, y) cs ↔ ∃ c1, cs = .bool x :: c1 ∧ b.K w y c1 := pr_scal_K
theorem pr_str_K {β : Type} {b : Ty β} {w : World} {x : ByteArray} {y : β} {cs : List Value} : (pr str b).K w (x, y) cs ↔ ∃ c1, cs = .string x :: c1 ∧ x.size ≤ 9223372036854775807 ∧ b.K w y c1 := by
 constructor
 ·rintro ⟨c0, c1, rfl, h0, h1⟩
  exact ⟨c1, by rw [show c0 = [.string x] from h0.1]; rfl, h0.2, h1⟩
 ·rintro ⟨c1, rfl, h0, h⟩
  exact ⟨[.string x], c1, rfl, ⟨rfl, h0⟩, h⟩
theorem pr_int_O {β : Type} {b : Ty β} {w : World} {S : Nat → Prop} {x : Int} {y : β} {cs : List Value} : (pr int b).O w S (x, y) cs ↔ ∃ c1, cs = .int .i64 x :: c1 ∧ b.O w S y c1 := pr_scal_O
theorem pr_bool_O {β : Type} {b : Ty β} {w : World} {S : Nat → Prop} {x : Bool} {y : β} {cs : List Value} : (pr Ty.bool b).O w S (x, y) cs ↔ ∃ c1, cs = .bool x :: c1 ∧ b.O w S y c1 := pr_scal_O
theorem pr_str_O {β : Type} {b : Ty β} {w : World} {S : Nat → Prop} {x : ByteArray} {y : β} {cs : List Value} : (pr str b).O w S (x, y) cs ↔ ∃ c1, cs = .string x :: c1 ∧ x.size ≤ 9223372036854775807 ∧ b.O w S y c1 := by
 constructor
 ·rintro ⟨c0, c1, f, rfl, h0, h1⟩
  exact ⟨c1, by rw [show c0 = [.string x] from h0.1]; rfl, h0.2, b.O_mono (fun _ h => h.1) h1⟩
 ·rintro ⟨c1, rfl, h0, h⟩
  exact ⟨[.string x], c1, fun _ => false, rfl, ⟨rfl, h0⟩, b.O_mono (fun _ h => ⟨h, rfl⟩) h⟩
theorem pr_K {α β : Type} {a : Ty α} {b : Ty β} {w : World} {x : α × β} {cs : List Value} : (pr a b).K w x cs ↔ ∃ c0 c1, cs = c0 ++ c1 ∧ a.K w x.1 c0 ∧ b.K w x.2 c1 := Iff.rfl
theorem pr_O {α β : Type} {a : Ty α} {b : Ty β} {w : World} {S : Nat → Prop} {x : α × β} {cs : List Value} :
  (pr a b).O w S x cs ↔ ∃ c0 c1, ∃ T0 T1 : Nat → Prop, cs = c0 ++ c1 ∧ a.O w T0 x.1 c0 ∧ b.O w T1 x.2 c1 ∧ (∀ k, T0 k → S k) ∧ (∀ k, T1 k → S k) ∧ (∀ k, T0 k → ¬ T1 k) := by
 constructor
 ·rintro ⟨c0, c1, f, rfl, h0, h1⟩
  exact ⟨c0, c1, _, _, rfl, h0, h1, fun k h => h.1, fun k h => h.1, fun k h h' => by rw [h.2] at h'; cases h'.2⟩
 ·rintro ⟨c0, c1, T0, T1, rfl, h0, h1, hs0, hs1, hd⟩
  classical
  refine ⟨c0, c1, fun k => decide (T0 k), rfl, a.O_mono (fun k h => ⟨hs0 k h, by simpa using h⟩) h0, b.O_mono (fun k h => ⟨hs1 k h, ?_⟩) h1⟩
  simp only [decide_eq_false_iff_not]
  exact fun h' => hd k h' h
theorem iso_K {α β : Type} {d : Ty α} {f : β → α} {w : World} {x : β} {cs : List Value} : (iso d f).K w x cs ↔ d.K w (f x) cs := Iff.rfl
theorem iso_O {α β : Type} {d : Ty α} {f : β → α} {w : World} {S : Nat → Prop} {x : β} {cs : List Value} : (iso d f).O w S x cs ↔ d.O w S (f x) cs := Iff.rfl
theorem C_int_at {w W : World} {A : Option Addr} {l : List Int} (h : int.C w A l) (hb : Below w.heap.size w W) (k : Nat) (hk : k < l.length) : ∃ ad, A = some ad ∧ W.cell? (ad.add k) = some (.int .i64 l[k]) := by
 obtain ⟨ad, cs, rfl, _, h1, h2⟩ := C_get h 0 k hk
 have h1 : cs = [.int .i64 (l.getD k 0)] := h1
 have e : l.getD k 0 = l[k] := by simp [List.getD_eq_getElem?_getD, hk]
 rw [e] at h1
 refine ⟨ad, rfl, cell_below hb ?_⟩
 simpa [show int.sz = 1 from rfl] using h2 0 (.int .i64 l[k]) (by rw [h1]; rfl)
theorem C_str_at {w W : World} {A : Option Addr} {l : List ByteArray} (h : str.C w A l) (hb : Below w.heap.size w W) (k : Nat) (hk : k < l.length) : ∃ ad, A = some ad ∧ W.cell? (ad.add k) = some (.string l[k]) ∧ l[k].size ≤ 9223372036854775807 := by
 obtain ⟨ad, cs, rfl, _, h1, h2⟩ := C_get h ByteArray.empty k hk
 have h1 : cs = [.string (l.getD k ByteArray.empty)] ∧ (l.getD k ByteArray.empty).size ≤ 9223372036854775807 := h1
 have e : l.getD k ByteArray.empty = l[k] := by simp [List.getD_eq_getElem?_getD, hk]
 rw [e] at h1
 refine ⟨ad, rfl, cell_below hb ?_, h1.2⟩
 simpa [show str.sz = 1 from rfl] using h2 0 (.string l[k]) (by rw [h1.1]; rfl)
end Ty
open Ty
def tJ : Nat → Ty J
 | 0 => bot 5
 | m + 1 => iso (pr int (pr int (pr str (pr (sl 43 (tJ m)) (sl 9 str))))) (fun j => (j.kind, j.n, j.s, j.list, j.names))
theorem tJ_sz : ∀ m, (tJ m).sz = 5
 | 0 => rfl
 | _ + 1 => rfl
theorem tJ_K {m : Nat} {w : World} {j : J} {cs : List Value} : (tJ (m + 1)).K w j cs ↔ ∃ A c A2 c2, cs = [.int .i64 j.kind, .int .i64 j.n, .string j.s, .slice A j.list.length c, .slice A2 j.names.length c2] ∧ j.s.size ≤ 9223372036854775807 ∧ (j.list.length ≤ c ∧ (tJ m).C w A j.list) ∧ j.names.length ≤ c2 ∧ str.C w A2 j.names := by
 simp only [tJ, iso_K]
 simp only [pr_int_K, pr_str_K]
 simp only [pr_K, sl_K]
 constructor
 ·rintro ⟨_, rfl, _, rfl, _, rfl, hs, _, _, rfl, ⟨A, c, rfl, h⟩, A2, c2, rfl, h2⟩; exact ⟨A, c, A2, c2, rfl, hs, h, h2⟩
 ·rintro ⟨A, c, A2, c2, rfl, hs, h, h2⟩; exact ⟨_, rfl, _, rfl, _, rfl, hs, _, _, rfl, ⟨A, c, rfl, h⟩, A2, c2, rfl, h2⟩
theorem C_J_at {m : Nat} {w W : World} {A : Option Addr} {l : List J} (h : (tJ (m + 1)).C w A l) (hb : Below w.heap.size w W) (k : Nat) (hk : k < l.length) : ∃ ad A1 c1 A2 c2, A = some ad ∧ W.cell? (ad.add (k * 5)) = some (.int .i64 l[k].kind) ∧ W.cell? ⟨(ad.add (k * 5)).block, (ad.add (k * 5)).off + 1, none⟩ = some (.int .i64 l[k].n) ∧
  W.cell? ⟨(ad.add (k * 5)).block, (ad.add (k * 5)).off + 2, none⟩ = some (.string l[k].s) ∧ W.cell? ⟨(ad.add (k * 5)).block, (ad.add (k * 5)).off + 3, none⟩ = some (.slice A1 l[k].list.length c1) ∧ W.cell? ⟨(ad.add (k * 5)).block, (ad.add (k * 5)).off + 4, none⟩ = some (.slice A2 l[k].names.length c2) ∧
  l[k].s.size ≤ 9223372036854775807 ∧ (l[k].list.length ≤ c1 ∧ (tJ m).C W A1 l[k].list) ∧ l[k].names.length ≤ c2 ∧ str.C W A2 l[k].names := by
 obtain ⟨ad, cs, rfl, hK, h0, h1⟩ := C_at h hb k hk
 obtain ⟨A1, c1, A2, c2, rfl, hs, h2, h3⟩ := tJ_K.1 hK
 exact ⟨ad, A1, c1, A2, c2, rfl, h0 _ rfl, h1 0 _ rfl, h1 1 _ rfl, h1 2 _ rfl, h1 3 _ rfl, hs, h2, h3⟩
theorem tJ_O {m : Nat} {w : World} {S : Nat → Prop} {j : J} {cs : List Value} : (tJ (m + 1)).O w S j cs ↔ ∃ v v2, ∃ T0 T1 : Nat → Prop, cs = [.int .i64 j.kind, .int .i64 j.n, .string j.s, v, v2] ∧ j.s.size ≤ 9223372036854775807 ∧ (tJ m).R 43 w T0 v j.list ∧ str.R 9 w T1 v2 j.names ∧ (∀ k, T0 k → S k) ∧ (∀ k, T1 k → S k) ∧ (∀ k, T0 k → ¬ T1 k) := by
 simp only [tJ, iso_O]
 simp only [pr_int_O, pr_str_O]
 simp only [pr_O, sl_O]
 constructor
 ·rintro ⟨_, rfl, _, rfl, _, rfl, hs, _, _, T0, T1, rfl, ⟨v, rfl, h⟩, ⟨v2, rfl, h2⟩, h3⟩; exact ⟨v, v2, T0, T1, rfl, hs, h, h2, h3⟩
 ·rintro ⟨v, v2, T0, T1, rfl, hs, h, h2, h3⟩; exact ⟨_, rfl, _, rfl, _, rfl, hs, _, _, T0, T1, rfl, ⟨v, rfl, h⟩, ⟨v2, rfl, h2⟩, h3⟩
theorem tJ_le1 : ∀ m, Le (tJ m) (tJ (m + 1))
 | 0 => ⟨rfl, fun _ _ _ h => h.elim, fun _ _ _ _ h => h.elim⟩
 | m + 1 => ((Le.refl int).pr ((Le.refl int).pr ((Le.refl str).pr (((tJ_le1 m).sl _).pr (Le.refl _))))).iso _
theorem tJ_le {m k : Nat} (h : m ≤ k) : Le (tJ m) (tJ k) := by
 obtain ⟨i, rfl⟩ := Nat.exists_eq_add_of_le h
 clear h
 induction i with
 | zero => exact Le.refl _
 | succ i ih => exact ⟨ih.sz.trans (tJ_le1 _).sz, fun w x cs h => (tJ_le1 _).K _ _ _ (ih.K _ _ _ h), fun w S x cs h => (tJ_le1 _).O _ _ _ _ (ih.O _ _ _ _ h)⟩
def tOp (m : Nat) : Ty JOp := iso (pr int (pr (sl 9 str) (tJ m))) (fun o => (o.kind, o.way, o.value))
theorem tOp_sz (m : Nat) : (tOp m).sz = 7 := by show 1 + (1 + (tJ m).sz) = 7; rw [tJ_sz]
theorem tOp_K {m : Nat} {w : World} {o : JOp} {cs : List Value} : (tOp m).K w o cs ↔ ∃ A c c1, cs = .int .i64 o.kind :: .slice A o.way.length c :: c1 ∧ (o.way.length ≤ c ∧ str.C w A o.way) ∧ (tJ m).K w o.value c1 := by
 simp only [tOp, iso_K]
 simp only [pr_int_K, pr_str_K]
 simp only [pr_K, sl_K]
 constructor
 ·rintro ⟨_, rfl, _, c1, rfl, ⟨A, c, rfl, h⟩, h2⟩; exact ⟨A, c, c1, rfl, h, h2⟩
 ·rintro ⟨A, c, c1, rfl, h, h2⟩; exact ⟨_, rfl, _, c1, rfl, ⟨A, c, rfl, h⟩, h2⟩
theorem tOp_O {m : Nat} {w : World} {S : Nat → Prop} {o : JOp} {cs : List Value} : (tOp m).O w S o cs ↔ ∃ v c1, ∃ T0 T1 : Nat → Prop, cs = .int .i64 o.kind :: v :: c1 ∧ str.R 9 w T0 v o.way ∧ (tJ m).O w T1 o.value c1 ∧ (∀ k, T0 k → S k) ∧ (∀ k, T1 k → S k) ∧ (∀ k, T0 k → ¬ T1 k) := by
 simp only [tOp, iso_O]
 simp only [pr_int_O, pr_str_O]
 simp only [pr_O, sl_O]
 constructor
 ·rintro ⟨_, rfl, _, c1, T0, T1, rfl, ⟨v, rfl, h⟩, h2⟩; exact ⟨v, c1, T0, T1, rfl, h, h2⟩
 ·rintro ⟨v, c1, T0, T1, rfl, h, h2⟩; exact ⟨_, rfl, _, c1, T0, T1, rfl, ⟨v, rfl, h⟩, h2⟩
theorem tOp_le {m k : Nat} (h : m ≤ k) : Le (tOp m) (tOp k) := ((Le.refl int).pr ((Le.refl _).pr (tJ_le h))).iso _
end Go.Proofs.YtegcecnjmimbiaaDoor.X
namespace Go.Proofs.YtegcecnjmimbiaaDoor.X
open Go.RowKit Go.Sort
set_option linter.unusedVariables false
set_option linter.unusedSimpArgs false
open Ty
theorem info_int : (Tryd.prog.info? 3).map (fun i => (i.zero, i.size, i.bytes)) = some (some (.int .i64 0), 1, 8) := by kernel_rfl
theorem info_str : (Tryd.prog.info? 9).map (fun i => (i.zero, i.size, i.bytes)) = some (some (.string ByteArray.empty), 1, 16) := by kernel_rfl
theorem info_JsonS : (Tryd.prog.info? 43).map (fun i => (i.zero, i.size, i.bytes)) = some (some (.agg #[.int .i64 0, .int .i64 0, .string ByteArray.empty, .slice none 0 0, .slice none 0 0]), 5, 80) := by kernel_rfl
theorem info_OpS : (Tryd.prog.info? 53).map (fun i => (i.zero, i.size, i.bytes)) = some (some (.agg #[.int .i64 0, .slice none 0 0, .int .i64 0, .int .i64 0, .string ByteArray.empty, .slice none 0 0, .slice none 0 0]), 7, 112) := by kernel_rfl
def inB (n lo hi : Int) : Bool := decide (lo ≤ n) && decide (n ≤ hi)
theorem inB_iff {n lo hi : Int} : inB n lo hi = true ↔ lo ≤ n ∧ n ≤ hi := by simp [inB]
theorem impl_within (n lo hi : Int) (w : World) : Calls Tryd.prog 64 #[.int .i64 n, .int .i64 lo, .int .i64 hi] w fun e w' => e = .returned (.bool (inB n lo hi)) ∧ w = w' := by
 go_enter Tryd.func64, Tryd.ntmps64
 go_wp2
 all_goals (go_ret; exact ⟨by simp [inB, *] <;> omega, rfl⟩)
theorem spec_l1In (n lo hi : Int) (w : World) : Calls Tryd.prog 58 #[.int .i64 n, .int .i64 lo, .int .i64 hi] w fun e w' => e = .returned (.bool (inB n lo hi)) ∧ w = w' := by
 go_enter Tryd.func58, Tryd.ntmps58
 go_wp2
 all_goals (go_ret; exact ⟨by simp [inB, *] <;> omega, rfl⟩)
theorem impl_isNum (n : Int) (w : World) : Calls Tryd.prog 65 #[.int .i64 n] w fun e w' => e = .returned (.bool (inB n (-1000000000) 1000000000)) ∧ w = w' := by
 go_enter Tryd.func65, Tryd.ntmps65
 go_wp2_with (go_at_call 64; refine (impl_within _ _ _ _).mono ?_; rintro e w' ⟨rfl, rfl⟩)
 go_ret; exact ⟨rfl, rfl⟩
def szR (left : Int) (b : Nat) : Int := if (b : Int) ≤ left then left - b else -1
theorem szR_lt {left : Int} {b : Nat} : szR left b < 0 ↔ ¬ ((b : Int) ≤ left) := by unfold szR; split <;> omega
theorem szR_le {left : Int} {b : Nat} (h : 0 ≤ szR left b) (hl : left ≤ 1048576) : b ≤ 1048576 ∧ 0 ≤ szR left b ∧ szR left b ≤ 1048576 ∧ (b : Int) ≤ left ∧ szR left b = left - b := by
 have h' : (b : Int) ≤ left := by
  unfold szR at h
  split at h
  ·assumption
  ·omega
 unfold szR
 rw [if_pos h']
 omega
theorem szR_add {left : Int} {a b : Nat} (h : 0 ≤ szR left a) : szR (szR left a) b = szR left (a + b) := by
 have h' : (a : Int) ≤ left := by
  unfold szR at h
  split at h
  ·assumption
  ·omega
 unfold szR
 rw [if_pos h']
 split <;> split <;> omega
theorem szR_neg {left : Int} {a b : Nat} (h : szR left a < 0) : szR left (a + b) = -1 := by
 rw [szR_lt] at h
 unfold szR
 rw [if_neg (by omega)]
set_option maxRecDepth 100000 in
theorem laws_toIntS (A : Option Addr) (c : Nat) (l : List Int) (w : World) (hr : int.C w A l) (hl : l.length ≤ 1048576) :
  Calls Tryd.prog 7 #[.slice A l.length c] w fun e w' => ∃ v, e = .returned v ∧ int.R 3 w' (fun k => w.heap.size ≤ k) v l ∧ Below w.heap.size w w' := by
 have hmk := make_eq (P := Tryd.prog) 23 3 (.int .i64 0) 1 8 Tryd.underlying23 info_int l.length (by omega) (by omega)
 go_enter Tryd.func7, Tryd.ntmps7
 go_wp2
 have hR := R_made (d := int) (e := 3) (W := w) (z := .int .i64 0) (S := fun k => w.heap.size ≤ k) 0 l.length (Nat.le_refl 1) (by omega) rfl (fun _ _ _ => rfl) (Nat.le_refl _)
 simp only [show int.sz = 1 from rfl, Nat.mul_one, show (Value.int .i64 0).cells = #[.int .i64 0] from rfl] at hR
 have HR := Hd.mk hR; clear hR hmk
 have HC := Hd.mk hr; clear hr
 go_loopw [4] (fun i wr => ∃ k : Nat, k ≤ l.length ∧ i = .int .i64 k ∧ Hd (int.R 3 wr (fun k => w.heap.size ≤ k) (.slice (some ⟨w.heap.size, 0, none⟩) l.length l.length) (l.take k ++ List.replicate (l.length - k) 0)) ∧ Hd (Below w.heap.size w wr)) (fun i _ => l.length - (intOf i).toNat)
 case atStart => exact ⟨0, Nat.zero_le _, rfl, ⟨by simpa using HR.out⟩, ⟨below_alloc (Below.refl _ _) _⟩⟩
 case round =>
  obtain ⟨k, hk, rfl, HK, HB⟩ := hrel
  by_cases hlt : k < l.length
  ·obtain ⟨ad, rfl, hx⟩ := C_int_at HC.out HB.out k hlt
   obtain ⟨hgl, hc0, hf0, hst⟩ := R_store1 (i := k) (fun _ => rfl) HK.out (x := 0) (by rw [List.getElem?_append_right (by simp <;> omega)]; simp [List.getElem?_replicate, Nat.min_eq_left hk]; omega)
   have HST := Hd.mk hst; clear hst
   go_wp2
   go_roundw
   case rel =>
    refine ⟨k + 1, by omega, by go_num, ⟨?_⟩, ⟨?_⟩⟩
    ·have := HST.out l[k]
     rw [set_rep l 0 k hlt] at this
     exact this
    ·exact ((Fr.of_below HB.out (fun k => w.heap.size ≤ k)).setCell _ (fun _ => Nat.le_refl _) _).below (fun k hk => hk)
   case measure => simp [intOf]; omega
  ·obtain rfl : k = l.length := by omega
   go_wp2
   go_ret
   have := HK.out
   exact ⟨_, rfl, by simpa using this, HB.out⟩
noncomputable def eqv {α : Type} (a b : α) : Bool := @decide (a = b) (Classical.propDecidable _)
theorem eqv_iff {α : Type} {a b : α} : eqv a b = true ↔ a = b := by simp [eqv]
theorem eqv_self {α : Type} (a : α) : eqv a a = true := eqv_iff.2 rfl
theorem eqv_no {α : Type} {a b : α} (h : a ≠ b) : eqv a b = false := by simp [eqv, h]
theorem eqv_len {α : Type} {a b : List α} (h : a.length ≠ b.length) : eqv a b = false := eqv_no (by rintro rfl; exact h rfl)
theorem eqv_at {α : Type} {a b : List α} (k : Nat) (h1 : k < a.length) (h2 : k < b.length) (h : a[k] ≠ b[k]) : eqv a b = false := eqv_no (by rintro rfl; exact h rfl)
theorem calls_gen {P : Program} {f : FuncId} {args : Array Value} {w : World} {Q : Ending → World → Prop} (h : ∀ W, W = w → Calls P f args W Q) : Calls P f args w Q := h w rfl
set_option maxRecDepth 100000 in
theorem laws_eqIntS (A A2 : Option Addr) (c c2 : Nat) (l l2 : List Int) (w : World) (hr : int.C w A l) (hr2 : int.C w A2 l2) :
  Calls Tryd.prog 11 #[.slice A l.length c, .slice A2 l2.length c2] w fun e w' => e = .returned (.bool (eqv l l2)) ∧ Below w.heap.size w w' := by
 have hm := hr.1
 have hm2 := hr2.1
 go_enter Tryd.func11, Tryd.ntmps11
 by_cases hlen : l.length = l2.length
 ·have hd : ((l.length : Int) != l2.length) = false := by simp [hlen]
  have HL := Hd.mk hlen
  have HC := Hd.mk hr
  have HC2 := Hd.mk hr2
  clear hr hr2 hlen
  go_wp2
  go_loopw [5] (fun i wr => ∃ k : Nat, k ≤ l.length ∧ i = .int .i64 k ∧ Hd (l.take k = l2.take k) ∧ Hd (Below w.heap.size w wr)) (fun i _ => l.length - (intOf i).toNat)
  case atStart => exact ⟨0, Nat.zero_le _, rfl, ⟨rfl⟩, ⟨Below.refl _ _⟩⟩
  case round =>
   obtain ⟨k, hk, rfl, HK, HB⟩ := hrel
   by_cases hlt : k < l.length
   ·obtain ⟨ad, rfl, hx⟩ := C_int_at HC.out HB.out k hlt
    have hlt2 : k < l2.length := by have := HL.out; omega
    obtain ⟨ad2, rfl, hx2⟩ := C_int_at HC2.out HB.out k hlt2
    cases hb : (l[k] != l2[k])
    ·go_wp2
     go_quiet (fail)
     go_wp2
     go_roundw
     case rel => 
      refine ⟨k + 1, by omega, by go_num, ⟨?_⟩, ⟨?_⟩⟩
      ·have hb : l[k] = l2[k] := by simpa using hb
       rw [List.take_succ_eq_append_getElem hlt, List.take_succ_eq_append_getElem hlt2, HK.out, hb]
      ·exact below_drewN HB.out _
     case measure => simp [intOf]; omega
    ·have HN := Hd.mk (eqv_at k hlt hlt2 (by simpa using hb))
     go_wp2
     go_quiet (fail)
     go_wp2
     go_ret
     exact ⟨by rw [HN.out]; rfl, below_drewN HB.out _⟩
   ·obtain rfl : k = l.length := by omega
    go_wp2
    go_ret
    have h1 := HK.out
    rw [List.take_length, HL.out, List.take_length] at h1
    exact ⟨by rw [eqv_iff.2 h1]; rfl, HB.out⟩
 ·have hd : ((l.length : Int) != l2.length) = true := by simp; omega
  have HN := Hd.mk (eqv_len hlen)
  go_wp2
  go_ret
  exact ⟨by rw [HN.out]; rfl, Below.refl _ _⟩
def schemaOk (cols : List Int) : Bool := cols.all (fun n => inB n 1 4) && inB cols.length 1 3
theorem all_take {α : Type} (p : α → Bool) (l : List α) (k : Nat) (hk : k < l.length) (h : (l.take k).all p = true) : (l.take (k + 1)).all p = p l[k] := by
 rw [List.take_succ_eq_append_getElem hk, List.all_append, h]
 simp
theorem all_false {α : Type} (p : α → Bool) (l : List α) (k : Nat) (h : (l.take k).all p = false) : l.all p = false := by
 rw [← List.take_append_drop k l, List.all_append, h]; rfl
end Go.Proofs.YtegcecnjmimbiaaDoor.X
namespace Go.Proofs.YtegcecnjmimbiaaDoor.X
open Go.RowKit Go.Sort Go.Proofs.YtegcecnjmimbiaaDoorW.PrintLast
set_option linter.unusedVariables false
set_option linter.unusedSimpArgs false

def readsB : Op → Bool
 | .move _ | .assign _ | .pick .. | .load .. | .binOp .. | .unOp .. | .fieldAddr .. | .field .. | .indexAddr .. | .index .. | .extract .. | .slice .. | .convert .. => true
 | .call c => match c.callee with
  | .builtin .len => true
  | _ => false
 | _ => false
theorem andThen_value {s : Sem Value} {P : Program} {w w' : World} {n : Next} (h : ((do pure (Next.value (← s)) : Sem Next)).run P w = .ok n w') : ∃ u, n = .value u := by
 simp only [Sem.run_bind, Sem.run_pure] at h
 cases hs : s.run P w with
 | ok x w2 => rw [hs] at h; simp only [Result.andThen_ok] at h; injection h with h1 h2; exact ⟨x, h1.symm⟩
 | halt x w2 => rw [hs] at h; simp [Result.andThen] at h
theorem reads_value {ρ : Operand → Value} {o : Oper} {P : Program} {w w' : World} {n : Next} (hr : readsB o.op = true) (h : (execOp ρ o).run P w = .ok n w') : ∃ u, n = .value u := by
 unfold execOp at h
 unfold readsB at hr
 split at hr <;> rename_i he <;> simp only [he] at h <;> try (first | exact andThen_value h | cases hr)
 ·simp only [Sem.run_pure] at h; injection h with h1 _; exact ⟨_, h1.symm⟩
 ·simp only [Sem.run_pure] at h; injection h with h1 _; exact ⟨_, h1.symm⟩
 ·simp only [Sem.run_bind, Sem.run_pure] at h
  generalize Sem.run P (asBool _) w = r at h
  cases r with
  | ok x w2 => simp only [Result.andThen_ok] at h; cases x <;> (simp at h; exact ⟨_, h.1.symm⟩)
  | halt x w2 => simp [Result.andThen] at h
 ·rename_i c
  split at hr
  ·rename_i hc
   simp only [resolve, hc, Sem.run_bind, Sem.run_pure, Result.andThen_ok, invoke, builtin] at h
   generalize Sem.run P (Builtin.len_ _ _ _) w = r at h
   cases r with
   | ok x w2 => simp only [Result.andThen_ok] at h; injection h with h1 _; exact ⟨_, h1.symm⟩
   | halt x w2 => simp [Result.andThen] at h
  ·cases hr
section
variable {P : Program} {ops : Array Oper} {Q : Exit → Act → World → Prop} {C : World → Prop} {ds : List Nat}
def mixB (ops : Array Oper) (ds : List Nat) : Array Bool → List (Bool × Nat) → Bool
 | l, [] => Region.ready .any ops l == []
 | l, (true, i) :: r => (ops[i]?.map (fun o => readsB o.op && o.dst.isSome)).getD false && Region.noSelect ops && Region.free .any ops l i && (Region.ready .any ops l).contains i && Region.closedB .any ops l && Region.lastB .any ops l ds i && mixB ops ds (l.setIfInBounds i true) r
 | l, (false, i) :: r => (Region.ready .any ops l == [i]) && !(ds.contains i) && mixB ops ds (l.setIfInBounds i true) r
def wpMix (P : Program) (ops : Array Oper) (C : World → Prop) (Q : Exit → Act → World → Prop) : List (Bool × Nat) → Act → World → Prop
 | [], a, w => Q .normal a w
 | (true, i) :: r, a, w => ∀ o, ops[i]? = some o → wpQuiet P ops C (fun a' => wpMix P ops C Q r a' w) [o] a
 | (false, i) :: r, a, w => ∀ o, ops[i]? = some o → if Region.wanted o (yielded ops a.tmps) then Oper.wp P o a w (fun a' w' => C w' ∧ wpMix P ops C Q r a' w') Q else wpMix P ops C Q r (a.put o.dst undef) w
theorem mix_last (hQ : ∀ c n a v w, Q (.panic c) (a.put (some n) v) w → Q (.panic c) a w) : ∀ (r : List (Bool × Nat)) (l : Array Bool) (a : Act) (w : World), mixB ops ds l r = true → C w → wpMix P ops C Q r a w → wpAnyLast P .any ops Q C ds r.length l a w
 | [], l, a, w, hc, hw, h => by
  simp only [mixB, beq_iff_eq] at hc
  exact ⟨hc, h⟩
 | (true, i) :: r, l, a, w, hc, hw, h => by
  simp only [mixB, Bool.and_eq_true] at hc
  obtain ⟨⟨⟨⟨⟨⟨h0, h1⟩, h2⟩, h3⟩, h4⟩, h5⟩, h6⟩ := hc
  cases ho : ops[i]? with
  | none => rw [ho] at h0; cases h0
  | some o =>
   rw [ho] at h0
   simp only [Option.map_some, Option.getD_some, Bool.and_eq_true] at h0
   obtain ⟨hr, hdst⟩ := h0
   obtain ⟨nd, hnd⟩ := Option.isSome_iff_exists.1 hdst
   have hQ' : ∀ v c a w, Q (.panic c) (a.put o.dst v) w → Q (.panic c) a w := fun v c a w h => hQ c nd a v w (by rw [hnd] at h; exact h)
   have h7 := h o ho
   simp only [wpQuiet] at h7
   split at h7
   ·rename_i hw2
    obtain ⟨v, hv, hk⟩ := h7
    refine wpAnyLast_take ho h1 h2 h3 h4 h5 (hQ' _) (.inl ⟨hw2, fun w' hw' => ?_⟩) hw (mix_last hQ r _ _ _ h6 hw hk)
    have h8 := hv w' hw'
    unfold Oper.quietAt at h8
    cases hrun : (execOp a.eval o).run P w' with
    | ok n w2 =>
     obtain ⟨u, rfl⟩ := reads_value hr hrun
     rw [hrun] at h8
     obtain ⟨e1, e2⟩ := h8
     rw [e1, e2]
    | halt x w2 => rw [hrun] at h8; exact h8.elim
   ·rename_i hw2
    exact wpAnyLast_take ho h1 h2 h3 h4 h5 (hQ' _) (.inr ⟨by simpa using hw2, rfl⟩) hw (mix_last hQ r _ _ _ h6 hw h7)
 | (false, i) :: r, l, a, w, hc, hw, h => by
  simp only [mixB, Bool.and_eq_true, beq_iff_eq, Bool.not_eq_true'] at hc
  obtain ⟨⟨h1, h2⟩, h3⟩ := hc
  cases ho : ops[i]? with
  | none =>
   have : i ∈ Region.ready .any ops l := by rw [h1]; simp
   obtain ⟨_, oj, hoj, _⟩ := mem_ready.1 this
   rw [ho] at hoj; cases hoj
  | some o =>
   refine wpAnyLast_ready h1 (by simp) (AllReadyL.cons ho (by simpa using h2) (fun K hK => ?_) AllReadyL.nil)
   have h7 := h o ho
   split at h7
   ·rename_i hw2
    rw [if_pos hw2]
    refine Oper.wp_mono ?_ h7
    intro a' w' h8
    exact hK _ _ h8.1 (fun _ => mix_last hQ r _ _ _ h3 h8.1 h8.2)
   ·rename_i hw2
    rw [if_neg hw2]
    exact hK _ _ hw (fun _ => mix_last hQ r _ _ _ h3 hw h7)
def mixQ (next : Act → World → Prop) (Q : Exit → Act → World → Prop) : Exit → Act → World → Prop
 | .normal, a, w => next a w
 | .panic c, a, w => Q (.panic c) a w
 | _, _, _ => False
theorem wp_of_mixQ {o : Oper} {a : Act} {w : World} {K : Act → World → Prop} (h : o.wp P a w K (mixQ K Q)) : o.wp P a w K Q := by
 unfold Oper.wp at h ⊢
 generalize (execOp a.eval o).run P w = r at h ⊢
 cases r with
 | ok n w' =>
  cases n with
  | enter f args =>
   simp only [Oper.upon_enter] at h ⊢
   refine h.mono fun e w'' he => ?_
   cases e with
   | returned v => exact he
   | panicked c => exact he
   | outgrown => obtain ⟨a', w2, h2⟩ := he; exact h2.elim
  | _ => exact h
 | halt x w' =>
  cases x with
  | panic v => exact h
  | _ => exact h
theorem mix_nil {a : Act} {w : World} (h : Q .normal a w) : wpMix P ops C Q [] a w := h
theorem mix_q {i : Nat} {o : Oper} {r : List (Bool × Nat)} {a : Act} {w : World} (hi : ops.toList[i]? = some o) (h : wpQuiet P ops C (fun a' => wpMix P ops C Q r a' w) [o] a) : wpMix P ops C Q ((true, i) :: r) a w := by
 rw [Array.getElem?_toList] at hi
 intro o' ho
 rw [hi] at ho; injection ho with ho; subst ho
 exact h
theorem mix_b {i : Nat} {o : Oper} {r : List (Bool × Nat)} {a : Act} {w : World} (hi : ops.toList[i]? = some o) (h : wpList P ops (mixQ (fun a' w' => C w' ∧ wpMix P ops C Q r a' w') Q) [o] a w) (hs : Region.wanted o (yielded ops a.tmps) = true) : wpMix P ops C Q ((false, i) :: r) a w := by
 rw [Array.getElem?_toList] at hi
 intro o' ho
 rw [hi] at ho; injection ho with ho; subst ho
 rw [if_pos hs]
 simp only [wpList, hs, if_true] at h
 rcases h with h | h
 ·exact wp_of_mixQ (Oper.wp_mono (fun a' w' h' => h') h)
 ·obtain ⟨a', w', h'⟩ := h.2
  exact h'.elim
theorem mix_s {i : Nat} {o : Oper} {r : List (Bool × Nat)} {a : Act} {w : World} (hi : ops.toList[i]? = some o) (hs : Region.wanted o (yielded ops a.tmps) = false) (h : wpMix P ops C Q r (a.put o.dst undef) w) : wpMix P ops C Q ((false, i) :: r) a w := by
 rw [Array.getElem?_toList] at hi
 intro o' ho
 rw [hi] at ho; injection ho with ho; subst ho
 rw [if_neg (by rw [hs]; simp)]
 exact h
theorem mix_z {i : Nat} {o : Oper} {r : List (Bool × Nat)} {a : Act} {w : World} (hi : ops.toList[i]? = some o) (hs : Region.wanted o (yielded ops a.tmps) = false) (h : wpQuiet P ops C (fun a' => wpMix P ops C Q r a' w) [o] a) : wpMix P ops C Q ((false, i) :: r) a w := by
 refine mix_s hi hs ?_
 simp only [wpQuiet] at h
 rw [if_neg (by rw [hs]; simp)] at h
 exact h
def cls (w : World) : World → Prop := fun w' => ∃ p : Regrown, w' = grow (redrawn w p.d) p.os
theorem cls_below {w w' : World} (h : Below w.heap.size w w') : cls w w' := regrown_of_below h
theorem cls_drew (w : World) : cls w w.drew := cls_below (below_drew (Below.refl _ _))
theorem region_mix {id : Nat} {a : Act} {w : World} (order : List (Bool × Nat)) (hm : P.follows .mixedOrders = true) (hc : (mixB ops [] (Array.replicate ops.size false) order && order.length == ops.size) = true)
  (hQ : ∀ c n a v w, Q (.panic c) (a.put (some n) v) w → Q (.panic c) a w) (h : wpMix P ops (fun w' => ∃ p : Regrown, w' = grow (redrawn w p.d) p.os) Q order a w.drew) : (Code.region id ops true).wp P Q a w := by
 simp only [Bool.and_eq_true, beq_iff_eq] at hc
 refine wp_region_last_drew (S := cls w) (ds := []) hm (cls_drew w) (fun hS => ?_)
 have := mix_last hQ order _ a w.drew hc.1 (cls_drew w) h
 rwa [hc.2] at this
end
end Go.Proofs.YtegcecnjmimbiaaDoor.X
namespace Go.Proofs.YtegcecnjmimbiaaDoor.X
open Go.RowKit
set_option linter.unusedVariables false
set_option linter.unusedSimpArgs false
theorem Blk.new1 (w : World) (o : Obj) (cs : Array Value) (t : TypeId) : Blk ((w.alloc o).alloc (.cells cs t)) (w.heap.size + 1) cs t := by simpa using Blk.new (w.alloc o) cs t
theorem Blk.new2 (w : World) (o o2 : Obj) (cs : Array Value) (t : TypeId) : Blk (((w.alloc o).alloc o2).alloc (.cells cs t)) (w.heap.size + 1 + 1) cs t := by simpa using Blk.new ((w.alloc o).alloc o2) cs t
def setAll (w : World) (g i : Nat) : List Value → World
 | [] => w
 | u :: us => setAll (w.setCell ⟨g, i, none⟩ u) g (i + 1) us
theorem setAll_fr {S : Nat → Prop} {w0 : World} {g : Nat} (hg : g < w0.heap.size → S g) : ∀ (us : List Value) (i : Nat) (w : World), Fr w0 w S → Fr w0 (setAll w g i us) S
 | [], _, _, h => h
 | u :: us, i, w, h => setAll_fr hg us (i + 1) _ (h.setCell _ hg u)
theorem setAll_heap {g : Nat} : ∀ (us : List Value) (i : Nat) (w : World) (k : Nat), k ≠ g → (setAll w g i us).heap[k]? = w.heap[k]?
 | [], _, _, _, _ => rfl
 | u :: us, i, w, k, h => (setAll_heap us (i + 1) _ k h).trans (Below.heap_setCell w _ u k h)
theorem setAll_size {g : Nat} : ∀ (us : List Value) (i : Nat) (w : World), (setAll w g i us).heap.size = w.heap.size
 | [], _, _ => rfl
 | u :: us, i, w => (setAll_size us (i + 1) _).trans (by simp)
namespace Ty
variable {α : Type} {d : Ty α} {e : TypeId} {w w1 : World} {S S' Si T : Nat → Prop} {v : Value} {xs : List α} {i : Nat} {cs : List Value}
theorem H_all {g n cap : Nat} : ∀ (us pre suf : List Value) (w : World), us.length = suf.length → pre.length + suf.length = d.sz → (∀ u ∈ us, u.cells = #[u]) → d.H e w S (.slice (some ⟨g, 0, none⟩) n cap) xs i Si (pre ++ suf) → d.H e (setAll w g (i * d.sz + pre.length) us) S (.slice (some ⟨g, 0, none⟩) n cap) xs i Si (pre ++ us)
 | [], pre, suf, w, hl, hs, h1, h => by
  obtain rfl : suf = [] := List.eq_nil_of_length_eq_zero hl.symm
  exact h
 | u :: us, pre, [], w, hl, hs, h1, h => by simp at hl
 | u :: us, pre, v :: suf, w, hl, hs, h1, h => by
  have h2 := H_store h pre.length (by simp at hs; omega) u (h1 u (by simp))
  have he : (pre ++ v :: suf).set pre.length u = (pre ++ [u]) ++ suf := by
   rw [List.set_append_right _ _ (Nat.le_refl _), Nat.sub_self]
   simp
  rw [he] at h2
  have h3 := H_all us (pre ++ [u]) suf _ (by simpa using hl) (by simp at hs ⊢; omega) (fun x hx => h1 x (by simp [hx])) h2
  rw [List.append_assoc] at h3
  have hp : i * d.sz + (pre ++ [u]).length = i * d.sz + pre.length + 1 := by simp; omega
  rw [hp] at h3
  exact h3
theorem R_put {g n cap : Nat} (h : d.R e w S (.slice (some ⟨g, 0, none⟩) n cap) xs) (hi : i < xs.length) (hsz : 0 < d.sz) {x' : α} {cs' : List Value} (hO : d.O w T x' cs') (hT : ∀ k, T k → k < w.heap.size → ¬ S k) (hS : ∀ k, S k → S' k) (hT' : ∀ k, T k → S' k) :
  g < w.heap.size ∧ (∃ cur, d.K w xs[i] cur ∧ ∀ j u, cur[j]? = some u → w.cell? ⟨g, i * d.sz + j, none⟩ = some u) ∧ (∀ j, w.frozen? ⟨g, j, none⟩ = false) ∧ S g ∧ d.R e (setAll w g (i * d.sz) cs') S' (.slice (some ⟨g, 0, none⟩) n cap) (xs.set i x') := by
 obtain ⟨Si, cs, hH, hOi⟩ := R_H h (List.getElem?_eq_getElem hi)
 obtain ⟨g', cap', he, _, _, hg, hgl, _, hcell, hfz⟩ := H_cells hH hsz
 injection he with he _ _; injection he with he; injection he with he _ _; subst he
 refine ⟨hgl, ⟨cs, d.O_K hOi, hcell⟩, hfz, hg, ?_⟩
 have h2 := H_all cs' [] cs w (by rw [d.K_len (d.O_K hO), d.K_len (d.O_K hOi)]) (by simp [d.K_len (d.O_K hOi)]) (fun u hu => by
  have := d.K_one (d.O_K hO) u hu
  cases u <;> first | rfl | (exfalso; simp [Value.oneCell'] at this)) hH
 simp only [List.length_nil, Nat.add_zero, List.nil_append] at h2
 refine H_back h2 (T := fun k => T k ∧ k < w.heap.size) (d.O_move (fun k hk => setAll_heap _ _ _ _ (fun hk' => hT k hk.1 hk.2 (hk' ▸ hg))) (d.O_bound hO)) (fun k hk => .inr (hT k hk.1 hk.2)) hS (fun k hk => hT' k hk.1)
end Ty
end Go.Proofs.YtegcecnjmimbiaaDoor.X
namespace Go.Proofs.YtegcecnjmimbiaaDoor.X
open Go.RowKit Go.Sort
set_option linter.unusedVariables false
set_option linter.unusedSimpArgs false
open Ty
def bulkL {α : Type} (b : α → Nat) : List α → Nat
 | [] => 0
 | x :: l => b x + bulkL b l
theorem bulkL_append {α : Type} (b : α → Nat) (l m : List α) : bulkL b (l ++ m) = bulkL b l + bulkL b m := by
 induction l with
 | nil => simp [bulkL]
 | cons x l ih => simp only [List.cons_append, bulkL, ih]; omega
theorem bulkL_take {α : Type} (b : α → Nat) (l : List α) (k : Nat) (hk : k < l.length) : bulkL b (l.take (k + 1)) = bulkL b (l.take k) + b l[k] := by
 rw [List.take_succ_eq_append_getElem hk, bulkL_append]
 simp [bulkL]
theorem bulkL_take_le {α : Type} (b : α → Nat) (l : List α) (k : Nat) : bulkL b (l.take k) ≤ bulkL b l := by
 have := bulkL_append b (l.take k) (l.drop k)
 rw [List.take_append_drop] at this
 omega
theorem bulkL_mem {α : Type} (b : α → Nat) {l : List α} {x : α} (h : x ∈ l) : b x ≤ bulkL b l := by
 induction l with
 | nil => cases h
 | cons y l ih =>
  simp only [bulkL]
  rcases List.mem_cons.1 h with rfl | h
  ·omega
  ·have := ih h; omega
theorem szR_sub {left : Int} {a b : Nat} (h : 0 ≤ left - (a : Int)) : szR (left - (a : Int)) b = szR left (a + b) := by
 unfold szR
 split <;> split <;> omega
def bulkRow (r : Row) : Nat := r.cells.length
def bulkRowS (l : List Row) : Nat := l.length + bulkL bulkRow l
def bulkRowSS (l : List (List Row)) : Nat := l.length + bulkL bulkRowS l
def bulkMut (m : Mut) : Nat := bulkRow m.row
def bulkMutS (l : List Mut) : Nat := l.length + bulkL bulkMut l
def bulkChange (c : Change) : Nat := bulkRow c.old + bulkRow c.new
def bulkStore (s : Store) : Nat := s.cols.length + bulkRowSS s.tabs
theorem bodyPost_retW {P : Program} {fn : Func} {R : Ending → World → Prop} {a : Act} {w : World} {v : Value}
  (hr : (results fn a.tmps).run P w = .ok v w) (hd : a.defers = []) (hR : ∀ W, W = w → R (.returned v) W) : bodyPost P fn R .ret a w := bodyPost_ret hr hd (hR w rfl)
def markL {α : Type} (mk : Int → α → α) (cn : α → Nat) : Int → List α → List α
 | _, [] => []
 | k, x :: l => mk k x :: markL mk cn (k + cn x) l
section
variable {α : Type} {mk : Int → α → α} {cn : α → Nat}
theorem markL_length : ∀ (l : List α) (k : Int), (markL mk cn k l).length = l.length
 | [], _ => rfl
 | x :: l, k => by simp [markL, markL_length l]
theorem markL_append : ∀ (l m : List α) (k : Int), markL mk cn k (l ++ m) = markL mk cn k l ++ markL mk cn (k + bulkL cn l) m
 | [], m, k => by simp [markL, bulkL]
 | x :: l, m, k => by
  simp only [List.cons_append, markL, bulkL, markL_append l m]
  rw [show k + (cn x : Int) + (bulkL cn l : Int) = k + ((cn x + bulkL cn l : Nat) : Int) by omega]
theorem markL_at (l : List α) (k : Int) (i : Nat) (hi : i < l.length) : (markL mk cn k l)[i]'(by rw [markL_length]; exact hi) = mk (k + bulkL cn (l.take i)) l[i] := by
 have h : l = l.take i ++ (l[i] :: l.drop (i + 1)) := by rw [List.getElem_cons_drop, List.take_append_drop]
 have e : markL mk cn k l = markL mk cn k (l.take i) ++ (mk (k + bulkL cn (l.take i)) l[i] :: markL mk cn (k + bulkL cn (l.take i) + cn l[i]) (l.drop (i + 1))) := by
  conv => lhs; rw [h]
  rw [markL_append]; rfl
 have hl : (markL mk cn k (l.take i)).length = i := by rw [markL_length]; simp; omega
 simp only [e]
 rw [List.getElem_append_right (by omega)]
 simp [hl]
def midL (mk : Int → α → α) (cn : α → Nat) (k : Int) (l : List α) (i : Nat) : List α := markL mk cn k (l.take i) ++ l.drop i
theorem midL_length (l : List α) (k : Int) (i : Nat) : (midL mk cn k l i).length = l.length := by
 simp [midL, markL_length]; omega
theorem midL_at (l : List α) (k : Int) (i : Nat) (hi : i < l.length) : (midL mk cn k l i)[i]? = some l[i] := by
 have hl : (markL mk cn k (l.take i)).length = i := by rw [markL_length]; simp; omega
 rw [midL, List.getElem?_append_right (by omega), hl]
 simp [hi]
theorem midL_step (l : List α) (k : Int) (i : Nat) (hi : i < l.length) : (midL mk cn k l i).set i (mk (k + bulkL cn (l.take i)) l[i]) = midL mk cn k l (i + 1) := by
 have hl : (markL mk cn k (l.take i)).length = i := by rw [markL_length]; simp; omega
 rw [midL, List.set_append_right _ _ (by omega), hl, Nat.sub_self, midL, List.take_succ_eq_append_getElem hi, markL_append, List.append_assoc, ← List.getElem_cons_drop hi, List.set_cons_zero]
 rfl
theorem midL_end (l : List α) (k : Int) : midL mk cn k l l.length = markL mk cn k l := by simp [midL]
theorem midL_zero (l : List α) (k : Int) : midL mk cn k l 0 = l := by simp [midL, markL]
end
def mkInt (k : Int) (_ : Int) : Int := k
def one {α : Type} (_ : α) : Nat := 1
theorem bulk_one {α : Type} (l : List α) : bulkL one l = l.length := by
 induction l with
 | nil => rfl
 | cons x l ih => simp only [bulkL, ih, one, List.length_cons]; omega
set_option maxRecDepth 100000 in
theorem laws_markIntS {S : Nat → Prop} (v : Value) (l : List Int) (k : Int) (w : World) (hR : int.R 3 w S v l) (h0 : 0 ≤ k) (h1 : k + l.length ≤ 4611686018427387904) :
  Calls Tryd.prog 13 #[v, .int .i64 k] w fun e w' => e = .returned (.int .i64 (k + l.length)) ∧ int.R 3 w' S v (markL mkInt one k l) ∧ Fr w w' S := by
 obtain ⟨A, c, rfl, hc, hC⟩ := R_C hR
 have hm := hC.1
 clear hC
 have HR := Hd.mk hR; clear hR
 go_enter Tryd.func13, Tryd.ntmps13
 go_wp2_with fail
 go_loopw [1, 5] (fun v i wr => ∃ j : Nat, j ≤ l.length ∧ i = .int .i64 j ∧ v = .int .i64 (k + j) ∧ Hd (int.R 3 wr S (.slice A l.length c) (midL mkInt one k l j)) ∧ Hd (Fr w wr S)) (fun _ i _ => l.length - (intOf i).toNat)
 case atStart => exact ⟨0, Nat.zero_le _, rfl, by simp, ⟨by rw [midL_zero]; exact HR.out⟩, ⟨Fr.refl _ _⟩⟩
 case round =>
  obtain ⟨j, hj, rfl, rfl, HK, HF⟩ := hrel
  by_cases hlt : j < l.length
  ·obtain ⟨g, cap, hv, hg, hgl⟩ := R_form HK.out (by rw [midL_length]; omega)
   injection hv with hv1 hv2 hv3
   subst hv1
   subst hv3
   clear hv2
   obtain ⟨hgl, hc0, hf0, hst⟩ := R_store1 (i := j) (fun _ => rfl) HK.out (midL_at l k j hlt)
   have HST := Hd.mk (hst (k + j)); clear hst
   have hg := Hd.mk hg
   go_wp2_with fail
   go_roundw
   case rel =>
    refine ⟨j + 1, by omega, by go_num, by go_num, ⟨?_⟩, ⟨HF.out.setCell _ (fun _ => hg.out) _⟩⟩
    have := HST.out
    have e := midL_step (mk := mkInt) (cn := one) l k j hlt
    rw [bulk_one, List.length_take, Nat.min_eq_left hj] at e
    rw [show k + (j : Int) = mkInt (k + j) l[j] from rfl, e] at this
    exact this
   case measure => simp [intOf]; omega
  ·obtain rfl : j = l.length := by omega
   go_wp2_with fail
   go_ret
   exact ⟨rfl, by rw [← midL_end]; exact HK.out, HF.out⟩
theorem Blk.fr {w w1 : World} {g : Nat} {cs : Array Value} {t : TypeId} {S : Nat → Prop} (h : Blk w g cs t) (hf : Fr w w1 S) (hn : ¬ S g) : Blk w1 g cs t := (hf.block g h.lt hn).trans h
theorem Ty.H_sub {α : Type} {d : Ty α} {e : TypeId} {w : World} {S Si : Nat → Prop} {v : Value} {xs : List α} {i : Nat} {cs : List Value} (h : d.H e w S v xs i Si cs) : ∀ k, Si k → S k := by
 obtain ⟨hi, hl, inner, f, ho, hv, hc, hs, hE⟩ := h
 exact fun k hk => (hs k hk).1
theorem Ty.H_at {α : Type} {d : Ty α} {e : TypeId} {w : World} {S Si : Nat → Prop} {g n cap : Nat} {xs : List α} {i : Nat} {cs : List Value} (h : d.H e w S (.slice (some ⟨g, 0, none⟩) n cap) xs i Si cs) :
  g < w.heap.size ∧ (∀ j u, cs[j]? = some u → w.cell? ⟨g, i * d.sz + j, none⟩ = some u) ∧ ∀ j, w.frozen? ⟨g, j, none⟩ = false := by
 rcases Nat.eq_zero_or_pos d.sz with h0 | hsz
 ·obtain ⟨hi, hl, inner, f, ho, hv, hc, hs, hE⟩ := h
  obtain ⟨-, ho⟩ := ho
  rcases ho with ⟨he, _⟩ | ⟨g', cap', cur, he, _, hh, _⟩
  ·cases he
  ·injection he with he _ _; injection he with he; injection he with he _ _; subst he
   refine ⟨(Array.getElem?_eq_some_iff.1 hh).1, fun j u hu => ?_, fun j => by simp [World.frozen?, hh]⟩
   have : cs = [] := List.eq_nil_of_length_eq_zero (by rw [hl, h0])
   subst this
   simp at hu
 ·obtain ⟨g', cap', he, _, _, hg, hgl, _, hcell, hfz⟩ := H_cells h hsz
  injection he with he _ _; injection he with he; injection he with he _ _; subst he
  exact ⟨hgl, hcell, hfz⟩
def mkRow (k : Int) (r : Row) : Row := ⟨k, markL mkInt one (k + 1) r.cells⟩
def cnRow (r : Row) : Nat := 1 + r.cells.length
def mkRows (k : Int) (l : List Row) : List Row := markL mkRow cnRow k l
def cnRows (l : List Row) : Nat := bulkL cnRow l
theorem bytes_eq {a b : ByteArray} : (a.toList == b.toList) = true ↔ a = b := by
 rw [beq_iff_eq, ByteArray.toList_eq, ByteArray.toList_eq]
 exact ⟨fun h => Go.WideShapes.bytes_inj h, fun h => by rw [h]⟩
def bulkStringS (l : List ByteArray) : Nat := l.length + bulkL ByteArray.size l
def bulkJ : Nat → J → Nat
 | 0, _ => 0
 | m + 1, j => j.s.size + (j.list.length + bulkL (bulkJ m) j.list) + bulkStringS j.names
def bulkJS (m : Nat) (l : List J) : Nat := l.length + bulkL (bulkJ m) l
def bulkOp (m : Nat) (o : JOp) : Nat := bulkStringS o.way + bulkJ m o.value
def bulkOpS (m : Nat) (l : List JOp) : Nat := l.length + bulkL (bulkOp m) l
theorem ZJ : ∀ (m : Nat) (w : World) (S : Nat → Prop), (tJ (m + 1)).O w S J.null [.int .i64 0, .int .i64 0, .string ByteArray.empty, .slice none 0 0, .slice none 0 0] :=
 fun _ _ _ => tJ_O.2 ⟨_, _, fun _ => False, fun _ => False, rfl, Nat.zero_le _, R_nil, R_nil, fun _ h => h.elim, fun _ h => h.elim, fun _ h => h.elim⟩
theorem tJ_zero {m : Nat} {w : World} {A : Option Addr} {l : List J} (hr : (tJ m).C w A l) (h : 0 < l.length) (w' : World) (S : Nat → Prop) : (tJ m).O w' S J.null [.int .i64 0, .int .i64 0, .string ByteArray.empty, .slice none 0 0, .slice none 0 0] := by
 obtain ⟨ad, cs0, _, hK0, _⟩ := C_at hr (Below.refl _ _) 0 h
 cases m with
 | zero => exact hK0.elim
 | succ m => exact ZJ m w' S
def SzJ (m : Nat) : Prop := ∀ (x : J) (cs : List Value) (left : Int) (w : World), (tJ m).K w x cs → 0 ≤ left → left ≤ 1048576 →
 Calls Tryd.prog 16 #[.agg cs.toArray, .int .i64 left] w fun e w' => e = .returned (.int .i64 (szR left (bulkJ m x))) ∧ Below w.heap.size w w'
def ToJ (m : Nat) : Prop := ∀ (x : J) (cs : List Value) (w : World), (tJ m).K w x cs → bulkJ m x ≤ 1048576 →
 Calls Tryd.prog 19 #[.agg cs.toArray] w fun e w' => ∃ cs', e = .returned (.agg cs'.toArray) ∧ (tJ m).O w' (fun k => w.heap.size ≤ k) x cs' ∧ Below w.heap.size w w'
def EqJ (m : Nat) : Prop := ∀ (x y : J) (cs cs2 : List Value) (w : World), (tJ m).K w x cs → (tJ m).K w y cs2 →
 Calls Tryd.prog 28 #[.agg cs.toArray, .agg cs2.toArray] w fun e w' => e = .returned (.bool (eqv x y)) ∧ Below w.heap.size w w'
set_option maxRecDepth 100000 in
theorem laws_szStringS (A : Option Addr) (c : Nat) (l : List ByteArray) (left : Int) (w : World) (hr : str.C w A l) (h0 : 0 ≤ left) (h1 : left ≤ 1048576) :
  Calls Tryd.prog 33 #[.slice A l.length c, .int .i64 left] w fun e w' => e = .returned (.int .i64 (szR left (bulkStringS l))) ∧ Below w.heap.size w w' := by
 have hm := hr.1
 have HC := Hd.mk hr; clear hr
 go_enter Tryd.func33, Tryd.ntmps33
 by_cases hz : left - (l.length : Int) < 0
 ·have HN := Hd.mk (show szR left (bulkStringS l) = -1 by unfold szR; rw [if_neg (by simp only [bulkStringS]; omega)])
  go_wp2
  go_ret
  exact ⟨by rw [HN.out]; rfl, Below.refl _ _⟩
 ·go_wp2
  go_loopw [1, 5] (fun v i wr => ∃ k : Nat, k ≤ l.length ∧ i = .int .i64 k ∧ v = .int .i64 (szR left (l.length + bulkL ByteArray.size (l.take k))) ∧ Hd (0 ≤ szR left (l.length + bulkL ByteArray.size (l.take k))) ∧ Hd (Below w.heap.size w wr)) (fun _ i _ => l.length - (intOf i).toNat)
  case atStart => exact ⟨0, Nat.zero_le _, rfl, by simp [bulkL, szR]; omega, ⟨by simp [bulkL, szR]; omega⟩, ⟨Below.refl _ _⟩⟩
  case round =>
   obtain ⟨k, hk, rfl, rfl, HZ, HB⟩ := hrel
   by_cases hlt : k < l.length
   ·obtain ⟨ad, rfl, hx, hsz⟩ := C_str_at HC.out HB.out k hlt
    have hz0 := (szR_le HZ.out h1).2.1
    have hz1 := (szR_le HZ.out h1).2.2.1
    have HA := Hd.mk (show (szR left (l.length + bulkL ByteArray.size (l.take k)) - (l[k].size : Int) < 0 → szR left (bulkStringS l) = -1) ∧ (¬ szR left (l.length + bulkL ByteArray.size (l.take k)) - (l[k].size : Int) < 0 → szR left (l.length + bulkL ByteArray.size (l.take k)) - (l[k].size : Int) = szR left (l.length + bulkL ByteArray.size (l.take (k + 1)))) by
     have e1 := (szR_le HZ.out h1).2.2.2.2
     have e2 := bulkL_take ByteArray.size l k hlt
     have e3 := bulkL_take_le ByteArray.size l (k + 1)
     rw [e1]
     constructor
     ·intro h; unfold szR bulkStringS; rw [if_neg (by omega)]
     ·intro h; unfold szR; rw [if_pos (by omega)]; omega)
    by_cases hz2 : szR left (l.length + bulkL ByteArray.size (l.take k)) - (l[k].size : Int) < 0
    ·have HN := Hd.mk (HA.out.1 hz2)
     go_wp2_with fail
     go_ret
     exact ⟨by rw [HN.out]; rfl, HB.out⟩
    ·have HN := Hd.mk (HA.out.2 hz2)
     have HZ2 := Hd.mk (show 0 ≤ szR left (l.length + bulkL ByteArray.size (l.take (k + 1))) by rw [← HN.out]; omega)
     go_wp2_with fail
     go_roundw
     case rel => exact ⟨k + 1, by omega, by go_num, by rw [HN.out], HZ2, HB⟩
     case measure => simp [intOf]; omega
   ·obtain rfl : k = l.length := by omega
    go_wp2_with fail
    go_ret
    exact ⟨by simp [bulkStringS], HB.out⟩
set_option maxRecDepth 100000 in
theorem laws_toStringS (A : Option Addr) (c : Nat) (l : List ByteArray) (w : World) (hr : str.C w A l) (hl : bulkStringS l ≤ 1048576) :
  Calls Tryd.prog 41 #[.slice A l.length c] w fun e w' => ∃ v, e = .returned v ∧ str.R 9 w' (fun k => w.heap.size ≤ k) v l ∧ Below w.heap.size w w' := by
 replace hl : l.length ≤ 1048576 := by simp only [bulkStringS] at hl; omega
 have hmk := make_eq (P := Tryd.prog) 38 9 (.string ByteArray.empty) 1 16 Tryd.underlying38 info_str l.length (by omega) (by omega)
 go_enter Tryd.func41, Tryd.ntmps41
 go_wp2
 have hR := R_made (d := str) (e := 9) (W := w) (z := .string ByteArray.empty) (S := fun k => w.heap.size ≤ k) ByteArray.empty l.length (Nat.le_refl 1) (by omega) rfl (fun _ _ _ => ⟨rfl, Nat.zero_le _⟩) (Nat.le_refl _)
 simp only [show str.sz = 1 from rfl, Nat.mul_one, show (Value.string ByteArray.empty).cells = #[.string ByteArray.empty] from rfl] at hR
 have HR := Hd.mk hR; clear hR hmk
 have HC := Hd.mk hr; clear hr
 go_loopw [4] (fun i wr => ∃ k : Nat, k ≤ l.length ∧ i = .int .i64 k ∧ Hd (str.R 9 wr (fun k => w.heap.size ≤ k) (.slice (some ⟨w.heap.size, 0, none⟩) l.length l.length) (l.take k ++ List.replicate (l.length - k) ByteArray.empty)) ∧ Hd (Below w.heap.size w wr)) (fun i _ => l.length - (intOf i).toNat)
 case atStart => exact ⟨0, Nat.zero_le _, rfl, ⟨by simpa using HR.out⟩, ⟨below_alloc (Below.refl _ _) _⟩⟩
 case round =>
  obtain ⟨k, hk, rfl, HK, HB⟩ := hrel
  by_cases hlt : k < l.length
  ·obtain ⟨ad, rfl, hx, hsz⟩ := C_str_at HC.out HB.out k hlt
   obtain ⟨hgl, ⟨cur, hcur, hcell⟩, hfz, hg, hst⟩ := R_put (i := k) (T := fun _ => False) (S' := fun k => w.heap.size ≤ k) (cs' := [.string l[k]]) (x' := l[k]) HK.out (by simp; omega) (by decide) ⟨rfl, hsz⟩ (fun _ h => h.elim) (fun _ h => h) (fun _ h => h.elim)
   have k0 := hcell 0 (.string _) (by rw [hcur.1]; rfl)
   have z0 := hfz k
   simp only [show str.sz = 1 from rfl, Nat.mul_one, Nat.add_zero] at k0 hst
   have HST := Hd.mk hst; clear hst hcell hfz hcur
   go_wp2
   go_roundw
   case rel =>
    refine ⟨k + 1, by omega, by go_num, ⟨?_⟩, ⟨?_⟩⟩
    ·have := HST.out
     rw [set_rep l _ k hlt] at this
     exact this
    ·exact (setAll_fr (S := fun k => w.heap.size ≤ k) (fun _ => Nat.le_refl _) [_] _ _ (Fr.of_below HB.out _)).below (fun k hk => hk)
   case measure => simp [intOf]; omega
  ·obtain rfl : k = l.length := by omega
   go_wp2
   go_ret
   have := HK.out
   exact ⟨_, rfl, by simpa using this, HB.out⟩
set_option maxRecDepth 100000 in
theorem laws_eqStringS (A A2 : Option Addr) (c c2 : Nat) (l l2 : List ByteArray) (w : World) (hr : str.C w A l) (hr2 : str.C w A2 l2) :
  Calls Tryd.prog 52 #[.slice A l.length c, .slice A2 l2.length c2] w fun e w' => e = .returned (.bool (eqv l l2)) ∧ Below w.heap.size w w' := by
 have hm := hr.1
 have hm2 := hr2.1
 go_enter Tryd.func52, Tryd.ntmps52
 by_cases hlen : l.length = l2.length
 ·have hd : ((l.length : Int) != l2.length) = false := by simp [hlen]
  have HL := Hd.mk hlen
  have HC := Hd.mk hr
  have HC2 := Hd.mk hr2
  clear hr hr2 hlen
  go_wp2
  go_loopw [5] (fun i wr => ∃ k : Nat, k ≤ l.length ∧ i = .int .i64 k ∧ Hd (l.take k = l2.take k) ∧ Hd (Below w.heap.size w wr)) (fun i _ => l.length - (intOf i).toNat)
  case atStart => exact ⟨0, Nat.zero_le _, rfl, ⟨rfl⟩, ⟨Below.refl _ _⟩⟩
  case round =>
   obtain ⟨k, hk, rfl, HK, HB⟩ := hrel
   by_cases hlt : k < l.length
   ·obtain ⟨ad, rfl, hx, hsz⟩ := C_str_at HC.out HB.out k hlt
    have hlt2 : k < l2.length := by have := HL.out; omega
    obtain ⟨ad2, rfl, hx2, hsz2⟩ := C_str_at HC2.out HB.out k hlt2
    cases hb : (l[k].toList == l2[k].toList)
    rotate_left
    ·go_wp2
     go_quiet (fail)
     go_wp2
     go_roundw
     case rel => 
      refine ⟨k + 1, by omega, by go_num, ⟨?_⟩, ⟨?_⟩⟩
      ·have hb : l[k] = l2[k] := bytes_eq.1 hb
       rw [List.take_succ_eq_append_getElem hlt, List.take_succ_eq_append_getElem hlt2, HK.out, hb]
      ·exact below_drewN HB.out _
     case measure => simp [intOf]; omega
    ·have HN := Hd.mk (eqv_at k hlt hlt2 (fun h => by rw [h] at hb; simp at hb))
     go_wp2
     go_quiet (fail)
     go_wp2
     go_ret
     exact ⟨by rw [HN.out]; rfl, below_drewN HB.out _⟩
   ·obtain rfl : k = l.length := by omega
    go_wp2
    go_ret
    have h1 := HK.out
    rw [List.take_length, HL.out, List.take_length] at h1
    exact ⟨by rw [eqv_iff.2 h1]; rfl, HB.out⟩
 ·have hd : ((l.length : Int) != l2.length) = true := by simp; omega
  have HN := Hd.mk (eqv_len hlen)
  go_wp2
  go_ret
  exact ⟨by rw [HN.out]; rfl, Below.refl _ _⟩
set_option maxRecDepth 100000 in
theorem laws_szJsonS_of {m : Nat} (ih : SzJ m) (A : Option Addr) (c : Nat) (l : List J) (left : Int) (w : World) (hr : (tJ m).C w A l) (h0 : 0 ≤ left) (h1 : left ≤ 1048576) :
  Calls Tryd.prog 4 #[.slice A l.length c, .int .i64 left] w fun e w' => e = .returned (.int .i64 (szR left (bulkJS m l))) ∧ Below w.heap.size w w' := by
 have hm := hr.1
 have HC := Hd.mk hr; clear hr
 go_enter Tryd.func4, Tryd.ntmps4
 by_cases hz : left - (l.length : Int) < 0
 ·have HN := Hd.mk (show szR left (bulkJS m l) = -1 by unfold szR; rw [if_neg (by simp only [bulkJS]; omega)])
  go_wp2
  go_ret
  exact ⟨by rw [HN.out]; rfl, Below.refl _ _⟩
 ·go_wp2
  go_loopw [1, 5] (fun v i wr => ∃ k : Nat, k ≤ l.length ∧ i = .int .i64 k ∧ v = .int .i64 (szR left (l.length + bulkL (bulkJ m) (l.take k))) ∧ Hd (0 ≤ szR left (l.length + bulkL (bulkJ m) (l.take k))) ∧ Hd (Below w.heap.size w wr)) (fun _ i _ => l.length - (intOf i).toNat)
  case atStart => exact ⟨0, Nat.zero_le _, rfl, by simp [bulkL, szR]; omega, ⟨by simp [bulkL, szR]; omega⟩, ⟨Below.refl _ _⟩⟩
  case round =>
   obtain ⟨k, hk, rfl, rfl, HZ, HB⟩ := hrel
   by_cases hlt : k < l.length
   ·obtain ⟨ad, cs0, rfl, hK0, e0, e1⟩ := C_at HC.out HB.out k hlt
    obtain ⟨m, rfl⟩ : ∃ m1 : Nat, m = m1 + 1 := by cases m with | zero => exact hK0.elim | succ m => exact ⟨m, rfl⟩
    obtain ⟨A1, c1, A2, c2, rfl, hs, ⟨hc1, hr1⟩, hc2, hr2⟩ := tJ_K.1 hK0
    have x0 : wr.cell? (ad.add (k * 5)) = some _ := e0 _ rfl
    have x1 : wr.cell? ⟨(ad.add (k * 5)).block, (ad.add (k * 5)).off + 1, none⟩ = some _ := e1 0 _ rfl
    have x2 : wr.cell? ⟨(ad.add (k * 5)).block, (ad.add (k * 5)).off + 2, none⟩ = some _ := e1 1 _ rfl
    have x3 : wr.cell? ⟨(ad.add (k * 5)).block, (ad.add (k * 5)).off + 3, none⟩ = some _ := e1 2 _ rfl
    have x4 : wr.cell? ⟨(ad.add (k * 5)).block, (ad.add (k * 5)).off + 4, none⟩ = some _ := e1 3 _ rfl
    have HK := Hd.mk hK0
    clear hK0 e0 e1
    clear hr1 hr2
    have hz0 := (szR_le HZ.out h1).2.1
    have hz1 := (szR_le HZ.out h1).2.2.1
    go_wp2_with fail
    refine (ih l[k] _ _ _ HK.out hz0 hz1).mono ?_
    rintro e w1 ⟨rfl, hB1⟩
    have hB2 := below_then HB.out hB1
    rw [szR_add HZ.out, Nat.add_assoc, ← bulkL_take (bulkJ (m + 1)) l k hlt]
    by_cases hz2 : szR left (l.length + bulkL (bulkJ (m + 1)) (l.take (k + 1))) < 0
    ·have HN := Hd.mk (show szR left (bulkJS (m + 1) l) = -1 by
      have h3 := szR_lt.1 hz2
      have h4 := bulkL_take_le (bulkJ (m + 1)) l (k + 1)
      unfold szR; rw [if_neg (by simp only [bulkJS]; omega)])
     go_wp2_with fail
     go_ret
     exact ⟨by rw [HN.out]; rfl, hB2⟩
    ·have HZ2 := Hd.mk (Int.not_lt.1 hz2)
     go_wp2_with fail
     go_roundw
     case rel => exact ⟨k + 1, by omega, by go_num, rfl, HZ2, ⟨hB2⟩⟩
     case measure => simp [intOf]; omega
   ·obtain rfl : k = l.length := by omega
    go_wp2_with fail
    go_ret
    exact ⟨by simp [bulkJS], HB.out⟩
set_option maxRecDepth 100000 in
theorem laws_szJson_of {m : Nat} (ih : SzJ m) (x : J) (cs : List Value) (left : Int) (w : World) (hk : (tJ (m + 1)).K w x cs) (h0 : 0 ≤ left) (h1 : left ≤ 1048576) :
  Calls Tryd.prog 16 #[.agg cs.toArray, .int .i64 left] w fun e w' => e = .returned (.int .i64 (szR left (bulkJ (m + 1) x))) ∧ Below w.heap.size w w' := by
 obtain ⟨A1, c1, A2, c2, rfl, hs, ⟨hc1, hr1⟩, hc2, hr2⟩ := tJ_K.1 hk
 go_enter Tryd.func16, Tryd.ntmps16
 have hm1 := hr1.1
 have HR1 := Hd.mk hr1; clear hr1
 have hm2 := hr2.1
 have HR2 := Hd.mk hr2; clear hr2
 by_cases hz : left - (x.s.size : Int) < 0
 ·have HN := Hd.mk (show szR left (bulkJ (m + 1) x) = -1 by unfold szR; rw [if_neg (by simp only [bulkJ, bulkJS]; omega)])
  go_wp2_with fail
  go_ret
  exact ⟨by rw [HN.out]; rfl, by exact below_alloc (Below.refl _ _) _⟩
 have hz := Int.not_lt.1 hz
 go_wp2_with fail
 have b := Blk.new w #[.int .i64 x.kind, .int .i64 x.n, .string x.s, .slice A1 x.list.length c1, .slice A2 x.names.length c2] 40
 have hB := below_alloc (Below.refl w.heap.size w) (Obj.cells #[.int .i64 x.kind, .int .i64 x.n, .string x.s, .slice A1 x.list.length c1, .slice A2 x.names.length c2] 40)
 generalize w.alloc (Obj.cells #[Value.int IntKind.i64 x.kind, Value.int IntKind.i64 x.n, Value.string x.s, Value.slice A1 x.list.length c1, Value.slice A2 x.names.length c2] 40) = W0 at b hB ⊢
 have f0 : W0.cell? ⟨w.heap.size, 0, none⟩ = some (.int .i64 x.kind) := b.cell 0 rfl
 have f1 : W0.cell? ⟨w.heap.size, 1, none⟩ = some (.int .i64 x.n) := b.cell 1 rfl
 have f2 : W0.cell? ⟨w.heap.size, 2, none⟩ = some (.string x.s) := b.cell 2 rfl
 have f3 : W0.cell? ⟨w.heap.size, 3, none⟩ = some (.slice A1 x.list.length c1) := b.cell 3 rfl
 have f4 : W0.cell? ⟨w.heap.size, 4, none⟩ = some (.slice A2 x.names.length c2) := b.cell 4 rfl
 clear b
 refine (laws_szJsonS_of ih _ _ x.list _ _ (C_below HR1.out hB) hz (by omega)).mono ?_
 rintro e w1 ⟨rfl, hB1⟩
 replace f0 := cell_below hB1 f0
 replace f1 := cell_below hB1 f1
 replace f2 := cell_below hB1 f2
 replace f3 := cell_below hB1 f3
 replace f4 := cell_below hB1 f4
 replace hB := below_then hB hB1
 clear hB1
 rw [szR_sub hz]
 by_cases hz0 : szR left (x.s.size + bulkJS m x.list) < 0
 ·have HN := Hd.mk (show szR left (bulkJ (m + 1) x) = -1 by have h3 := szR_lt.1 hz0; unfold szR; rw [if_neg (by simp only [bulkJ, bulkJS] at h3 ⊢; omega)])
  go_wp2_with fail
  go_ret
  exact ⟨by rw [HN.out]; rfl, hB⟩
 have HZ := Hd.mk (Int.not_lt.1 hz0)
 have hy0 := (szR_le HZ.out h1).2.1
 have hx0 := (szR_le HZ.out h1).2.2.1
 clear hz0
 go_wp2_with fail
 refine (laws_szStringS _ _ x.names _ _ (C_below HR2.out hB) hy0 hx0).mono ?_
 rintro e w2 ⟨rfl, hB1⟩
 replace f0 := cell_below hB1 f0
 replace f1 := cell_below hB1 f1
 replace f2 := cell_below hB1 f2
 replace f3 := cell_below hB1 f3
 replace f4 := cell_below hB1 f4
 replace hB := below_then hB hB1
 clear hB1
 rw [szR_add HZ.out]
 by_cases hz1 : szR left (x.s.size + bulkJS m x.list + bulkStringS x.names) < 0
 ·have HN := Hd.mk (show szR left (bulkJ (m + 1) x) = -1 by have h3 := szR_lt.1 hz1; unfold szR; rw [if_neg (by simp only [bulkJ, bulkJS] at h3 ⊢; omega)])
  go_wp2_with fail
  go_ret
  exact ⟨by rw [HN.out]; rfl, hB⟩
 have HZ := Hd.mk (Int.not_lt.1 hz1)
 have hy1 := (szR_le HZ.out h1).2.1
 have hx1 := (szR_le HZ.out h1).2.2.1
 clear hz1
 go_wp2_with fail
 go_ret
 exact ⟨rfl, hB⟩
theorem szJ_all : ∀ m, SzJ m
 | 0 => fun _ _ _ _ hk => hk.elim
 | m + 1 => fun x cs left w hk h0 h1 => laws_szJson_of (szJ_all m) x cs left w hk h0 h1
theorem laws_szJson {m : Nat} (x : J) (cs : List Value) (left : Int) (w : World) (hk : (tJ (m + 1)).K w x cs) (h0 : 0 ≤ left) (h1 : left ≤ 1048576) :
  Calls Tryd.prog 16 #[.agg cs.toArray, .int .i64 left] w fun e w' => e = .returned (.int .i64 (szR left (bulkJ (m + 1) x))) ∧ Below w.heap.size w w' := szJ_all (m + 1) x cs left w hk h0 h1
set_option maxRecDepth 100000 in
theorem laws_toJsonS_of {m : Nat} (ih : ToJ m) (A : Option Addr) (c : Nat) (l : List J) (w : World) (hr : (tJ m).C w A l) (hl : bulkJS m l ≤ 1048576) :
  Calls Tryd.prog 6 #[.slice A l.length c] w fun e w' => ∃ v, e = .returned v ∧ (tJ m).R 43 w' (fun k => w.heap.size ≤ k) v l ∧ Below w.heap.size w w' := by
 have hl0 : l.length ≤ 1048576 := by simp only [bulkJS] at hl; omega
 have hmk := make_eq (P := Tryd.prog) 27 43 (.agg #[.int .i64 0, .int .i64 0, .string ByteArray.empty, .slice none 0 0, .slice none 0 0]) 5 80 Tryd.underlying27 info_JsonS l.length (by omega) (by omega)
 have HL := Hd.mk hl
 go_enter Tryd.func6, Tryd.ntmps6
 go_wp2
 have hR := R_made (d := (tJ m)) (e := 43) (W := w) (z := (.agg #[.int .i64 0, .int .i64 0, .string ByteArray.empty, .slice none 0 0, .slice none 0 0])) (S := fun k => w.heap.size ≤ k) J.null l.length (by rw [tJ_sz]; omega) (by omega) (tJ_sz _).symm (tJ_zero hr) (Nat.le_refl _)
 simp only [tJ_sz m, show (Value.agg #[.int .i64 0, .int .i64 0, .string ByteArray.empty, .slice none 0 0, .slice none 0 0] : Value).cells = #[.int .i64 0, .int .i64 0, .string ByteArray.empty, .slice none 0 0, .slice none 0 0] from rfl] at hR
 have HR := Hd.mk hR; clear hR hmk hl
 have HC := Hd.mk hr; clear hr
 go_loopw [4] (fun i wr => ∃ k : Nat, k ≤ l.length ∧ i = .int .i64 k ∧ Hd ((tJ m).R 43 wr (fun k => w.heap.size ≤ k) (.slice (some ⟨w.heap.size, 0, none⟩) l.length l.length) (l.take k ++ List.replicate (l.length - k) J.null)) ∧ Hd (Below w.heap.size w wr)) (fun i _ => l.length - (intOf i).toNat)
 case atStart => exact ⟨0, Nat.zero_le _, rfl, ⟨by simpa using HR.out⟩, ⟨below_alloc (Below.refl _ _) _⟩⟩
 case round =>
  obtain ⟨k, hk, rfl, HK1, HB⟩ := hrel
  by_cases hlt : k < l.length
  ·obtain ⟨ad, cs0, rfl, hK0, e0, e1⟩ := C_at HC.out HB.out k hlt
   obtain ⟨m, rfl⟩ : ∃ m1 : Nat, m = m1 + 1 := by cases m with | zero => exact hK0.elim | succ m => exact ⟨m, rfl⟩
   obtain ⟨A1, c1, A2, c2, rfl, hs, ⟨hc1, hr1⟩, hc2, hr2⟩ := tJ_K.1 hK0
   have x0 : wr.cell? (ad.add (k * 5)) = some _ := e0 _ rfl
   have x1 : wr.cell? ⟨(ad.add (k * 5)).block, (ad.add (k * 5)).off + 1, none⟩ = some _ := e1 0 _ rfl
   have x2 : wr.cell? ⟨(ad.add (k * 5)).block, (ad.add (k * 5)).off + 2, none⟩ = some _ := e1 1 _ rfl
   have x3 : wr.cell? ⟨(ad.add (k * 5)).block, (ad.add (k * 5)).off + 3, none⟩ = some _ := e1 2 _ rfl
   have x4 : wr.cell? ⟨(ad.add (k * 5)).block, (ad.add (k * 5)).off + 4, none⟩ = some _ := e1 3 _ rfl
   have HK := Hd.mk hK0
   clear hK0 e0 e1
   clear hr1 hr2
   have hb := Nat.le_trans (bulkL_mem (bulkJ (m + 1)) (List.getElem_mem hlt)) (Nat.le_trans (Nat.le_add_left _ _) HL.out)
   go_wp2_with fail
   refine (ih l[k] _ _ HK.out hb).mono ?_
   rintro e w1 ⟨cs', rfl, hO, hB1⟩
   obtain ⟨hgl, ⟨cur, hcur, hcell⟩, hfz, hg, hst⟩ := R_put (i := k) (S' := fun k => w.heap.size ≤ k) (R_mono (fun _ h => h) (R_below (R_bound HK1.out) hB1)) (by simp; omega) (by rw [tJ_sz]; omega) hO (fun k hk hl hs => by have := hs.2; omega) (fun k hk => hk.1) (fun k hk => Nat.le_trans HB.out.size hk)
   obtain ⟨v1, v2, _, _, rfl, hsz, hv1, hv2, _⟩ := tJ_O.1 hO
   obtain ⟨D1, d1, rfl, _, _⟩ := R_C hv1
   obtain ⟨D2, d2, rfl, _, _⟩ := R_C hv2
   obtain ⟨Az1, cz1, Az2, cz2, rfl, hsz, ⟨hcz1, hrz1⟩, hcz2, hrz2⟩ := tJ_K.1 hcur
   clear hrz1 hrz2 hv1 hv2
   have k0 : w1.cell? ⟨w.heap.size, k * 5, none⟩ = some _ := hcell 0 _ rfl
   have z0 := hfz (k * 5)
   have k1 : w1.cell? ⟨w.heap.size, k * 5 + 1, none⟩ = some _ := hcell 1 _ rfl
   have z1 := hfz (k * 5 + 1)
   have k2 : w1.cell? ⟨w.heap.size, k * 5 + 2, none⟩ = some _ := hcell 2 _ rfl
   have z2 := hfz (k * 5 + 2)
   have k3 : w1.cell? ⟨w.heap.size, k * 5 + 3, none⟩ = some _ := hcell 3 _ rfl
   have z3 := hfz (k * 5 + 3)
   have k4 : w1.cell? ⟨w.heap.size, k * 5 + 4, none⟩ = some _ := hcell 4 _ rfl
   have z4 := hfz (k * 5 + 4)
   have HST := Hd.mk hst
   clear hst hcell hfz hcur hO
   go_wp2_with fail
   go_roundw
   case rel =>
    refine ⟨k + 1, by omega, by go_num, ⟨?_⟩, ⟨?_⟩⟩
    ·have := HST.out
     rw [set_rep l _ k hlt] at this
     exact this
    ·exact (setAll_fr (S := fun k => w.heap.size ≤ k) (fun _ => Nat.le_refl _) [_, _, _, _, _] _ _ (Fr.of_below (below_then HB.out hB1) _)).below (fun k hk => hk)
   case measure => simp [intOf]; omega
  ·obtain rfl : k = l.length := by omega
   go_wp2_with fail
   go_ret
   have := HK1.out
   exact ⟨_, rfl, by simpa using this, HB.out⟩
set_option maxRecDepth 100000 in
theorem laws_toJson_of {m : Nat} (ih : ToJ m) (x : J) (cs : List Value) (w : World) (hk : (tJ (m + 1)).K w x cs) (hl : bulkJ (m + 1) x ≤ 1048576) :
  Calls Tryd.prog 19 #[.agg cs.toArray] w fun e w' => ∃ cs', e = .returned (.agg cs'.toArray) ∧ (tJ (m + 1)).O w' (fun k => w.heap.size ≤ k) x cs' ∧ Below w.heap.size w w' := by
 obtain ⟨A1, c1, A2, c2, rfl, hs, ⟨hc1, hr1⟩, hc2, hr2⟩ := tJ_K.1 hk
 replace hl : x.s.size + bulkJS m x.list + bulkStringS x.names ≤ 1048576 := hl
 have HR1 := Hd.mk hr1; clear hr1
 have HR2 := Hd.mk hr2; clear hr2
 have HL := Hd.mk hl; clear hl hk
 go_enter Tryd.func19, Tryd.ntmps19
 go_wp2_with fail
 apply calls_gen; intro W0 hW0
 have hB : Below w.heap.size w W0 := by rw [hW0]; exact below_alloc (below_alloc (below_alloc (Below.refl _ _) _) _) _
 have b0 : Blk W0 w.heap.size #[.int .i64 x.kind, .int .i64 x.n, .string x.s, .slice A1 x.list.length c1, .slice A2 x.names.length c2] 40 := by rw [hW0]; exact ((Blk.new w _ _).alloc _).alloc _
 have b1 : Blk W0 (w.heap.size + 1) #[.int .i64 0, .int .i64 0, .string ByteArray.empty, .slice none 0 0, .slice none 0 0] 43 := by rw [hW0]; exact (Blk.new1 w _ _ _).alloc _
 have b2 : Blk W0 (w.heap.size + 1 + 1) #[.int .i64 x.kind, .int .i64 x.n, .string x.s, .slice none 0 0, .slice none 0 0] 43 := by rw [hW0]; exact Blk.new2 w _ _ _ _
 have s0 : Hd (w.heap.size + 3 ≤ W0.heap.size) := ⟨by rw [hW0]; simp⟩
 clear hW0
 refine (laws_toJsonS_of ih _ _ x.list _ (C_below HR1.out hB) (by have := HL.out; omega)).mono ?_
 rintro e w1 ⟨v0, rfl, hR0, hB1⟩
 have t0 : Hd (W0.heap.size ≤ w1.heap.size) := ⟨hB1.size⟩
 replace hR0 := R_bound hR0
 replace b0 := b0.below hB1
 replace b1 := b1.below hB1
 replace b2 := b2.below hB1
 replace hB := below_then hB hB1
 obtain ⟨D0, d0, rfl, _, _⟩ := R_C hR0
 have H0 := Hd.mk hR0; clear hR0
 have p0 : w1.cell? ⟨w.heap.size, 0, none⟩ = some (.int .i64 x.kind) := b0.cell 0 rfl
 have q0 : w1.cell? ⟨w.heap.size + 1, 0, none⟩ = some (.int .i64 0) := b1.cell 0 rfl
 have r0 : w1.cell? ⟨w.heap.size + 1 + 1, 0, none⟩ = some (.int .i64 x.kind) := b2.cell 0 rfl
 have p1 : w1.cell? ⟨w.heap.size, 1, none⟩ = some (.int .i64 x.n) := b0.cell 1 rfl
 have q1 : w1.cell? ⟨w.heap.size + 1, 1, none⟩ = some (.int .i64 0) := b1.cell 1 rfl
 have r1 : w1.cell? ⟨w.heap.size + 1 + 1, 1, none⟩ = some (.int .i64 x.n) := b2.cell 1 rfl
 have p2 : w1.cell? ⟨w.heap.size, 2, none⟩ = some (.string x.s) := b0.cell 2 rfl
 have q2 : w1.cell? ⟨w.heap.size + 1, 2, none⟩ = some (.string ByteArray.empty) := b1.cell 2 rfl
 have r2 : w1.cell? ⟨w.heap.size + 1 + 1, 2, none⟩ = some (.string x.s) := b2.cell 2 rfl
 have p3 : w1.cell? ⟨w.heap.size, 3, none⟩ = some (.slice A1 x.list.length c1) := b0.cell 3 rfl
 have q3 : w1.cell? ⟨w.heap.size + 1, 3, none⟩ = some (.slice none 0 0) := b1.cell 3 rfl
 have r3 : w1.cell? ⟨w.heap.size + 1 + 1, 3, none⟩ = some (.slice none 0 0) := b2.cell 3 rfl
 have p4 : w1.cell? ⟨w.heap.size, 4, none⟩ = some (.slice A2 x.names.length c2) := b0.cell 4 rfl
 have q4 : w1.cell? ⟨w.heap.size + 1, 4, none⟩ = some (.slice none 0 0) := b1.cell 4 rfl
 have r4 : w1.cell? ⟨w.heap.size + 1 + 1, 4, none⟩ = some (.slice none 0 0) := b2.cell 4 rfl
 have pf := b0.frozen
 have qf := b1.frozen
 have rf := b2.frozen
 clear hB1
 go_wp2_with fail
 clear p0 p1 p2 p3 p4 q0 q1 q2 q3 q4 r0 r1 r2 r3 r4 pf qf rf
 have hR0 := H0.out
 apply calls_gen; intro W1 hW1
 have eF : Fr w1 W1 (fun k => w.heap.size ≤ k ∧ k < w.heap.size + 3) := by rw [hW1]; repeat (first | refine Fr.setCell ?_ _ (fun _ => by constructor <;> (try simp only) <;> omega) _ | exact Fr.refl _ _)
 have hB : Below w.heap.size w W1 := ((Fr.of_below hB (fun k => w.heap.size ≤ k ∧ k < w.heap.size + 3)).then_ eF (fun k hk _ => hk)).below (fun k hk => hk.1)
 have b0 : Blk W1 w.heap.size #[.int .i64 x.kind, .int .i64 x.n, .string x.s, .slice A1 x.list.length c1, .slice A2 x.names.length c2] 40 := by rw [hW1]; repeat (first | refine Blk.other ?_ _ (by simp <;> omega) _ | exact b0)
 have b1 : Blk W1 (w.heap.size + 1) #[.int .i64 0, .int .i64 0, .string ByteArray.empty, .slice none 0 0, .slice none 0 0] 43 := by rw [hW1]; repeat (first | refine Blk.other ?_ _ (by simp <;> omega) _ | exact b1)
 have b2 : Blk W1 (w.heap.size + 1 + 1) #[.int .i64 x.kind, .int .i64 x.n, .string x.s, .slice D0 x.list.length d0, .slice none 0 0] 43 := by rw [hW1]; exact (b2.set 3 _)
 have s1 : Hd (w1.heap.size ≤ W1.heap.size) := ⟨eF.size⟩
 replace hR0 := R_fr hR0 eF (fun k hk hl h => by have := hk.1; have := h.2; have := s0.out; omega)
 clear hW1
 refine (laws_toStringS _ _ x.names _ (C_below HR2.out hB) (by have := HL.out; omega)).mono ?_
 rintro e w2 ⟨v1, rfl, hR1, hB1⟩
 have t1 : Hd (W1.heap.size ≤ w2.heap.size) := ⟨hB1.size⟩
 replace hR0 := R_below hR0 hB1
 replace hR1 := R_bound hR1
 replace b0 := b0.below hB1
 replace b1 := b1.below hB1
 replace b2 := b2.below hB1
 replace hB := below_then hB hB1
 obtain ⟨D1, d1, rfl, _, _⟩ := R_C hR1
 have H0 := Hd.mk hR0; clear hR0
 have H1 := Hd.mk hR1; clear hR1
 have p0 : w2.cell? ⟨w.heap.size, 0, none⟩ = some (.int .i64 x.kind) := b0.cell 0 rfl
 have q0 : w2.cell? ⟨w.heap.size + 1, 0, none⟩ = some (.int .i64 0) := b1.cell 0 rfl
 have r0 : w2.cell? ⟨w.heap.size + 1 + 1, 0, none⟩ = some (.int .i64 x.kind) := b2.cell 0 rfl
 have p1 : w2.cell? ⟨w.heap.size, 1, none⟩ = some (.int .i64 x.n) := b0.cell 1 rfl
 have q1 : w2.cell? ⟨w.heap.size + 1, 1, none⟩ = some (.int .i64 0) := b1.cell 1 rfl
 have r1 : w2.cell? ⟨w.heap.size + 1 + 1, 1, none⟩ = some (.int .i64 x.n) := b2.cell 1 rfl
 have p2 : w2.cell? ⟨w.heap.size, 2, none⟩ = some (.string x.s) := b0.cell 2 rfl
 have q2 : w2.cell? ⟨w.heap.size + 1, 2, none⟩ = some (.string ByteArray.empty) := b1.cell 2 rfl
 have r2 : w2.cell? ⟨w.heap.size + 1 + 1, 2, none⟩ = some (.string x.s) := b2.cell 2 rfl
 have p3 : w2.cell? ⟨w.heap.size, 3, none⟩ = some (.slice A1 x.list.length c1) := b0.cell 3 rfl
 have q3 : w2.cell? ⟨w.heap.size + 1, 3, none⟩ = some (.slice none 0 0) := b1.cell 3 rfl
 have r3 : w2.cell? ⟨w.heap.size + 1 + 1, 3, none⟩ = some (.slice D0 x.list.length d0) := b2.cell 3 rfl
 have p4 : w2.cell? ⟨w.heap.size, 4, none⟩ = some (.slice A2 x.names.length c2) := b0.cell 4 rfl
 have q4 : w2.cell? ⟨w.heap.size + 1, 4, none⟩ = some (.slice none 0 0) := b1.cell 4 rfl
 have r4 : w2.cell? ⟨w.heap.size + 1 + 1, 4, none⟩ = some (.slice none 0 0) := b2.cell 4 rfl
 have pf := b0.frozen
 have qf := b1.frozen
 have rf := b2.frozen
 clear hB1
 go_wp2_with fail
 refine bodyPost_retW (v := .agg #[.int .i64 x.kind, .int .i64 x.n, .string x.s, .slice D0 x.list.length d0, .slice D1 x.names.length d1]) (by simp [results, Tryd.results19, go_sem, q0, q1, q2, q3, q4]) rfl ?_
 intro W hW
 have eF : Fr w2 W (fun k => w.heap.size ≤ k ∧ k < w.heap.size + 3) := by rw [hW]; repeat (first | refine Fr.setCell ?_ _ (fun _ => by constructor <;> (try simp only) <;> omega) _ | exact Fr.refl _ _)
 clear hW
 have hs0 := s0.out
 have ht0 := t0.out
 have hs1 := s1.out
 have ht1 := t1.out
 have hR0 := R_fr H0.out eF (fun k hk hl h => by have := hk.1; have := h.2; omega)
 have hR1 := R_fr H1.out eF (fun k hk hl h => by have := hk.1; have := h.2; omega)
 refine ⟨[Value.int IntKind.i64 x.kind, .int .i64 x.n, .string x.s, .slice D0 x.list.length d0, .slice D1 x.names.length d1], rfl, ?_, ((Fr.of_below hB (fun k => w.heap.size ≤ k ∧ k < w.heap.size + 3)).then_ eF (fun k hk _ => hk)).below (fun k hk => hk.1)⟩
 exact tJ_O.2 ⟨_, _, _, _, rfl, hs, hR0, hR1, fun k hk => by have := hk.1; omega, fun k hk => by have := hk.1; omega, fun k hk hk2 => by have := hk.2; have := hk2.1; omega⟩
theorem toJ_all : ∀ m, ToJ m
 | 0 => fun _ _ _ hk => hk.elim
 | m + 1 => fun x cs w hk hl => laws_toJson_of (toJ_all m) x cs w hk hl
theorem laws_toJson {m : Nat} (x : J) (cs : List Value) (w : World) (hk : (tJ (m + 1)).K w x cs) (hl : bulkJ (m + 1) x ≤ 1048576) :
  Calls Tryd.prog 19 #[.agg cs.toArray] w fun e w' => ∃ cs', e = .returned (.agg cs'.toArray) ∧ (tJ (m + 1)).O w' (fun k => w.heap.size ≤ k) x cs' ∧ Below w.heap.size w w' := toJ_all (m + 1) x cs w hk hl
set_option maxRecDepth 100000 in
theorem laws_eqJsonS_of {m : Nat} (ih : EqJ m) (A A2 : Option Addr) (c c2 : Nat) (l l2 : List J) (w : World) (hr : (tJ m).C w A l) (hr2 : (tJ m).C w A2 l2) :
  Calls Tryd.prog 10 #[.slice A l.length c, .slice A2 l2.length c2] w fun e w' => e = .returned (.bool (eqv l l2)) ∧ Below w.heap.size w w' := by
 have hm := hr.1
 have hm2 := hr2.1
 go_enter Tryd.func10, Tryd.ntmps10
 by_cases hlen : l.length = l2.length
 ·have hd : ((l.length : Int) != l2.length) = false := by simp [hlen]
  have HL := Hd.mk hlen
  have HC := Hd.mk hr
  have HC2 := Hd.mk hr2
  clear hr hr2 hlen
  go_wp2
  go_loopw [5] (fun i wr => ∃ k : Nat, k ≤ l.length ∧ i = .int .i64 k ∧ Hd (l.take k = l2.take k) ∧ Hd (Below w.heap.size w wr)) (fun i _ => l.length - (intOf i).toNat)
  case atStart => exact ⟨0, Nat.zero_le _, rfl, ⟨rfl⟩, ⟨Below.refl _ _⟩⟩
  case round =>
   obtain ⟨k, hk, rfl, HK1, HB⟩ := hrel
   by_cases hlt : k < l.length
   ·have hlt2 : k < l2.length := by have := HL.out; omega
    obtain ⟨ad, cs0, rfl, hK0, e0, e1⟩ := C_at HC.out HB.out k hlt
    obtain ⟨m, rfl⟩ : ∃ m1 : Nat, m = m1 + 1 := by cases m with | zero => exact hK0.elim | succ m => exact ⟨m, rfl⟩
    obtain ⟨A1, c1, A2, c2, rfl, hs, ⟨hc1, hr1⟩, hc2, hr2⟩ := tJ_K.1 hK0
    have x0 : wr.cell? (ad.add (k * 5)) = some _ := e0 _ rfl
    have x1 : wr.cell? ⟨(ad.add (k * 5)).block, (ad.add (k * 5)).off + 1, none⟩ = some _ := e1 0 _ rfl
    have x2 : wr.cell? ⟨(ad.add (k * 5)).block, (ad.add (k * 5)).off + 2, none⟩ = some _ := e1 1 _ rfl
    have x3 : wr.cell? ⟨(ad.add (k * 5)).block, (ad.add (k * 5)).off + 3, none⟩ = some _ := e1 2 _ rfl
    have x4 : wr.cell? ⟨(ad.add (k * 5)).block, (ad.add (k * 5)).off + 4, none⟩ = some _ := e1 3 _ rfl
    have HK := Hd.mk hK0
    clear hK0 e0 e1
    clear hr1 hr2
    obtain ⟨adb, csb0, rfl, hKb0, e0, e1⟩ := C_at HC2.out HB.out k hlt2
    obtain ⟨Ab1, cb1, Ab2, cb2, rfl, hsb, ⟨hcb1, hrb1⟩, hcb2, hrb2⟩ := tJ_K.1 hKb0
    have xb0 : wr.cell? (adb.add (k * 5)) = some _ := e0 _ rfl
    have xb1 : wr.cell? ⟨(adb.add (k * 5)).block, (adb.add (k * 5)).off + 1, none⟩ = some _ := e1 0 _ rfl
    have xb2 : wr.cell? ⟨(adb.add (k * 5)).block, (adb.add (k * 5)).off + 2, none⟩ = some _ := e1 1 _ rfl
    have xb3 : wr.cell? ⟨(adb.add (k * 5)).block, (adb.add (k * 5)).off + 3, none⟩ = some _ := e1 2 _ rfl
    have xb4 : wr.cell? ⟨(adb.add (k * 5)).block, (adb.add (k * 5)).off + 4, none⟩ = some _ := e1 3 _ rfl
    have HKb := Hd.mk hKb0
    clear hKb0 e0 e1
    clear hrb1 hrb2
    go_wp2_with fail
    have y0 := cell_regrown x0
    have yb0 := cell_regrown xb0
    have y1 := cell_regrown x1
    have yb1 := cell_regrown xb1
    have y2 := cell_regrown x2
    have yb2 := cell_regrown xb2
    have y3 := cell_regrown x3
    have yb3 := cell_regrown xb3
    have y4 := cell_regrown x4
    have yb4 := cell_regrown xb4
    refine region_mix [(true, 0), (true, 1), (true, 2), (true, 3), (true, 4), (true, 5), (true, 6), (true, 7), (false, 8), (true, 9)] (by kernel_rfl) (by kernel_rfl) (fun _ _ _ _ _ h => h) ?_
    repeat (refine mix_q rfl ?_; go_big_quiet_want; go_big_quiet_op; go_big_quiet_on; refine wpQuiet_nil ?_)
    refine mix_b rfl ?_ (by rfl)
    go_wp2_with fail
    refine (ih l[k] l2[k] _ _ _ (Ty.K_below _ (below_drew (Below.refl _ _)) HK.out) (Ty.K_below _ (below_drew (Below.refl _ _)) HKb.out)).mono ?_
    rintro e w1 ⟨rfl, hB1⟩
    have hW1 := Hd.mk (below_then (below_drew (Below.refl wr.heap.size wr)) hB1)
    have hB2 := below_then HB.out hW1.out
    clear hB1
    cases hb : eqv l[k] l2[k]
    ·have HN := Hd.mk (eqv_at k hlt hlt2 (fun h => by rw [h, eqv_self] at hb; cases hb))
     go_wp2_with fail
     refine ⟨cls_below hW1.out, ?_⟩
     repeat (refine mix_q rfl ?_; go_big_quiet_want; go_big_quiet_op; go_big_quiet_on; refine wpQuiet_nil ?_)
     refine mix_nil ?_
     go_wp2_with fail
     go_ret
     exact ⟨by rw [HN.out]; rfl, hB2⟩
    ·have HE := Hd.mk (eqv_iff.1 hb)
     go_wp2_with fail
     refine ⟨cls_below hW1.out, ?_⟩
     repeat (refine mix_q rfl ?_; go_big_quiet_want; go_big_quiet_op; go_big_quiet_on; refine wpQuiet_nil ?_)
     refine mix_nil ?_
     go_wp2_with fail
     go_roundw
     case rel =>
      refine ⟨k + 1, by omega, by go_num, ⟨?_⟩, ⟨hB2⟩⟩
      rw [List.take_succ_eq_append_getElem hlt, List.take_succ_eq_append_getElem hlt2, HK1.out, HE.out]
     case measure => simp [intOf]; omega
   ·obtain rfl : k = l.length := by omega
    go_wp2_with fail
    go_ret
    have h1 := HK1.out
    rw [List.take_length, HL.out, List.take_length] at h1
    exact ⟨by rw [eqv_iff.2 h1]; rfl, HB.out⟩
 ·have hd : ((l.length : Int) != l2.length) = true := by simp; omega
  have HN := Hd.mk (eqv_len hlen)
  go_wp2
  go_ret
  exact ⟨by rw [HN.out]; rfl, Below.refl _ _⟩
set_option maxRecDepth 100000 in
theorem laws_eqJson_of {m : Nat} (ih : EqJ m) (x y : J) (cs cs2 : List Value) (w : World) (hk : (tJ (m + 1)).K w x cs) (hk2 : (tJ (m + 1)).K w y cs2) :
  Calls Tryd.prog 28 #[.agg cs.toArray, .agg cs2.toArray] w fun e w' => e = .returned (.bool (eqv x y)) ∧ Below w.heap.size w w' := by
 obtain ⟨A1, c1, A2, c2, rfl, hs, ⟨hc1, hr1⟩, hc2, hr2⟩ := tJ_K.1 hk
 obtain ⟨Ab1, cb1, Ab2, cb2, rfl, hsb, ⟨hcb1, hrb1⟩, hcb2, hrb2⟩ := tJ_K.1 hk2
 have HR1 := Hd.mk hr1; clear hr1
 have HRb1 := Hd.mk hrb1; clear hrb1
 have HR2 := Hd.mk hr2; clear hr2
 have HRb2 := Hd.mk hrb2; clear hrb2
 clear hk hk2
 go_enter Tryd.func28, Tryd.ntmps28
 have hB : Below w.heap.size w ((w.alloc (Obj.cells #[.int .i64 x.kind, .int .i64 x.n, .string x.s, .slice A1 x.list.length c1, .slice A2 x.names.length c2] 43)).alloc (Obj.cells #[.int .i64 y.kind, .int .i64 y.n, .string y.s, .slice Ab1 y.list.length cb1, .slice Ab2 y.names.length cb2] 43)) := below_alloc (below_alloc (Below.refl _ _) _) _
 have b0 : Blk ((w.alloc (Obj.cells #[.int .i64 x.kind, .int .i64 x.n, .string x.s, .slice A1 x.list.length c1, .slice A2 x.names.length c2] 43)).alloc (Obj.cells #[.int .i64 y.kind, .int .i64 y.n, .string y.s, .slice Ab1 y.list.length cb1, .slice Ab2 y.names.length cb2] 43)) w.heap.size #[.int .i64 x.kind, .int .i64 x.n, .string x.s, .slice A1 x.list.length c1, .slice A2 x.names.length c2] 43 := (Blk.new w _ _).alloc _
 have b1 : Blk ((w.alloc (Obj.cells #[.int .i64 x.kind, .int .i64 x.n, .string x.s, .slice A1 x.list.length c1, .slice A2 x.names.length c2] 43)).alloc (Obj.cells #[.int .i64 y.kind, .int .i64 y.n, .string y.s, .slice Ab1 y.list.length cb1, .slice Ab2 y.names.length cb2] 43)) (w.heap.size + 1) #[.int .i64 y.kind, .int .i64 y.n, .string y.s, .slice Ab1 y.list.length cb1, .slice Ab2 y.names.length cb2] 43 := by simpa using Blk.new (w.alloc _) _ _
 cases hb0 : (x.kind != y.kind)
 case true =>
  have HN := Hd.mk (eqv_no (a := x) (b := y) (fun h => by rw [h] at hb0; simp at hb0))
  go_wp2_with fail
  go_ret
  exact ⟨by rw [HN.out]; rfl, by exact hB⟩
 cases hb1 : (x.n != y.n)
 case true =>
  have HN := Hd.mk (eqv_no (a := x) (b := y) (fun h => by rw [h] at hb1; simp at hb1))
  go_wp2_with fail
  go_ret
  exact ⟨by rw [HN.out]; rfl, by exact hB⟩
 cases hb2 : (x.s.toList == y.s.toList)
 case false =>
  have HN := Hd.mk (eqv_no (a := x) (b := y) (fun h => by rw [h] at hb2; simp at hb2))
  go_wp2_with fail
  go_ret
  exact ⟨by rw [HN.out]; rfl, by exact hB⟩
 go_wp2_with fail
 apply calls_gen; intro W0 hW
 replace b0 : Blk W0 w.heap.size #[.int .i64 x.kind, .int .i64 x.n, .string x.s, .slice A1 x.list.length c1, .slice A2 x.names.length c2] 43 := by rw [hW]; exact b0
 replace b1 : Blk W0 (w.heap.size + 1) #[.int .i64 y.kind, .int .i64 y.n, .string y.s, .slice Ab1 y.list.length cb1, .slice Ab2 y.names.length cb2] 43 := by rw [hW]; exact b1
 replace hB : Below w.heap.size w W0 := by rw [hW]; exact hB
 clear hW
 have p0 : W0.cell? ⟨w.heap.size, 0, none⟩ = some (.int .i64 x.kind) := b0.cell 0 rfl
 have q0 : W0.cell? ⟨w.heap.size + 1, 0, none⟩ = some (.int .i64 y.kind) := b1.cell 0 rfl
 have p1 : W0.cell? ⟨w.heap.size, 1, none⟩ = some (.int .i64 x.n) := b0.cell 1 rfl
 have q1 : W0.cell? ⟨w.heap.size + 1, 1, none⟩ = some (.int .i64 y.n) := b1.cell 1 rfl
 have p2 : W0.cell? ⟨w.heap.size, 2, none⟩ = some (.string x.s) := b0.cell 2 rfl
 have q2 : W0.cell? ⟨w.heap.size + 1, 2, none⟩ = some (.string y.s) := b1.cell 2 rfl
 have p3 : W0.cell? ⟨w.heap.size, 3, none⟩ = some (.slice A1 x.list.length c1) := b0.cell 3 rfl
 have q3 : W0.cell? ⟨w.heap.size + 1, 3, none⟩ = some (.slice Ab1 y.list.length cb1) := b1.cell 3 rfl
 have p4 : W0.cell? ⟨w.heap.size, 4, none⟩ = some (.slice A2 x.names.length c2) := b0.cell 4 rfl
 have q4 : W0.cell? ⟨w.heap.size + 1, 4, none⟩ = some (.slice Ab2 y.names.length cb2) := b1.cell 4 rfl
 clear b0 b1
 refine (laws_eqJsonS_of ih _ _ _ _ x.list y.list _ (C_below HR1.out hB) (C_below HRb1.out hB)).mono ?_
 rintro e w4 ⟨rfl, hB1⟩
 replace p0 := cell_below hB1 p0
 replace q0 := cell_below hB1 q0
 replace p1 := cell_below hB1 p1
 replace q1 := cell_below hB1 q1
 replace p2 := cell_below hB1 p2
 replace q2 := cell_below hB1 q2
 replace p3 := cell_below hB1 p3
 replace q3 := cell_below hB1 q3
 replace p4 := cell_below hB1 p4
 replace q4 := cell_below hB1 q4
 replace hB := below_then hB hB1
 clear hB1
 cases hb3 : eqv x.list y.list
 case false =>
  have HN := Hd.mk (eqv_no (a := x) (b := y) (fun h => by rw [h, eqv_self] at hb3; cases hb3))
  go_wp2_with fail
  go_ret
  exact ⟨by rw [HN.out]; rfl, hB⟩
 go_wp2_with fail
 refine (laws_eqStringS _ _ _ _ x.names y.names _ (C_below HR2.out hB) (C_below HRb2.out hB)).mono ?_
 rintro e w5 ⟨rfl, hB1⟩
 replace p0 := cell_below hB1 p0
 replace q0 := cell_below hB1 q0
 replace p1 := cell_below hB1 p1
 replace q1 := cell_below hB1 q1
 replace p2 := cell_below hB1 p2
 replace q2 := cell_below hB1 q2
 replace p3 := cell_below hB1 p3
 replace q3 := cell_below hB1 q3
 replace p4 := cell_below hB1 p4
 replace q4 := cell_below hB1 q4
 replace hB := below_then hB hB1
 clear hB1
 cases hb4 : eqv x.names y.names
 case false =>
  have HN := Hd.mk (eqv_no (a := x) (b := y) (fun h => by rw [h, eqv_self] at hb4; cases hb4))
  go_wp2_with fail
  go_ret
  exact ⟨by rw [HN.out]; rfl, hB⟩
 have HE := Hd.mk (eqv_iff.2 (show x = y from by
  have e0 : x.kind = y.kind := by simpa using hb0
  have e1 : x.n = y.n := by simpa using hb1
  have e2 : x.s = y.s := bytes_eq.1 hb2
  have e3 : x.list = y.list := eqv_iff.1 hb3
  have e4 : x.names = y.names := eqv_iff.1 hb4
  cases x; cases y
  exact J.mk.injEq .. ▸ ⟨e0, e1, e2, e3, e4⟩))
 go_wp2_with fail
 go_ret
 exact ⟨by rw [HE.out]; rfl, by exact hB⟩
theorem eqJ_all : ∀ m, EqJ m
 | 0 => fun _ _ _ _ _ hk => hk.elim
 | m + 1 => fun x y cs cs2 w hk hk2 => laws_eqJson_of (eqJ_all m) x y cs cs2 w hk hk2
theorem laws_eqJson {m : Nat} (x y : J) (cs cs2 : List Value) (w : World) (hk : (tJ (m + 1)).K w x cs) (hk2 : (tJ (m + 1)).K w y cs2) :
  Calls Tryd.prog 28 #[.agg cs.toArray, .agg cs2.toArray] w fun e w' => e = .returned (.bool (eqv x y)) ∧ Below w.heap.size w w' := eqJ_all (m + 1) x y cs cs2 w hk hk2
set_option maxRecDepth 100000 in
theorem laws_eqOp {m : Nat} (x y : JOp) (cs cs2 : List Value) (w : World) (hk : (tOp (m + 1)).K w x cs) (hk2 : (tOp (m + 1)).K w y cs2) :
  Calls Tryd.prog 27 #[.agg cs.toArray, .agg cs2.toArray] w fun e w' => e = .returned (.bool (eqv x y)) ∧ Below w.heap.size w w' := by
 obtain ⟨A1, c1, _, rfl, ⟨hc1, hr1⟩, hj⟩ := tOp_K.1 hk
 obtain ⟨A2, c2, A3, c3, rfl, hs, ⟨hc2, hr2⟩, hc3, hr3⟩ := tJ_K.1 hj
 obtain ⟨Ab1, cb1, _, rfl, ⟨hcb1, hrb1⟩, hjb⟩ := tOp_K.1 hk2
 obtain ⟨Ab2, cb2, Ab3, cb3, rfl, hsb, ⟨hcb2, hrb2⟩, hcb3, hrb3⟩ := tJ_K.1 hjb
 have HR1 := Hd.mk hr1; clear hr1
 have HRb1 := Hd.mk hrb1; clear hrb1
 have HR2 := Hd.mk hr2; clear hr2
 have HRb2 := Hd.mk hrb2; clear hrb2
 have HR3 := Hd.mk hr3; clear hr3
 have HRb3 := Hd.mk hrb3; clear hrb3
 clear hk hk2 hj hjb
 go_enter Tryd.func27, Tryd.ntmps27
 have hB : Below w.heap.size w ((w.alloc (Obj.cells #[.int .i64 x.kind, .slice A1 x.way.length c1, .int .i64 x.value.kind, .int .i64 x.value.n, .string x.value.s, .slice A2 x.value.list.length c2, .slice A3 x.value.names.length c3] 53)).alloc (Obj.cells #[.int .i64 y.kind, .slice Ab1 y.way.length cb1, .int .i64 y.value.kind, .int .i64 y.value.n, .string y.value.s, .slice Ab2 y.value.list.length cb2, .slice Ab3 y.value.names.length cb3] 53)) := below_alloc (below_alloc (Below.refl _ _) _) _
 have b0 : Blk ((w.alloc (Obj.cells #[.int .i64 x.kind, .slice A1 x.way.length c1, .int .i64 x.value.kind, .int .i64 x.value.n, .string x.value.s, .slice A2 x.value.list.length c2, .slice A3 x.value.names.length c3] 53)).alloc (Obj.cells #[.int .i64 y.kind, .slice Ab1 y.way.length cb1, .int .i64 y.value.kind, .int .i64 y.value.n, .string y.value.s, .slice Ab2 y.value.list.length cb2, .slice Ab3 y.value.names.length cb3] 53)) w.heap.size #[.int .i64 x.kind, .slice A1 x.way.length c1, .int .i64 x.value.kind, .int .i64 x.value.n, .string x.value.s, .slice A2 x.value.list.length c2, .slice A3 x.value.names.length c3] 53 := (Blk.new w _ _).alloc _
 have b1 : Blk ((w.alloc (Obj.cells #[.int .i64 x.kind, .slice A1 x.way.length c1, .int .i64 x.value.kind, .int .i64 x.value.n, .string x.value.s, .slice A2 x.value.list.length c2, .slice A3 x.value.names.length c3] 53)).alloc (Obj.cells #[.int .i64 y.kind, .slice Ab1 y.way.length cb1, .int .i64 y.value.kind, .int .i64 y.value.n, .string y.value.s, .slice Ab2 y.value.list.length cb2, .slice Ab3 y.value.names.length cb3] 53)) (w.heap.size + 1) #[.int .i64 y.kind, .slice Ab1 y.way.length cb1, .int .i64 y.value.kind, .int .i64 y.value.n, .string y.value.s, .slice Ab2 y.value.list.length cb2, .slice Ab3 y.value.names.length cb3] 53 := by simpa using Blk.new (w.alloc _) _ _
 cases hb0 : (x.kind != y.kind)
 case true =>
  have HN := Hd.mk (eqv_no (a := x) (b := y) (fun h => by rw [h] at hb0; simp at hb0))
  go_wp2_with fail
  go_ret
  exact ⟨by rw [HN.out]; rfl, by exact hB⟩
 go_wp2_with fail
 apply calls_gen; intro W0 hW
 replace b0 : Blk W0 w.heap.size #[.int .i64 x.kind, .slice A1 x.way.length c1, .int .i64 x.value.kind, .int .i64 x.value.n, .string x.value.s, .slice A2 x.value.list.length c2, .slice A3 x.value.names.length c3] 53 := by rw [hW]; exact b0
 replace b1 : Blk W0 (w.heap.size + 1) #[.int .i64 y.kind, .slice Ab1 y.way.length cb1, .int .i64 y.value.kind, .int .i64 y.value.n, .string y.value.s, .slice Ab2 y.value.list.length cb2, .slice Ab3 y.value.names.length cb3] 53 := by rw [hW]; exact b1
 replace hB : Below w.heap.size w W0 := by rw [hW]; exact hB
 clear hW
 have p0 : W0.cell? ⟨w.heap.size, 0, none⟩ = some (.int .i64 x.kind) := b0.cell 0 rfl
 have q0 : W0.cell? ⟨w.heap.size + 1, 0, none⟩ = some (.int .i64 y.kind) := b1.cell 0 rfl
 have p1 : W0.cell? ⟨w.heap.size, 1, none⟩ = some (.slice A1 x.way.length c1) := b0.cell 1 rfl
 have q1 : W0.cell? ⟨w.heap.size + 1, 1, none⟩ = some (.slice Ab1 y.way.length cb1) := b1.cell 1 rfl
 have p2 : W0.cell? ⟨w.heap.size, 2, none⟩ = some (.int .i64 x.value.kind) := b0.cell 2 rfl
 have q2 : W0.cell? ⟨w.heap.size + 1, 2, none⟩ = some (.int .i64 y.value.kind) := b1.cell 2 rfl
 have p3 : W0.cell? ⟨w.heap.size, 3, none⟩ = some (.int .i64 x.value.n) := b0.cell 3 rfl
 have q3 : W0.cell? ⟨w.heap.size + 1, 3, none⟩ = some (.int .i64 y.value.n) := b1.cell 3 rfl
 have p4 : W0.cell? ⟨w.heap.size, 4, none⟩ = some (.string x.value.s) := b0.cell 4 rfl
 have q4 : W0.cell? ⟨w.heap.size + 1, 4, none⟩ = some (.string y.value.s) := b1.cell 4 rfl
 have p5 : W0.cell? ⟨w.heap.size, 5, none⟩ = some (.slice A2 x.value.list.length c2) := b0.cell 5 rfl
 have q5 : W0.cell? ⟨w.heap.size + 1, 5, none⟩ = some (.slice Ab2 y.value.list.length cb2) := b1.cell 5 rfl
 have p6 : W0.cell? ⟨w.heap.size, 6, none⟩ = some (.slice A3 x.value.names.length c3) := b0.cell 6 rfl
 have q6 : W0.cell? ⟨w.heap.size + 1, 6, none⟩ = some (.slice Ab3 y.value.names.length cb3) := b1.cell 6 rfl
 clear b0 b1
 refine (laws_eqStringS _ _ _ _ x.way y.way _ (C_below HR1.out hB) (C_below HRb1.out hB)).mono ?_
 rintro e w2 ⟨rfl, hB1⟩
 replace p0 := cell_below hB1 p0
 replace q0 := cell_below hB1 q0
 replace p1 := cell_below hB1 p1
 replace q1 := cell_below hB1 q1
 replace p2 := cell_below hB1 p2
 replace q2 := cell_below hB1 q2
 replace p3 := cell_below hB1 p3
 replace q3 := cell_below hB1 q3
 replace p4 := cell_below hB1 p4
 replace q4 := cell_below hB1 q4
 replace p5 := cell_below hB1 p5
 replace q5 := cell_below hB1 q5
 replace p6 := cell_below hB1 p6
 replace q6 := cell_below hB1 q6
 replace hB := below_then hB hB1
 clear hB1
 cases hb1 : eqv x.way y.way
 case false =>
  have HN := Hd.mk (eqv_no (a := x) (b := y) (fun h => by rw [h, eqv_self] at hb1; cases hb1))
  go_wp2_with fail
  go_ret
  exact ⟨by rw [HN.out]; rfl, hB⟩
 go_wp2_with fail
 refine (laws_eqJson x.value y.value _ _ _ (tJ_K.2 ⟨_, _, _, _, rfl, hs, ⟨hc2, (C_below HR2.out hB)⟩, hc3, (C_below HR3.out hB)⟩) (tJ_K.2 ⟨_, _, _, _, rfl, hsb, ⟨hcb2, (C_below HRb2.out hB)⟩, hcb3, (C_below HRb3.out hB)⟩)).mono ?_
 rintro e w3 ⟨rfl, hB1⟩
 replace p0 := cell_below hB1 p0
 replace q0 := cell_below hB1 q0
 replace p1 := cell_below hB1 p1
 replace q1 := cell_below hB1 q1
 replace p2 := cell_below hB1 p2
 replace q2 := cell_below hB1 q2
 replace p3 := cell_below hB1 p3
 replace q3 := cell_below hB1 q3
 replace p4 := cell_below hB1 p4
 replace q4 := cell_below hB1 q4
 replace p5 := cell_below hB1 p5
 replace q5 := cell_below hB1 q5
 replace p6 := cell_below hB1 p6
 replace q6 := cell_below hB1 q6
 replace hB := below_then hB hB1
 clear hB1
 cases hb2 : eqv x.value y.value
 case false =>
  have HN := Hd.mk (eqv_no (a := x) (b := y) (fun h => by rw [h, eqv_self] at hb2; cases hb2))
  go_wp2_with fail
  go_ret
  exact ⟨by rw [HN.out]; rfl, hB⟩
 have HE := Hd.mk (eqv_iff.2 (show x = y from by
  have e0 : x.kind = y.kind := by simpa using hb0
  have e1 : x.way = y.way := eqv_iff.1 hb1
  have e2 : x.value = y.value := eqv_iff.1 hb2
  cases x; cases y
  exact JOp.mk.injEq .. ▸ ⟨e0, e1, e2⟩))
 go_wp2_with fail
 go_ret
 exact ⟨by rw [HE.out]; rfl, by exact hB⟩
set_option maxRecDepth 100000 in
theorem laws_eqOpS {m : Nat} (A A2 : Option Addr) (c c2 : Nat) (l l2 : List JOp) (w : World) (hr : (tOp (m + 1)).C w A l) (hr2 : (tOp (m + 1)).C w A2 l2) :
  Calls Tryd.prog 9 #[.slice A l.length c, .slice A2 l2.length c2] w fun e w' => e = .returned (.bool (eqv l l2)) ∧ Below w.heap.size w w' := by
 have hm := hr.1
 have hm2 := hr2.1
 go_enter Tryd.func9, Tryd.ntmps9
 by_cases hlen : l.length = l2.length
 ·have hd : ((l.length : Int) != l2.length) = false := by simp [hlen]
  have HL := Hd.mk hlen
  have HC := Hd.mk hr
  have HC2 := Hd.mk hr2
  clear hr hr2 hlen
  go_wp2
  go_loopw [5] (fun i wr => ∃ k : Nat, k ≤ l.length ∧ i = .int .i64 k ∧ Hd (l.take k = l2.take k) ∧ Hd (Below w.heap.size w wr)) (fun i _ => l.length - (intOf i).toNat)
  case atStart => exact ⟨0, Nat.zero_le _, rfl, ⟨rfl⟩, ⟨Below.refl _ _⟩⟩
  case round =>
   obtain ⟨k, hk, rfl, HK1, HB⟩ := hrel
   by_cases hlt : k < l.length
   ·have hlt2 : k < l2.length := by have := HL.out; omega
    obtain ⟨ad, cs0, rfl, hK0, e0, e1⟩ := C_at HC.out HB.out k hlt
    obtain ⟨A1, c1, _, rfl, ⟨hc1, hr1⟩, hj⟩ := tOp_K.1 hK0
    obtain ⟨A2, c2, A3, c3, rfl, hs, ⟨hc2, hr2⟩, hc3, hr3⟩ := tJ_K.1 hj
    have x0 : wr.cell? (ad.add (k * 7)) = some _ := e0 _ rfl
    have x1 : wr.cell? ⟨(ad.add (k * 7)).block, (ad.add (k * 7)).off + 1, none⟩ = some _ := e1 0 _ rfl
    have x2 : wr.cell? ⟨(ad.add (k * 7)).block, (ad.add (k * 7)).off + 2, none⟩ = some _ := e1 1 _ rfl
    have x3 : wr.cell? ⟨(ad.add (k * 7)).block, (ad.add (k * 7)).off + 3, none⟩ = some _ := e1 2 _ rfl
    have x4 : wr.cell? ⟨(ad.add (k * 7)).block, (ad.add (k * 7)).off + 4, none⟩ = some _ := e1 3 _ rfl
    have x5 : wr.cell? ⟨(ad.add (k * 7)).block, (ad.add (k * 7)).off + 5, none⟩ = some _ := e1 4 _ rfl
    have x6 : wr.cell? ⟨(ad.add (k * 7)).block, (ad.add (k * 7)).off + 6, none⟩ = some _ := e1 5 _ rfl
    have HK := Hd.mk hK0
    clear hK0 e0 e1
    clear hr1 hr2 hr3 hj
    obtain ⟨adb, csb0, rfl, hKb0, e0, e1⟩ := C_at HC2.out HB.out k hlt2
    obtain ⟨Ab1, cb1, _, rfl, ⟨hcb1, hrb1⟩, hjb⟩ := tOp_K.1 hKb0
    obtain ⟨Ab2, cb2, Ab3, cb3, rfl, hsb, ⟨hcb2, hrb2⟩, hcb3, hrb3⟩ := tJ_K.1 hjb
    have xb0 : wr.cell? (adb.add (k * 7)) = some _ := e0 _ rfl
    have xb1 : wr.cell? ⟨(adb.add (k * 7)).block, (adb.add (k * 7)).off + 1, none⟩ = some _ := e1 0 _ rfl
    have xb2 : wr.cell? ⟨(adb.add (k * 7)).block, (adb.add (k * 7)).off + 2, none⟩ = some _ := e1 1 _ rfl
    have xb3 : wr.cell? ⟨(adb.add (k * 7)).block, (adb.add (k * 7)).off + 3, none⟩ = some _ := e1 2 _ rfl
    have xb4 : wr.cell? ⟨(adb.add (k * 7)).block, (adb.add (k * 7)).off + 4, none⟩ = some _ := e1 3 _ rfl
    have xb5 : wr.cell? ⟨(adb.add (k * 7)).block, (adb.add (k * 7)).off + 5, none⟩ = some _ := e1 4 _ rfl
    have xb6 : wr.cell? ⟨(adb.add (k * 7)).block, (adb.add (k * 7)).off + 6, none⟩ = some _ := e1 5 _ rfl
    have HKb := Hd.mk hKb0
    clear hKb0 e0 e1
    clear hrb1 hrb2 hrb3 hjb
    go_wp2_with fail
    have y0 := cell_regrown x0
    have yb0 := cell_regrown xb0
    have y1 := cell_regrown x1
    have yb1 := cell_regrown xb1
    have y2 := cell_regrown x2
    have yb2 := cell_regrown xb2
    have y3 := cell_regrown x3
    have yb3 := cell_regrown xb3
    have y4 := cell_regrown x4
    have yb4 := cell_regrown xb4
    have y5 := cell_regrown x5
    have yb5 := cell_regrown xb5
    have y6 := cell_regrown x6
    have yb6 := cell_regrown xb6
    refine region_mix [(true, 0), (true, 1), (true, 2), (true, 3), (true, 4), (true, 5), (true, 6), (true, 7), (false, 8), (true, 9)] (by kernel_rfl) (by kernel_rfl) (fun _ _ _ _ _ h => h) ?_
    repeat (refine mix_q rfl ?_; go_big_quiet_want; go_big_quiet_op; go_big_quiet_on; refine wpQuiet_nil ?_)
    refine mix_b rfl ?_ (by rfl)
    go_wp2_with fail
    refine (laws_eqOp l[k] l2[k] _ _ _ (Ty.K_below _ (below_drew (Below.refl _ _)) HK.out) (Ty.K_below _ (below_drew (Below.refl _ _)) HKb.out)).mono ?_
    rintro e w1 ⟨rfl, hB1⟩
    have hW1 := Hd.mk (below_then (below_drew (Below.refl wr.heap.size wr)) hB1)
    have hB2 := below_then HB.out hW1.out
    clear hB1
    cases hb : eqv l[k] l2[k]
    ·have HN := Hd.mk (eqv_at k hlt hlt2 (fun h => by rw [h, eqv_self] at hb; cases hb))
     go_wp2_with fail
     refine ⟨cls_below hW1.out, ?_⟩
     repeat (refine mix_q rfl ?_; go_big_quiet_want; go_big_quiet_op; go_big_quiet_on; refine wpQuiet_nil ?_)
     refine mix_nil ?_
     go_wp2_with fail
     go_ret
     exact ⟨by rw [HN.out]; rfl, hB2⟩
    ·have HE := Hd.mk (eqv_iff.1 hb)
     go_wp2_with fail
     refine ⟨cls_below hW1.out, ?_⟩
     repeat (refine mix_q rfl ?_; go_big_quiet_want; go_big_quiet_op; go_big_quiet_on; refine wpQuiet_nil ?_)
     refine mix_nil ?_
     go_wp2_with fail
     go_roundw
     case rel =>
      refine ⟨k + 1, by omega, by go_num, ⟨?_⟩, ⟨hB2⟩⟩
      rw [List.take_succ_eq_append_getElem hlt, List.take_succ_eq_append_getElem hlt2, HK1.out, HE.out]
     case measure => simp [intOf]; omega
   ·obtain rfl : k = l.length := by omega
    go_wp2_with fail
    go_ret
    have h1 := HK1.out
    rw [List.take_length, HL.out, List.take_length] at h1
    exact ⟨by rw [eqv_iff.2 h1]; rfl, HB.out⟩
 ·have hd : ((l.length : Int) != l2.length) = true := by simp; omega
  have HN := Hd.mk (eqv_len hlen)
  go_wp2
  go_ret
  exact ⟨by rw [HN.out]; rfl, Below.refl _ _⟩
def dg (n : Nat) : ByteArray := if h : n = 0 then ByteArray.empty else dg (n / 10) ++ ⟨#[UInt8.ofNat (48 + n % 10)]⟩
termination_by n
decreasing_by omega
theorem dg_zero : dg 0 = ByteArray.empty := by rw [dg]; rfl
theorem dg_pos {n : Nat} (h : 0 < n) : dg n = dg (n / 10) ++ ⟨#[UInt8.ofNat (48 + n % 10)]⟩ := by
  rw [dg]
  exact dif_neg (by omega)
theorem dg_le : ∀ n : Nat, (dg n).size ≤ n := by
  intro n
  induction n using Nat.strongRecOn with
  | _ n ih =>
    rcases Nat.eq_zero_or_pos n with rfl | h
    · rw [dg_zero]; exact Nat.le_refl _
    · rw [dg_pos h, ByteArray.size_append]
      have := ih (n / 10) (by omega)
      show (dg (n / 10)).size + 1 ≤ n
      omega
def markText (k : Int) : ByteArray := if k ≤ 0 then ⟨#[109, 48]⟩ else ⟨#[109]⟩ ++ dg k.toNat
theorem markText_le (k : Int) (h0 : 0 ≤ k) (h1 : k + 1 ≤ 4611686018427387904) : (markText k).size ≤ 4611686018427387906 := by
  unfold markText
  split
  · show 2 ≤ _; omega
  · rw [ByteArray.size_append]
    have := dg_le k.toNat
    show 1 + _ ≤ _
    omega
def mkStr (k : Int) (_ : ByteArray) : ByteArray := markText k
def cnJ : Nat → J → Nat
  | 0, _ => 0
  | m + 1, j => 3 + bulkL (cnJ m) j.list + j.names.length
def mkJ : Nat → Int → J → J
  | 0, _, j => j
  | m + 1, k, j => J.mk k (k + 1) (markText (k + 1 + 1)) (markL (mkJ m) (cnJ m) (k + 1 + 1 + 1) j.list) (markL mkStr one (k + 1 + 1 + 1 + (bulkL (cnJ m) j.list : Int)) j.names)
def cnOp (m : Nat) (o : JOp) : Nat := 1 + o.way.length + cnJ m o.value
def mkOp (m : Nat) (k : Int) (o : JOp) : JOp := ⟨k, markL mkStr one (k + 1) o.way, mkJ m (k + 1 + (o.way.length : Int)) o.value⟩
theorem no_long (x y : ByteArray) (h : x.size + y.size ≤ 4611686018427387905) : ¬ ((x.size + y.size : Nat) : Int) > IntKind.i64.max := by
  show ¬ (9223372036854775807 : Int) < _
  omega
set_option maxRecDepth 100000 in
theorem laws_markText (k : Int) (w : World) (h0 : 0 ≤ k) (h1 : k + 1 ≤ 4611686018427387904) :
    Calls Tryd.prog 29 #[.int .i64 k] w fun e w' => e = .returned (.string (markText k)) ∧ Below w.heap.size w w' := by
  go_enter Tryd.func29, Tryd.ntmps29
  obtain ⟨K, rfl⟩ := Int.eq_ofNat_of_zero_le h0
  rcases Nat.eq_zero_or_pos K with rfl | hk
  · have HN := Hd.mk (show markText ((0 : Nat) : Int) = ⟨#[109, 48]⟩ by unfold markText; rw [if_pos (by omega)])
    go_wp2_with fail
    go_ret
    exact ⟨by rw [HN.out] <;> rfl, Below.refl _ _⟩
  · have HN := Hd.mk (show markText (K : Int) = ⟨#[109]⟩ ++ dg K by unfold markText; rw [if_neg (by omega), Int.toNat_natCast])
    have hk0 : (0 : Int) < (K : Int) := by omega
    have HH0 := Hd.mk h0; have HH1 := Hd.mk h1; have HHk := Hd.mk hk
    clear h0 h1 hk
    go_wp2_with fail
    go_loopw [0, 3] (fun k o wr => ∃ n : Nat, ∃ s : ByteArray, n ≤ K ∧ k = .int .i64 n ∧ o = .string s ∧ Hd (dg n ++ s = dg K) ∧ Hd (Below w.heap.size w wr)) (fun k _ _ => (intOf k).toNat)
    case atStart => exact ⟨K, _, Nat.le_refl _, rfl, rfl, ⟨ByteArray.append_empty⟩, ⟨Below.refl _ _⟩⟩
    case round =>
      obtain ⟨n, s, hn, rfl, rfl, HD, HB⟩ := hrel
      have hs1 : s.size ≤ 4611686018427387904 := by
        have h1 := congrArg ByteArray.size HD.out
        have h2 := dg_le K
        have h3 := HH1.out
        rw [ByteArray.size_append] at h1
        omega
      by_cases hlt : 0 < n
      · have hcv := run_convert_bytes_back (P := Tryd.prog) (wr.alloc (Obj.cells #[Value.int IntKind.u8 (48 + (n : Int) % 10)] 5)) 72 9 5 ⟨wr.heap.size, 0, none⟩ 1 [UInt8.ofNat (48 + n % 10)] (by rw [Tryd.underlying72]) (by rw [Tryd.underlying5]) (by rw [Tryd.underlying9])
          (fun j hj => by
            obtain rfl : j = 0 := by simpa using hj
            rw [add0, World.cell?_alloc_mark]
            have h1 : (UInt8.ofNat (48 + n % 10)).toNat = 48 + n % 10 := by rw [UInt8.toNat_ofNat']; omega
            simp [h1]; omega)
        have HV := Hd.mk hcv
        simp only [List.length_singleton] at hcv
        have hst := Hd.mk (show dg (n / 10) ++ (⟨#[UInt8.ofNat (48 + n % 10)]⟩ ++ s) = dg K by
          rw [← HD.out, dg_pos hlt, ByteArray.append_assoc])
        clear hcv
        have hcv := HV.out
        simp only [List.length_singleton] at hcv
        have HWr := Hd.mk (show wrap64 ((n : Int) / 10) = ((n / 10 : Nat) : Int) by unfold wrap64; have := HH1.out; omega)
        go_wp2_with (simp only [hcv])
        rw [HWr.out]
        go_roundw
        case rel =>
          refine ⟨n / 10, _, by omega, rfl, rfl, ⟨by have := hst.out; simpa using this⟩, ⟨below_alloc HB.out _⟩⟩
        case measure => simp [intOf]; omega
      · obtain rfl : n = 0 := by omega
        go_wp2_with fail
        go_ret
        have hd := HD.out
        rw [dg_zero, ByteArray.empty_append] at hd
        exact ⟨by rw [HN.out, ← hd] <;> rfl, HB.out⟩
set_option maxRecDepth 100000 in
theorem laws_markStringS {S : Nat → Prop} (v : Value) (l : List ByteArray) (k : Int) (w : World) (hR : str.R 9 w S v l) (h0 : 0 ≤ k) (h1 : k + bulkL one l ≤ 4611686018427387904) :
    Calls Tryd.prog 30 #[v, .int .i64 k] w fun e w' => e = .returned (.int .i64 (k + bulkL one l)) ∧ str.R 9 w' S v (markL mkStr one k l) ∧ Fr w w' S := by
  obtain ⟨A, c, rfl, hc, hC⟩ := R_C hR
  have hm := hC.1
  clear hC
  have HR := Hd.mk hR; clear hR
  have HB := Hd.mk h1; clear h1
  go_enter Tryd.func30, Tryd.ntmps30
  go_wp2_with fail
  go_loopw [1, 5] (fun v i wr => ∃ j : Nat, ∃ kk : Int, j ≤ l.length ∧ i = .int .i64 j ∧ v = .int .i64 kk ∧ Hd (kk = k + bulkL one (l.take j)) ∧ 0 ≤ kk ∧ Hd (str.R 9 wr S (.slice A l.length c) (midL mkStr one k l j)) ∧ Hd (Fr w wr S)) (fun _ i _ => l.length - (intOf i).toNat)
  case atStart => exact ⟨0, k, Nat.zero_le _, rfl, rfl, ⟨by simp [bulkL]⟩, h0, ⟨by rw [midL_zero]; exact HR.out⟩, ⟨Fr.refl _ _⟩⟩
  case round =>
    obtain ⟨j, kk, hj, rfl, rfl, HKK, hk0, HK, HF⟩ := hrel
    by_cases hlt : j < l.length
    · have hkk : kk + (one l[j] : Int) ≤ 4611686018427387904 := by
        have h1 := HKK.out; have h2 := HB.out; have h3 := bulkL_take one l j hlt; have h4 := bulkL_take_le one l (j + 1)
        omega
      obtain ⟨Si, cs, hH, hO⟩ := R_H HK.out (midL_at l k j hlt)
      obtain ⟨g, cap, hv, hcl, hcap, hg, hgl, hgS, hcell, hfz⟩ := H_cells hH (by decide)
      injection hv with hv1 hv2 hv3
      subst hv1; subst hv3; clear hv2
      have hSS := H_sub hH
      obtain ⟨rfl, hsz⟩ := hO
      have F0 := HF.out
      have hkx : kk + 1 ≤ 4611686018427387904 := by have := hkk; simp only [one] at this; omega
      clear hkk
      have hq0 : 0 ≤ kk := by omega
      have hu0 : kk + 1 ≤ 4611686018427387904 := by omega
      have HH : str.H 9 wr S (.slice (some ⟨g, 0, none⟩) l.length c) (midL mkStr one k l j) j Si [.string l[j]] := hH
      clear hH hcell hfz
      obtain ⟨hgl0, hcell, hfz⟩ := H_at HH
      have x0_0 : wr.cell? ⟨g, j, none⟩ = some (.string l[j]) := by simpa [show (str).sz = 1 from rfl] using hcell 0 _ rfl
      have z0_0 := hfz (j)
      clear hcell hfz
      have HH_ := Hd.mk HH; clear HH
      have FF_ := Hd.mk F0; clear F0
      go_wp2_with fail
      clear x0_0 z0_0 hgl0
      apply calls_gen; intro W0 hW
      have HH : str.H 9 W0 S (.slice (some ⟨g, 0, none⟩) l.length c) (midL mkStr one k l j) j Si [.string l[j]] := by rw [hW]; exact HH_.out
      have F0 : Fr w W0 S := by rw [hW]; exact FF_.out
      clear hW HH_ FF_
      refine (laws_markText (kk) W0 hq0 hu0).mono ?_
      rintro e w1 ⟨rfl, hX⟩
      replace HH := H_fr HH (Fr.of_below hX (fun _ => False)) (fun _ _ h _ => h.elim)
      replace F0 := F0.then_ (Fr.of_below hX (fun _ => False)) (fun _ h _ => h.elim)
      clear hX
      obtain ⟨hgl1, hcell, hfz⟩ := H_at HH
      have x1_0 : w1.cell? ⟨g, j, none⟩ = some (.string l[j]) := by simpa [show (str).sz = 1 from rfl] using hcell 0 _ rfl
      have z1_0 := hfz (j)
      clear hcell hfz
      have HH_ := Hd.mk HH; clear HH
      have FF_ := Hd.mk F0; clear F0
      go_wp2_with fail
      go_roundw
      case rel =>
        have HH := H_store HH_.out 0 (by decide) (.string (markText (kk))) rfl
        have F0 := FF_.out.setCell ⟨g, j, none⟩ (fun _ => hg) (.string (markText (kk)))
        refine ⟨j + 1, kk + 1, by omega, by go_num, by go_num, ⟨?_⟩, by omega, ⟨?_⟩, ⟨by simpa using F0⟩⟩
        · rw [bulkL_take one l j hlt, HKK.out]; simp only [one]; omega
        · rw [← midL_step l k j hlt, ← HKK.out]
          have HSZ : str.sz = 1 := rfl
          have HH := HH
          simp only [HSZ, Nat.mul_one, Nat.add_zero] at HH
          refine H_back (x' := mkStr kk l[j]) (T := Si) (by simpa [HSZ, mkStr] using HH) (⟨rfl, Nat.le_trans (markText_le kk hk0 (by omega)) (by omega)⟩) (fun _ h => .inl h) (fun _ h => h) hSS
      case measure => simp [intOf]; omega
    · obtain rfl : j = l.length := by omega
      go_wp2_with fail
      go_ret
      exact ⟨by rw [HKK.out, List.take_length] <;> rfl, by rw [← midL_end]; exact HK.out, HF.out⟩
set_option maxRecDepth 100000 in
theorem laws_heldStringS (A : Option Addr) (c : Nat) (xs l : List ByteArray) (k : Int) (w : World) (hr : str.C w A xs) (hx : xs = markL mkStr one k l) (h0 : 0 ≤ k) (h1 : k + bulkL one l ≤ 4611686018427387904) :
    Calls Tryd.prog 31 #[.slice A xs.length c, .int .i64 k] w fun e w' => e = .returned (.int .i64 (k + bulkL one l)) ∧ Below w.heap.size w w' := by
  have hm := hr.1
  have HC := Hd.mk hr; clear hr
  have HX := Hd.mk hx; clear hx
  have HB := Hd.mk h1; clear h1
  have HL := Hd.mk (show xs.length = l.length by rw [HX.out, markL_length])
  go_enter Tryd.func31, Tryd.ntmps31
  go_wp2_with fail
  go_loopw [1, 5] (fun v i wr => ∃ j : Nat, ∃ kk : Int, j ≤ xs.length ∧ i = .int .i64 j ∧ v = .int .i64 kk ∧ Hd (kk = k + bulkL one (l.take j)) ∧ 0 ≤ kk ∧ Hd (Below w.heap.size w wr)) (fun _ i _ => xs.length - (intOf i).toNat)
  case atStart => exact ⟨0, k, Nat.zero_le _, rfl, rfl, ⟨by simp [bulkL]⟩, h0, ⟨Below.refl _ _⟩⟩
  case round =>
    obtain ⟨j, kk, hj, rfl, rfl, HKK, hk0, HW⟩ := hrel
    by_cases hlt : j < xs.length
    · have hlt2 : j < l.length := by have := HL.out; omega
      have hkk : kk + (one l[j] : Int) ≤ 4611686018427387904 := by
        have h1 := HKK.out; have h2 := HB.out; have h3 := bulkL_take one l j hlt2; have h4 := bulkL_take_le one l (j + 1)
        omega
      have he : xs[j] = mkStr kk l[j] := by
        have h := markL_at (mk := mkStr) (cn := one) l k j hlt2
        rw [← HKK.out] at h
        rw [← h]
        simp only [HX.out]
      obtain ⟨ad, cs0, rfl, hK0, e0, e1⟩ := C_at HC.out HW.out j hlt
      rw [he] at hK0; clear he
      have hK1 : cs0 = [.string (markText kk)] := hK0.1
      subst hK1
      clear hK0
      have x0 : wr.cell? (ad.add j) = some (.string (markText kk)) := by simpa [show (str).sz = 1 from rfl, mkRows] using e0 _ rfl
      clear e0 e1
      have hkx : kk + 1 ≤ 4611686018427387904 := by have := hkk; simp only [one] at this; omega
      clear hkk
      have hq0 : 0 ≤ kk := by omega
      have hu0 : kk + 1 ≤ 4611686018427387904 := by omega
      have hqe : 0 ≤ kk + 1 := by omega
      have HE := HW.out
      have HE_ := Hd.mk HE; clear HE
      go_wp2_with fail
      have y_0 := cell_regrown x0
      refine region_mix [(true, 0), (true, 1), (true, 2), (true, 3), (true, 4), (false, 5), (true, 6)] (by kernel_rfl) (by kernel_rfl) (fun _ _ _ _ _ h => h) ?_
      repeat (refine mix_q rfl ?_; go_big_quiet_want; go_big_quiet_op; go_big_quiet_on; refine wpQuiet_nil ?_)
      refine mix_b rfl ?_ (by rfl)
      go_wp2_with fail
      clear y_0
      refine (laws_markText (kk) _ hq0 hu0).mono ?_
      rintro e w1 ⟨rfl, hX0⟩
      have hX := below_then (below_drew (Below.refl wr.heap.size wr)) hX0
      clear hX0
      replace x0 := cell_below hX x0
      have HE := below_then HE_.out hX
      have HX1 := Hd.mk hX
      have HE := Hd.mk HE
      clear hX HE_
      go_wp2_with fail
      refine ⟨cls_below HX1.out, ?_⟩
      repeat (refine mix_q rfl ?_; go_big_quiet_want; go_big_quiet_op; go_big_quiet_on; refine wpQuiet_nil ?_)
      refine mix_nil ?_
      have HE := HE.out
      clear HX1
      have HE_ := Hd.mk HE; clear HE
      go_wp2_with fail
      go_roundw
      case rel =>
        refine ⟨j + 1, kk + 1, by omega, by go_num, by go_num, ⟨?_⟩, by omega, ⟨HE_.out⟩⟩
        rw [bulkL_take one l j hlt2, HKK.out]; simp only [one]; omega
      case measure => simp [intOf]; omega
    · obtain rfl : j = xs.length := by omega
      go_wp2_with fail
      go_ret
      exact ⟨by rw [HKK.out, HL.out, List.take_length] <;> rfl, HW.out⟩
def MarkJS (m : Nat) : Prop := ∀ (S : Nat → Prop) (v : Value) (l : List J) (k : Int) (w : World) (hR : (tJ m).R 43 w S v l) (h0 : 0 ≤ k) (h1 : k + bulkL (cnJ m) l ≤ 4611686018427387904),
    Calls Tryd.prog 12 #[v, .int .i64 k] w fun e w' => e = .returned (.int .i64 (k + bulkL (cnJ m) l)) ∧ (tJ m).R 43 w' S v (markL (mkJ m) (cnJ m) k l) ∧ Fr w w' S
def HeldJS (m : Nat) : Prop := ∀ (A : Option Addr) (c : Nat) (xs l : List J) (k : Int) (w : World) (hr : (tJ m).C w A xs) (hx : xs = markL (mkJ m) (cnJ m) k l) (h0 : 0 ≤ k) (h1 : k + bulkL (cnJ m) l ≤ 4611686018427387904),
    Calls Tryd.prog 32 #[.slice A xs.length c, .int .i64 k] w fun e w' => e = .returned (.int .i64 (k + bulkL (cnJ m) l)) ∧ Below w.heap.size w w'
set_option maxRecDepth 100000 in
theorem laws_markJsonS_of (m : Nat) (ih : ∀ q : Nat, m = q + 1 → MarkJS q) : MarkJS m := by
  intro S v l k w hR h0 h1
  obtain ⟨A, c, rfl, hc, hC⟩ := R_C hR
  have hm := hC.1
  clear hC
  have HR := Hd.mk hR; clear hR
  have HB := Hd.mk h1; clear h1
  go_enter Tryd.func12, Tryd.ntmps12
  go_wp2_with fail
  go_loopw [1, 5] (fun v i wr => ∃ j : Nat, ∃ kk : Int, j ≤ l.length ∧ i = .int .i64 j ∧ v = .int .i64 kk ∧ Hd (kk = k + bulkL (cnJ m) (l.take j)) ∧ 0 ≤ kk ∧ Hd ((tJ m).R 43 wr S (.slice A l.length c) (midL (mkJ m) (cnJ m) k l j)) ∧ Hd (Fr w wr S)) (fun _ i _ => l.length - (intOf i).toNat)
  case atStart => exact ⟨0, k, Nat.zero_le _, rfl, rfl, ⟨by simp [bulkL]⟩, h0, ⟨by rw [midL_zero]; exact HR.out⟩, ⟨Fr.refl _ _⟩⟩
  case round =>
    obtain ⟨j, kk, hj, rfl, rfl, HKK, hk0, HK, HF⟩ := hrel
    by_cases hlt : j < l.length
    · have hkk : kk + ((cnJ m) l[j] : Int) ≤ 4611686018427387904 := by
        have h1 := HKK.out; have h2 := HB.out; have h3 := bulkL_take (cnJ m) l j hlt; have h4 := bulkL_take_le (cnJ m) l (j + 1)
        omega
      obtain ⟨Si, cs, hH, hO⟩ := R_H HK.out (midL_at l k j hlt)
      obtain ⟨g, cap, hv, hcl, hcap, hg, hgl, hgS, hcell, hfz⟩ := H_cells hH (by rw [tJ_sz]; omega)
      injection hv with hv1 hv2 hv3
      subst hv1; subst hv3; clear hv2
      have hSS := H_sub hH
      obtain ⟨m, rfl⟩ : ∃ m1 : Nat, m = m1 + 1 := by cases m with | zero => exact hO.elim | succ m => exact ⟨m, rfl⟩
      have hih := Hd.mk (ih m rfl); clear ih
      obtain ⟨v1, v2, T1, T2, rfl, hsz, p1, p2, t1, t2, d12⟩ := tJ_O.1 hO
      have np1 : ¬ T1 g := fun h => hgS (t1 g h)
      have np2 : ¬ T2 g := fun h => hgS (t2 g h)
      have F0 := HF.out
      have hkx : kk + 1 + 1 + 1 + (bulkL (cnJ m) l[j].list : Int) + (l[j].names.length : Int) ≤ 4611686018427387904 := by have := hkk; simp only [cnJ] at this; omega
      clear hkk
      have hq2 : 0 ≤ kk + 1 + 1 := by omega
      have hu2 : kk + 1 + 1 + 1 ≤ 4611686018427387904 := by omega
      have hq3 : 0 ≤ kk + 1 + 1 + 1 := by omega
      have hu3 : kk + 1 + 1 + 1 + (bulkL (cnJ m) l[j].list : Int) ≤ 4611686018427387904 := by omega
      have hq4 : 0 ≤ kk + 1 + 1 + 1 + (bulkL (cnJ m) l[j].list : Int) := by omega
      have hu4 : kk + 1 + 1 + 1 + (bulkL (cnJ m) l[j].list : Int) + (l[j].names.length : Int) ≤ 4611686018427387904 := by omega
      have HH : (tJ (m + 1)).H 43 wr S (.slice (some ⟨g, 0, none⟩) l.length c) (midL (mkJ (m + 1)) (cnJ (m + 1)) k l j) j Si [.int .i64 l[j].kind, .int .i64 l[j].n, .string l[j].s, v1, v2] := hH
      clear hH hcell hfz
      clear hO
      obtain ⟨hgl0, hcell, hfz⟩ := H_at HH
      have x0_0 : wr.cell? ⟨g, j * 5, none⟩ = some (.int .i64 l[j].kind) := hcell 0 _ rfl
      have z0_0 := hfz (j * 5)
      have x0_1 : wr.cell? ⟨g, j * 5 + 1, none⟩ = some (.int .i64 l[j].n) := hcell 1 _ rfl
      have z0_1 := hfz (j * 5 + 1)
      have x0_2 : wr.cell? ⟨g, j * 5 + 2, none⟩ = some (.string l[j].s) := hcell 2 _ rfl
      have z0_2 := hfz (j * 5 + 2)
      have x0_3 : wr.cell? ⟨g, j * 5 + 3, none⟩ = some (v1) := hcell 3 _ rfl
      have z0_3 := hfz (j * 5 + 3)
      have x0_4 : wr.cell? ⟨g, j * 5 + 4, none⟩ = some (v2) := hcell 4 _ rfl
      have z0_4 := hfz (j * 5 + 4)
      clear hcell hfz
      have HH_ := Hd.mk HH; clear HH
      have FF_ := Hd.mk F0; clear F0
      have p1_ := Hd.mk p1; clear p1
      have p2_ := Hd.mk p2; clear p2
      go_wp2_with fail
      clear x0_0 z0_0 x0_1 z0_1 x0_2 z0_2 x0_3 z0_3 x0_4 z0_4 hgl0
      apply calls_gen; intro W0 hW
      have HH : (tJ (m + 1)).H 43 W0 S (.slice (some ⟨g, 0, none⟩) l.length c) (midL (mkJ (m + 1)) (cnJ (m + 1)) k l j) j Si [.int .i64 (kk), .int .i64 (kk + 1), .string l[j].s, v1, v2] := by rw [hW]; exact H_store (H_store (HH_.out) 0 (by rw [tJ_sz]; omega) _ rfl) 1 (by rw [tJ_sz]; omega) _ rfl
      have F0 : Fr w W0 S := by rw [hW]; exact ((FF_.out).setCell _ (fun _ => hg) _).setCell _ (fun _ => hg) _
      have p1 : (tJ m).R 43 W0 T1 v1 l[j].list := by rw [hW]; exact R_setCell (R_setCell (p1_.out) np1 _) np1 _
      have p2 : str.R 9 W0 T2 v2 l[j].names := by rw [hW]; exact R_setCell (R_setCell (p2_.out) np2 _) np2 _
      clear hW HH_ FF_ p1_ p2_
      refine (laws_markText (kk + 1 + 1) W0 hq2 hu2).mono ?_
      rintro e w1 ⟨rfl, hX⟩
      replace HH := H_fr HH (Fr.of_below hX (fun _ => False)) (fun _ _ h _ => h.elim)
      replace F0 := F0.then_ (Fr.of_below hX (fun _ => False)) (fun _ h _ => h.elim)
      replace p1 := R_below p1 hX
      replace p2 := R_below p2 hX
      clear hX
      obtain ⟨hgl1, hcell, hfz⟩ := H_at HH
      have x1_0 : w1.cell? ⟨g, j * 5, none⟩ = some (.int .i64 (kk)) := hcell 0 _ rfl
      have z1_0 := hfz (j * 5)
      have x1_1 : w1.cell? ⟨g, j * 5 + 1, none⟩ = some (.int .i64 (kk + 1)) := hcell 1 _ rfl
      have z1_1 := hfz (j * 5 + 1)
      have x1_2 : w1.cell? ⟨g, j * 5 + 2, none⟩ = some (.string l[j].s) := hcell 2 _ rfl
      have z1_2 := hfz (j * 5 + 2)
      have x1_3 : w1.cell? ⟨g, j * 5 + 3, none⟩ = some (v1) := hcell 3 _ rfl
      have z1_3 := hfz (j * 5 + 3)
      have x1_4 : w1.cell? ⟨g, j * 5 + 4, none⟩ = some (v2) := hcell 4 _ rfl
      have z1_4 := hfz (j * 5 + 4)
      clear hcell hfz
      have HH_ := Hd.mk HH; clear HH
      have FF_ := Hd.mk F0; clear F0
      have p1_ := Hd.mk p1; clear p1
      have p2_ := Hd.mk p2; clear p2
      go_wp2_with fail
      clear x1_0 z1_0 x1_1 z1_1 x1_2 z1_2 x1_3 z1_3 x1_4 z1_4 hgl1
      apply calls_gen; intro W1 hW
      have HH : (tJ (m + 1)).H 43 W1 S (.slice (some ⟨g, 0, none⟩) l.length c) (midL (mkJ (m + 1)) (cnJ (m + 1)) k l j) j Si [.int .i64 (kk), .int .i64 (kk + 1), .string (markText (kk + 1 + 1)), v1, v2] := by rw [hW]; exact H_store (HH_.out) 2 (by rw [tJ_sz]; omega) _ rfl
      have F0 : Fr w W1 S := by rw [hW]; exact (FF_.out).setCell _ (fun _ => hg) _
      have p1 : (tJ m).R 43 W1 T1 v1 l[j].list := by rw [hW]; exact R_setCell (p1_.out) np1 _
      have p2 : str.R 9 W1 T2 v2 l[j].names := by rw [hW]; exact R_setCell (p2_.out) np2 _
      clear hW HH_ FF_ p1_ p2_
      refine (hih.out _ v1 _ (kk + 1 + 1 + 1) W1 p1 hq3 hu3).mono ?_
      rintro e w2 ⟨rfl, py, hX⟩
      replace HH := H_fr HH hX (fun k _ h _ => t1 k h)
      replace F0 := F0.then_ hX (fun k h _ => hSS k (t1 k h))
      clear p1; have p1 := py; clear py
      replace p2 := R_fr p2 hX (fun k a _ b => d12 k b a)
      clear hX
      obtain ⟨hgl2, hcell, hfz⟩ := H_at HH
      have x2_0 : w2.cell? ⟨g, j * 5, none⟩ = some (.int .i64 (kk)) := hcell 0 _ rfl
      have z2_0 := hfz (j * 5)
      have x2_1 : w2.cell? ⟨g, j * 5 + 1, none⟩ = some (.int .i64 (kk + 1)) := hcell 1 _ rfl
      have z2_1 := hfz (j * 5 + 1)
      have x2_2 : w2.cell? ⟨g, j * 5 + 2, none⟩ = some (.string (markText (kk + 1 + 1))) := hcell 2 _ rfl
      have z2_2 := hfz (j * 5 + 2)
      have x2_3 : w2.cell? ⟨g, j * 5 + 3, none⟩ = some (v1) := hcell 3 _ rfl
      have z2_3 := hfz (j * 5 + 3)
      have x2_4 : w2.cell? ⟨g, j * 5 + 4, none⟩ = some (v2) := hcell 4 _ rfl
      have z2_4 := hfz (j * 5 + 4)
      clear hcell hfz
      have HH_ := Hd.mk HH; clear HH
      have FF_ := Hd.mk F0; clear F0
      have p1_ := Hd.mk p1; clear p1
      have p2_ := Hd.mk p2; clear p2
      go_wp2_with fail
      clear x2_0 z2_0 x2_1 z2_1 x2_2 z2_2 x2_3 z2_3 x2_4 z2_4 hgl2
      apply calls_gen; intro W2 hW
      have HH : (tJ (m + 1)).H 43 W2 S (.slice (some ⟨g, 0, none⟩) l.length c) (midL (mkJ (m + 1)) (cnJ (m + 1)) k l j) j Si [.int .i64 (kk), .int .i64 (kk + 1), .string (markText (kk + 1 + 1)), v1, v2] := by rw [hW]; exact HH_.out
      have F0 : Fr w W2 S := by rw [hW]; exact FF_.out
      have p1 : (tJ m).R 43 W2 T1 v1 (markL (mkJ m) (cnJ m) (kk + 1 + 1 + 1) l[j].list) := by rw [hW]; exact p1_.out
      have p2 : str.R 9 W2 T2 v2 l[j].names := by rw [hW]; exact p2_.out
      clear hW HH_ FF_ p1_ p2_
      refine (laws_markStringS v2 _ (kk + 1 + 1 + 1 + (bulkL (cnJ m) l[j].list : Int)) W2 p2 hq4 (by rw [bulk_one]; exact hu4)).mono ?_
      rintro e w3 ⟨rfl, py, hX⟩
      rw [bulk_one]
      replace HH := H_fr HH hX (fun k _ h _ => t2 k h)
      replace F0 := F0.then_ hX (fun k h _ => hSS k (t2 k h))
      replace p1 := R_fr p1 hX (fun k a _ b => d12 k a b)
      clear p2; have p2 := py; clear py
      clear hX
      obtain ⟨hgl3, hcell, hfz⟩ := H_at HH
      have x3_0 : w3.cell? ⟨g, j * 5, none⟩ = some (.int .i64 (kk)) := hcell 0 _ rfl
      have z3_0 := hfz (j * 5)
      have x3_1 : w3.cell? ⟨g, j * 5 + 1, none⟩ = some (.int .i64 (kk + 1)) := hcell 1 _ rfl
      have z3_1 := hfz (j * 5 + 1)
      have x3_2 : w3.cell? ⟨g, j * 5 + 2, none⟩ = some (.string (markText (kk + 1 + 1))) := hcell 2 _ rfl
      have z3_2 := hfz (j * 5 + 2)
      have x3_3 : w3.cell? ⟨g, j * 5 + 3, none⟩ = some (v1) := hcell 3 _ rfl
      have z3_3 := hfz (j * 5 + 3)
      have x3_4 : w3.cell? ⟨g, j * 5 + 4, none⟩ = some (v2) := hcell 4 _ rfl
      have z3_4 := hfz (j * 5 + 4)
      clear hcell hfz
      have HH_ := Hd.mk HH; clear HH
      have FF_ := Hd.mk F0; clear F0
      have p1_ := Hd.mk p1; clear p1
      have p2_ := Hd.mk p2; clear p2
      go_wp2_with fail
      go_roundw
      case rel =>
        have HH := HH_.out
        have F0 := FF_.out
        have p1 := p1_.out
        have p2 := p2_.out
        refine ⟨j + 1, kk + 1 + 1 + 1 + (bulkL (cnJ m) l[j].list : Int) + (l[j].names.length : Int), by omega, by go_num, by go_num, ⟨?_⟩, by omega, ⟨?_⟩, ⟨by simpa using F0⟩⟩
        · rw [bulkL_take (cnJ (m + 1)) l j hlt, HKK.out]; simp only [cnJ]; omega
        · rw [← midL_step l k j hlt, ← HKK.out]
          exact H_back (x' := (mkJ (m + 1)) kk l[j]) (T := Si) HH (tJ_O.2 ⟨_, _, T1, T2, rfl, Nat.le_trans (markText_le _ hq2 hu2) (by omega), p1, p2, t1, t2, d12⟩) (fun _ h => .inl h) (fun _ h => h) hSS
      case measure => simp [intOf]; omega
    · obtain rfl : j = l.length := by omega
      go_wp2_with fail
      go_ret
      exact ⟨by rw [HKK.out, List.take_length] <;> rfl, by rw [← midL_end]; exact HK.out, HF.out⟩
set_option maxRecDepth 100000 in
theorem laws_heldJsonS_of (m : Nat) (ih : ∀ q : Nat, m = q + 1 → HeldJS q) : HeldJS m := by
  intro A c xs l k w hr hx h0 h1
  have hm := hr.1
  have HC := Hd.mk hr; clear hr
  have HX := Hd.mk hx; clear hx
  have HB := Hd.mk h1; clear h1
  have HL := Hd.mk (show xs.length = l.length by rw [HX.out, markL_length])
  go_enter Tryd.func32, Tryd.ntmps32
  go_wp2_with fail
  go_loopw [1, 5] (fun v i wr => ∃ j : Nat, ∃ kk : Int, j ≤ xs.length ∧ i = .int .i64 j ∧ v = .int .i64 kk ∧ Hd (kk = k + bulkL (cnJ m) (l.take j)) ∧ 0 ≤ kk ∧ Hd (Below w.heap.size w wr)) (fun _ i _ => xs.length - (intOf i).toNat)
  case atStart => exact ⟨0, k, Nat.zero_le _, rfl, rfl, ⟨by simp [bulkL]⟩, h0, ⟨Below.refl _ _⟩⟩
  case round =>
    obtain ⟨j, kk, hj, rfl, rfl, HKK, hk0, HW⟩ := hrel
    by_cases hlt : j < xs.length
    · have hlt2 : j < l.length := by have := HL.out; omega
      have hkk : kk + ((cnJ m) l[j] : Int) ≤ 4611686018427387904 := by
        have h1 := HKK.out; have h2 := HB.out; have h3 := bulkL_take (cnJ m) l j hlt2; have h4 := bulkL_take_le (cnJ m) l (j + 1)
        omega
      have he : xs[j] = (mkJ m) kk l[j] := by
        have h := markL_at (mk := (mkJ m)) (cn := (cnJ m)) l k j hlt2
        rw [← HKK.out] at h
        rw [← h]
        simp only [HX.out]
      obtain ⟨ad, cs0, rfl, hK0, e0, e1⟩ := C_at HC.out HW.out j hlt
      rw [he] at hK0; clear he
      obtain ⟨m, rfl⟩ : ∃ m1 : Nat, m = m1 + 1 := by cases m with | zero => exact hK0.elim | succ m => exact ⟨m, rfl⟩
      have hih := Hd.mk (ih m rfl); clear ih
      obtain ⟨A1, c1, A2, c2, rfl, hsz, ⟨hc1, r1⟩, hc2, r2⟩ := tJ_K.1 hK0
      clear hK0
      obtain ⟨y1, hy1⟩ : ∃ y, y = (markL (mkJ m) (cnJ m) (kk + 1 + 1 + 1) l[j].list) := ⟨_, rfl⟩
      obtain ⟨y2, hy2⟩ : ∃ y, y = (markL mkStr one (kk + 1 + 1 + 1 + (bulkL (cnJ m) l[j].list : Int)) l[j].names) := ⟨_, rfl⟩
      have x0 : wr.cell? (ad.add (j * 5)) = some (.int .i64 kk) := e0 _ rfl
      have x1 : wr.cell? ⟨(ad.add (j * 5)).block, (ad.add (j * 5)).off + 1, none⟩ = some (.int .i64 (kk + 1)) := e1 0 _ rfl
      have x2 : wr.cell? ⟨(ad.add (j * 5)).block, (ad.add (j * 5)).off + 2, none⟩ = some (.string (markText (kk + 1 + 1))) := e1 1 _ rfl
      have x3 : wr.cell? ⟨(ad.add (j * 5)).block, (ad.add (j * 5)).off + 3, none⟩ = some (.slice A1 (markL (mkJ m) (cnJ m) (kk + 1 + 1 + 1) l[j].list).length c1) := e1 2 _ rfl
      have x4 : wr.cell? ⟨(ad.add (j * 5)).block, (ad.add (j * 5)).off + 4, none⟩ = some (.slice A2 (markL mkStr one (kk + 1 + 1 + 1 + (bulkL (cnJ m) l[j].list : Int)) l[j].names).length c2) := e1 3 _ rfl
      rw [← hy1] at x3
      replace r1 : (tJ m).C wr A1 y1 := by rw [hy1]; exact r1
      have Q1 := Hd.mk r1; clear r1
      have Y1 := Hd.mk hy1; clear hy1
      rw [← hy2] at x4
      replace r2 : str.C wr A2 y2 := by rw [hy2]; exact r2
      have Q2 := Hd.mk r2; clear r2
      have Y2 := Hd.mk hy2; clear hy2
      clear e0 e1 hc1 hc2
      have hkx : kk + 1 + 1 + 1 + (bulkL (cnJ m) l[j].list : Int) + (l[j].names.length : Int) ≤ 4611686018427387904 := by have := hkk; simp only [cnJ] at this; omega
      clear hkk
      have hq0 : 0 ≤ kk := by omega
      have hq1 : 0 ≤ kk + 1 := by omega
      have hq2 : 0 ≤ kk + 1 + 1 := by omega
      have hu2 : kk + 1 + 1 + 1 ≤ 4611686018427387904 := by omega
      have hq3 : 0 ≤ kk + 1 + 1 + 1 := by omega
      have hu3 : kk + 1 + 1 + 1 + (bulkL (cnJ m) l[j].list : Int) ≤ 4611686018427387904 := by omega
      have hq4 : 0 ≤ kk + 1 + 1 + 1 + (bulkL (cnJ m) l[j].list : Int) := by omega
      have hu4 : kk + 1 + 1 + 1 + (bulkL (cnJ m) l[j].list : Int) + (l[j].names.length : Int) ≤ 4611686018427387904 := by omega
      have hqe : 0 ≤ kk + 1 + 1 + 1 + (bulkL (cnJ m) l[j].list : Int) + (l[j].names.length : Int) := by omega
      have HE := HW.out
      have HE_ := Hd.mk HE; clear HE
      go_wp2_with fail
      have y_0 := cell_regrown x0
      have y_1 := cell_regrown x1
      have y_2 := cell_regrown x2
      have y_3 := cell_regrown x3
      have y_4 := cell_regrown x4
      refine region_mix [(true, 0), (true, 1), (true, 2), (true, 3), (true, 4), (true, 5), (false, 6), (true, 7)] (by kernel_rfl) (by kernel_rfl) (fun _ _ _ _ _ h => h) ?_
      repeat (refine mix_q rfl ?_; go_big_quiet_want; go_big_quiet_op; go_big_quiet_on; refine wpQuiet_nil ?_)
      refine mix_b rfl ?_ (by rfl)
      go_wp2_with fail
      clear y_0 y_1 y_2 y_3 y_4
      refine (laws_markText (kk + 1 + 1) _ hq2 hu2).mono ?_
      rintro e w1 ⟨rfl, hX0⟩
      have hX := below_then (below_drew (Below.refl wr.heap.size wr)) hX0
      clear hX0
      replace x0 := cell_below hX x0
      replace x1 := cell_below hX x1
      replace x2 := cell_below hX x2
      replace x3 := cell_below hX x3
      replace x4 := cell_below hX x4
      have Q1 := Hd.mk (C_below Q1.out hX)
      have Q2 := Hd.mk (C_below Q2.out hX)
      have HE := below_then HE_.out hX
      have HX1 := Hd.mk hX
      have HE := Hd.mk HE
      clear hX HE_
      go_wp2_with fail
      refine ⟨cls_below HX1.out, ?_⟩
      repeat (refine mix_q rfl ?_; go_big_quiet_want; go_big_quiet_op; go_big_quiet_on; refine wpQuiet_nil ?_)
      refine mix_nil ?_
      have HE := HE.out
      clear HX1
      have HE_ := Hd.mk HE; clear HE
      go_wp2_with fail
      refine (hih.out _ _ _ l[j].list (kk + 1 + 1 + 1) _ (C_below Q1.out (Below.refl _ _)) Y1.out hq3 hu3).mono ?_
      rintro e w2 ⟨rfl, hX⟩
      replace x0 := cell_below hX x0
      replace x1 := cell_below hX x1
      replace x2 := cell_below hX x2
      replace x3 := cell_below hX x3
      replace x4 := cell_below hX x4
      have Q1 := Hd.mk (C_below Q1.out hX)
      have Q2 := Hd.mk (C_below Q2.out hX)
      have HE := below_then HE_.out hX
      clear hX HE_
      have HE_ := Hd.mk HE; clear HE
      go_wp2_with fail
      refine (laws_heldStringS _ _ _ l[j].names (kk + 1 + 1 + 1 + (bulkL (cnJ m) l[j].list : Int)) _ (C_below Q2.out (Below.refl _ _)) Y2.out hq4 (by rw [bulk_one]; exact hu4)).mono ?_
      rintro e w3 ⟨rfl, hX⟩
      rw [bulk_one]
      replace x0 := cell_below hX x0
      replace x1 := cell_below hX x1
      replace x2 := cell_below hX x2
      replace x3 := cell_below hX x3
      replace x4 := cell_below hX x4
      have Q1 := Hd.mk (C_below Q1.out hX)
      have Q2 := Hd.mk (C_below Q2.out hX)
      have HE := below_then HE_.out hX
      clear hX HE_
      have HE_ := Hd.mk HE; clear HE
      go_wp2_with fail
      go_roundw
      case rel =>
        refine ⟨j + 1, kk + 1 + 1 + 1 + (bulkL (cnJ m) l[j].list : Int) + (l[j].names.length : Int), by omega, by go_num, by go_num, ⟨?_⟩, by omega, ⟨HE_.out⟩⟩
        rw [bulkL_take (cnJ (m + 1)) l j hlt2, HKK.out]; simp only [cnJ]; omega
      case measure => simp [intOf]; omega
    · obtain rfl : j = xs.length := by omega
      go_wp2_with fail
      go_ret
      exact ⟨by rw [HKK.out, HL.out, List.take_length] <;> rfl, HW.out⟩
theorem markJS_all : ∀ m, MarkJS m
  | 0 => laws_markJsonS_of 0 (fun q h => by omega)
  | m + 1 => laws_markJsonS_of (m + 1) (fun q h => by obtain rfl : m = q := by omega
                                                      exact markJS_all m)
theorem heldJS_all : ∀ m, HeldJS m
  | 0 => laws_heldJsonS_of 0 (fun q h => by omega)
  | m + 1 => laws_heldJsonS_of (m + 1) (fun q h => by obtain rfl : m = q := by omega
                                                      exact heldJS_all m)
set_option maxRecDepth 100000 in
theorem laws_markOpS {m : Nat} {S : Nat → Prop} (v : Value) (l : List JOp) (k : Int) (w : World) (hR : (tOp (m + 1)).R 53 w S v l) (h0 : 0 ≤ k) (h1 : k + bulkL (cnOp (m + 1)) l ≤ 4611686018427387904) :
    Calls Tryd.prog 14 #[v, .int .i64 k] w fun e w' => e = .returned (.int .i64 (k + bulkL (cnOp (m + 1)) l)) ∧ (tOp (m + 1)).R 53 w' S v (markL (mkOp (m + 1)) (cnOp (m + 1)) k l) ∧ Fr w w' S := by
  obtain ⟨A, c, rfl, hc, hC⟩ := R_C hR
  have hm := hC.1
  clear hC
  have HR := Hd.mk hR; clear hR
  have HB := Hd.mk h1; clear h1
  go_enter Tryd.func14, Tryd.ntmps14
  go_wp2_with fail
  go_loopw [1, 5] (fun v i wr => ∃ j : Nat, ∃ kk : Int, j ≤ l.length ∧ i = .int .i64 j ∧ v = .int .i64 kk ∧ Hd (kk = k + bulkL (cnOp (m + 1)) (l.take j)) ∧ 0 ≤ kk ∧ Hd ((tOp (m + 1)).R 53 wr S (.slice A l.length c) (midL (mkOp (m + 1)) (cnOp (m + 1)) k l j)) ∧ Hd (Fr w wr S)) (fun _ i _ => l.length - (intOf i).toNat)
  case atStart => exact ⟨0, k, Nat.zero_le _, rfl, rfl, ⟨by simp [bulkL]⟩, h0, ⟨by rw [midL_zero]; exact HR.out⟩, ⟨Fr.refl _ _⟩⟩
  case round =>
    obtain ⟨j, kk, hj, rfl, rfl, HKK, hk0, HK, HF⟩ := hrel
    by_cases hlt : j < l.length
    · have hkk : kk + ((cnOp (m + 1)) l[j] : Int) ≤ 4611686018427387904 := by
        have h1 := HKK.out; have h2 := HB.out; have h3 := bulkL_take (cnOp (m + 1)) l j hlt; have h4 := bulkL_take_le (cnOp (m + 1)) l (j + 1)
        omega
      obtain ⟨Si, cs, hH, hO⟩ := R_H HK.out (midL_at l k j hlt)
      obtain ⟨g, cap, hv, hcl, hcap, hg, hgl, hgS, hcell, hfz⟩ := H_cells hH (by rw [tOp_sz]; omega)
      injection hv with hv1 hv2 hv3
      subst hv1; subst hv3; clear hv2
      have hSS := H_sub hH
      obtain ⟨v1, _, T1, TV, rfl, p1, hV, t1, tV, d1V⟩ := tOp_O.1 hO
      obtain ⟨v2, v3, T2, T3, rfl, hsz, p2, p3, t2, t3, d23⟩ := tJ_O.1 hV
      have d12 : ∀ k, T1 k → ¬ T2 k := fun k a b => d1V k a (t2 k b)
      have d13 : ∀ k, T1 k → ¬ T3 k := fun k a b => d1V k a (t3 k b)
      have np1 : ¬ T1 g := fun h => hgS (t1 g h)
      have np2 : ¬ T2 g := fun h => hgS ((fun k h => tV k (t2 k h)) g h)
      have np3 : ¬ T3 g := fun h => hgS ((fun k h => tV k (t3 k h)) g h)
      have F0 := HF.out
      have hkx : kk + 1 + (l[j].way.length : Int) + 1 + 1 + 1 + (bulkL (cnJ m) l[j].value.list : Int) + (l[j].value.names.length : Int) ≤ 4611686018427387904 := by have := hkk; simp only [cnOp, cnJ] at this; omega
      clear hkk
      have hq1 : 0 ≤ kk + 1 := by omega
      have hu1 : kk + 1 + (l[j].way.length : Int) ≤ 4611686018427387904 := by omega
      have hq4 : 0 ≤ kk + 1 + (l[j].way.length : Int) + 1 + 1 := by omega
      have hu4 : kk + 1 + (l[j].way.length : Int) + 1 + 1 + 1 ≤ 4611686018427387904 := by omega
      have hq5 : 0 ≤ kk + 1 + (l[j].way.length : Int) + 1 + 1 + 1 := by omega
      have hu5 : kk + 1 + (l[j].way.length : Int) + 1 + 1 + 1 + (bulkL (cnJ m) l[j].value.list : Int) ≤ 4611686018427387904 := by omega
      have hq6 : 0 ≤ kk + 1 + (l[j].way.length : Int) + 1 + 1 + 1 + (bulkL (cnJ m) l[j].value.list : Int) := by omega
      have hu6 : kk + 1 + (l[j].way.length : Int) + 1 + 1 + 1 + (bulkL (cnJ m) l[j].value.list : Int) + (l[j].value.names.length : Int) ≤ 4611686018427387904 := by omega
      have HH : (tOp (m + 1)).H 53 wr S (.slice (some ⟨g, 0, none⟩) l.length c) (midL (mkOp (m + 1)) (cnOp (m + 1)) k l j) j Si [.int .i64 l[j].kind, v1, .int .i64 l[j].value.kind, .int .i64 l[j].value.n, .string l[j].value.s, v2, v3] := hH
      clear hH hcell hfz
      clear hO
      obtain ⟨hgl0, hcell, hfz⟩ := H_at HH
      have x0_0 : wr.cell? ⟨g, j * 7, none⟩ = some (.int .i64 l[j].kind) := hcell 0 _ rfl
      have z0_0 := hfz (j * 7)
      have x0_1 : wr.cell? ⟨g, j * 7 + 1, none⟩ = some (v1) := hcell 1 _ rfl
      have z0_1 := hfz (j * 7 + 1)
      have x0_2 : wr.cell? ⟨g, j * 7 + 2, none⟩ = some (.int .i64 l[j].value.kind) := hcell 2 _ rfl
      have z0_2 := hfz (j * 7 + 2)
      have x0_3 : wr.cell? ⟨g, j * 7 + 3, none⟩ = some (.int .i64 l[j].value.n) := hcell 3 _ rfl
      have z0_3 := hfz (j * 7 + 3)
      have x0_4 : wr.cell? ⟨g, j * 7 + 4, none⟩ = some (.string l[j].value.s) := hcell 4 _ rfl
      have z0_4 := hfz (j * 7 + 4)
      have x0_5 : wr.cell? ⟨g, j * 7 + 5, none⟩ = some (v2) := hcell 5 _ rfl
      have z0_5 := hfz (j * 7 + 5)
      have x0_6 : wr.cell? ⟨g, j * 7 + 6, none⟩ = some (v3) := hcell 6 _ rfl
      have z0_6 := hfz (j * 7 + 6)
      clear hcell hfz
      have HH_ := Hd.mk HH; clear HH
      have FF_ := Hd.mk F0; clear F0
      have p1_ := Hd.mk p1; clear p1
      have p2_ := Hd.mk p2; clear p2
      have p3_ := Hd.mk p3; clear p3
      go_wp2_with fail
      clear x0_0 z0_0 x0_1 z0_1 x0_2 z0_2 x0_3 z0_3 x0_4 z0_4 x0_5 z0_5 x0_6 z0_6 hgl0
      apply calls_gen; intro W0 hW
      have HH : (tOp (m + 1)).H 53 W0 S (.slice (some ⟨g, 0, none⟩) l.length c) (midL (mkOp (m + 1)) (cnOp (m + 1)) k l j) j Si [.int .i64 (kk), v1, .int .i64 l[j].value.kind, .int .i64 l[j].value.n, .string l[j].value.s, v2, v3] := by rw [hW]; exact H_store (HH_.out) 0 (by rw [tOp_sz]; omega) _ rfl
      have F0 : Fr w W0 S := by rw [hW]; exact (FF_.out).setCell _ (fun _ => hg) _
      have p1 : str.R 9 W0 T1 v1 l[j].way := by rw [hW]; exact R_setCell (p1_.out) np1 _
      have p2 : (tJ m).R 43 W0 T2 v2 l[j].value.list := by rw [hW]; exact R_setCell (p2_.out) np2 _
      have p3 : str.R 9 W0 T3 v3 l[j].value.names := by rw [hW]; exact R_setCell (p3_.out) np3 _
      clear hW HH_ FF_ p1_ p2_ p3_
      refine (laws_markStringS v1 _ (kk + 1) W0 p1 hq1 (by rw [bulk_one]; exact hu1)).mono ?_
      rintro e w1 ⟨rfl, py, hX⟩
      rw [bulk_one]
      replace HH := H_fr HH hX (fun k _ h _ => t1 k h)
      replace F0 := F0.then_ hX (fun k h _ => hSS k (t1 k h))
      clear p1; have p1 := py; clear py
      replace p2 := R_fr p2 hX (fun k a _ b => d12 k b a)
      replace p3 := R_fr p3 hX (fun k a _ b => d13 k b a)
      clear hX
      obtain ⟨hgl1, hcell, hfz⟩ := H_at HH
      have x1_0 : w1.cell? ⟨g, j * 7, none⟩ = some (.int .i64 (kk)) := hcell 0 _ rfl
      have z1_0 := hfz (j * 7)
      have x1_1 : w1.cell? ⟨g, j * 7 + 1, none⟩ = some (v1) := hcell 1 _ rfl
      have z1_1 := hfz (j * 7 + 1)
      have x1_2 : w1.cell? ⟨g, j * 7 + 2, none⟩ = some (.int .i64 l[j].value.kind) := hcell 2 _ rfl
      have z1_2 := hfz (j * 7 + 2)
      have x1_3 : w1.cell? ⟨g, j * 7 + 3, none⟩ = some (.int .i64 l[j].value.n) := hcell 3 _ rfl
      have z1_3 := hfz (j * 7 + 3)
      have x1_4 : w1.cell? ⟨g, j * 7 + 4, none⟩ = some (.string l[j].value.s) := hcell 4 _ rfl
      have z1_4 := hfz (j * 7 + 4)
      have x1_5 : w1.cell? ⟨g, j * 7 + 5, none⟩ = some (v2) := hcell 5 _ rfl
      have z1_5 := hfz (j * 7 + 5)
      have x1_6 : w1.cell? ⟨g, j * 7 + 6, none⟩ = some (v3) := hcell 6 _ rfl
      have z1_6 := hfz (j * 7 + 6)
      clear hcell hfz
      have HH_ := Hd.mk HH; clear HH
      have FF_ := Hd.mk F0; clear F0
      have p1_ := Hd.mk p1; clear p1
      have p2_ := Hd.mk p2; clear p2
      have p3_ := Hd.mk p3; clear p3
      go_wp2_with fail
      clear x1_0 z1_0 x1_1 z1_1 x1_2 z1_2 x1_3 z1_3 x1_4 z1_4 x1_5 z1_5 x1_6 z1_6 hgl1
      apply calls_gen; intro W1 hW
      have HH : (tOp (m + 1)).H 53 W1 S (.slice (some ⟨g, 0, none⟩) l.length c) (midL (mkOp (m + 1)) (cnOp (m + 1)) k l j) j Si [.int .i64 (kk), v1, .int .i64 (kk + 1 + (l[j].way.length : Int)), .int .i64 (kk + 1 + (l[j].way.length : Int) + 1), .string l[j].value.s, v2, v3] := by rw [hW]; exact H_store (H_store (HH_.out) 2 (by rw [tOp_sz]; omega) _ rfl) 3 (by rw [tOp_sz]; omega) _ rfl
      have F0 : Fr w W1 S := by rw [hW]; exact ((FF_.out).setCell _ (fun _ => hg) _).setCell _ (fun _ => hg) _
      have p1 : str.R 9 W1 T1 v1 (markL mkStr one (kk + 1) l[j].way) := by rw [hW]; exact R_setCell (R_setCell (p1_.out) np1 _) np1 _
      have p2 : (tJ m).R 43 W1 T2 v2 l[j].value.list := by rw [hW]; exact R_setCell (R_setCell (p2_.out) np2 _) np2 _
      have p3 : str.R 9 W1 T3 v3 l[j].value.names := by rw [hW]; exact R_setCell (R_setCell (p3_.out) np3 _) np3 _
      clear hW HH_ FF_ p1_ p2_ p3_
      refine (laws_markText (kk + 1 + (l[j].way.length : Int) + 1 + 1) W1 hq4 hu4).mono ?_
      rintro e w2 ⟨rfl, hX⟩
      replace HH := H_fr HH (Fr.of_below hX (fun _ => False)) (fun _ _ h _ => h.elim)
      replace F0 := F0.then_ (Fr.of_below hX (fun _ => False)) (fun _ h _ => h.elim)
      replace p1 := R_below p1 hX
      replace p2 := R_below p2 hX
      replace p3 := R_below p3 hX
      clear hX
      obtain ⟨hgl2, hcell, hfz⟩ := H_at HH
      have x2_0 : w2.cell? ⟨g, j * 7, none⟩ = some (.int .i64 (kk)) := hcell 0 _ rfl
      have z2_0 := hfz (j * 7)
      have x2_1 : w2.cell? ⟨g, j * 7 + 1, none⟩ = some (v1) := hcell 1 _ rfl
      have z2_1 := hfz (j * 7 + 1)
      have x2_2 : w2.cell? ⟨g, j * 7 + 2, none⟩ = some (.int .i64 (kk + 1 + (l[j].way.length : Int))) := hcell 2 _ rfl
      have z2_2 := hfz (j * 7 + 2)
      have x2_3 : w2.cell? ⟨g, j * 7 + 3, none⟩ = some (.int .i64 (kk + 1 + (l[j].way.length : Int) + 1)) := hcell 3 _ rfl
      have z2_3 := hfz (j * 7 + 3)
      have x2_4 : w2.cell? ⟨g, j * 7 + 4, none⟩ = some (.string l[j].value.s) := hcell 4 _ rfl
      have z2_4 := hfz (j * 7 + 4)
      have x2_5 : w2.cell? ⟨g, j * 7 + 5, none⟩ = some (v2) := hcell 5 _ rfl
      have z2_5 := hfz (j * 7 + 5)
      have x2_6 : w2.cell? ⟨g, j * 7 + 6, none⟩ = some (v3) := hcell 6 _ rfl
      have z2_6 := hfz (j * 7 + 6)
      clear hcell hfz
      have HH_ := Hd.mk HH; clear HH
      have FF_ := Hd.mk F0; clear F0
      have p1_ := Hd.mk p1; clear p1
      have p2_ := Hd.mk p2; clear p2
      have p3_ := Hd.mk p3; clear p3
      go_wp2_with fail
      clear x2_0 z2_0 x2_1 z2_1 x2_2 z2_2 x2_3 z2_3 x2_4 z2_4 x2_5 z2_5 x2_6 z2_6 hgl2
      apply calls_gen; intro W2 hW
      have HH : (tOp (m + 1)).H 53 W2 S (.slice (some ⟨g, 0, none⟩) l.length c) (midL (mkOp (m + 1)) (cnOp (m + 1)) k l j) j Si [.int .i64 (kk), v1, .int .i64 (kk + 1 + (l[j].way.length : Int)), .int .i64 (kk + 1 + (l[j].way.length : Int) + 1), .string (markText (kk + 1 + (l[j].way.length : Int) + 1 + 1)), v2, v3] := by rw [hW]; exact H_store (HH_.out) 4 (by rw [tOp_sz]; omega) _ rfl
      have F0 : Fr w W2 S := by rw [hW]; exact (FF_.out).setCell _ (fun _ => hg) _
      have p1 : str.R 9 W2 T1 v1 (markL mkStr one (kk + 1) l[j].way) := by rw [hW]; exact R_setCell (p1_.out) np1 _
      have p2 : (tJ m).R 43 W2 T2 v2 l[j].value.list := by rw [hW]; exact R_setCell (p2_.out) np2 _
      have p3 : str.R 9 W2 T3 v3 l[j].value.names := by rw [hW]; exact R_setCell (p3_.out) np3 _
      clear hW HH_ FF_ p1_ p2_ p3_
      refine (markJS_all m _ v2 _ (kk + 1 + (l[j].way.length : Int) + 1 + 1 + 1) W2 p2 hq5 hu5).mono ?_
      rintro e w3 ⟨rfl, py, hX⟩
      replace HH := H_fr HH hX (fun k _ h _ => (fun k h => tV k (t2 k h)) k h)
      replace F0 := F0.then_ hX (fun k h _ => hSS k ((fun k h => tV k (t2 k h)) k h))
      replace p1 := R_fr p1 hX (fun k a _ b => d12 k a b)
      clear p2; have p2 := py; clear py
      replace p3 := R_fr p3 hX (fun k a _ b => d23 k b a)
      clear hX
      obtain ⟨hgl3, hcell, hfz⟩ := H_at HH
      have x3_0 : w3.cell? ⟨g, j * 7, none⟩ = some (.int .i64 (kk)) := hcell 0 _ rfl
      have z3_0 := hfz (j * 7)
      have x3_1 : w3.cell? ⟨g, j * 7 + 1, none⟩ = some (v1) := hcell 1 _ rfl
      have z3_1 := hfz (j * 7 + 1)
      have x3_2 : w3.cell? ⟨g, j * 7 + 2, none⟩ = some (.int .i64 (kk + 1 + (l[j].way.length : Int))) := hcell 2 _ rfl
      have z3_2 := hfz (j * 7 + 2)
      have x3_3 : w3.cell? ⟨g, j * 7 + 3, none⟩ = some (.int .i64 (kk + 1 + (l[j].way.length : Int) + 1)) := hcell 3 _ rfl
      have z3_3 := hfz (j * 7 + 3)
      have x3_4 : w3.cell? ⟨g, j * 7 + 4, none⟩ = some (.string (markText (kk + 1 + (l[j].way.length : Int) + 1 + 1))) := hcell 4 _ rfl
      have z3_4 := hfz (j * 7 + 4)
      have x3_5 : w3.cell? ⟨g, j * 7 + 5, none⟩ = some (v2) := hcell 5 _ rfl
      have z3_5 := hfz (j * 7 + 5)
      have x3_6 : w3.cell? ⟨g, j * 7 + 6, none⟩ = some (v3) := hcell 6 _ rfl
      have z3_6 := hfz (j * 7 + 6)
      clear hcell hfz
      have HH_ := Hd.mk HH; clear HH
      have FF_ := Hd.mk F0; clear F0
      have p1_ := Hd.mk p1; clear p1
      have p2_ := Hd.mk p2; clear p2
      have p3_ := Hd.mk p3; clear p3
      go_wp2_with fail
      clear x3_0 z3_0 x3_1 z3_1 x3_2 z3_2 x3_3 z3_3 x3_4 z3_4 x3_5 z3_5 x3_6 z3_6 hgl3
      apply calls_gen; intro W3 hW
      have HH : (tOp (m + 1)).H 53 W3 S (.slice (some ⟨g, 0, none⟩) l.length c) (midL (mkOp (m + 1)) (cnOp (m + 1)) k l j) j Si [.int .i64 (kk), v1, .int .i64 (kk + 1 + (l[j].way.length : Int)), .int .i64 (kk + 1 + (l[j].way.length : Int) + 1), .string (markText (kk + 1 + (l[j].way.length : Int) + 1 + 1)), v2, v3] := by rw [hW]; exact HH_.out
      have F0 : Fr w W3 S := by rw [hW]; exact FF_.out
      have p1 : str.R 9 W3 T1 v1 (markL mkStr one (kk + 1) l[j].way) := by rw [hW]; exact p1_.out
      have p2 : (tJ m).R 43 W3 T2 v2 (markL (mkJ m) (cnJ m) (kk + 1 + (l[j].way.length : Int) + 1 + 1 + 1) l[j].value.list) := by rw [hW]; exact p2_.out
      have p3 : str.R 9 W3 T3 v3 l[j].value.names := by rw [hW]; exact p3_.out
      clear hW HH_ FF_ p1_ p2_ p3_
      refine (laws_markStringS v3 _ (kk + 1 + (l[j].way.length : Int) + 1 + 1 + 1 + (bulkL (cnJ m) l[j].value.list : Int)) W3 p3 hq6 (by rw [bulk_one]; exact hu6)).mono ?_
      rintro e w4 ⟨rfl, py, hX⟩
      rw [bulk_one]
      replace HH := H_fr HH hX (fun k _ h _ => (fun k h => tV k (t3 k h)) k h)
      replace F0 := F0.then_ hX (fun k h _ => hSS k ((fun k h => tV k (t3 k h)) k h))
      replace p1 := R_fr p1 hX (fun k a _ b => d13 k a b)
      replace p2 := R_fr p2 hX (fun k a _ b => d23 k a b)
      clear p3; have p3 := py; clear py
      clear hX
      obtain ⟨hgl4, hcell, hfz⟩ := H_at HH
      have x4_0 : w4.cell? ⟨g, j * 7, none⟩ = some (.int .i64 (kk)) := hcell 0 _ rfl
      have z4_0 := hfz (j * 7)
      have x4_1 : w4.cell? ⟨g, j * 7 + 1, none⟩ = some (v1) := hcell 1 _ rfl
      have z4_1 := hfz (j * 7 + 1)
      have x4_2 : w4.cell? ⟨g, j * 7 + 2, none⟩ = some (.int .i64 (kk + 1 + (l[j].way.length : Int))) := hcell 2 _ rfl
      have z4_2 := hfz (j * 7 + 2)
      have x4_3 : w4.cell? ⟨g, j * 7 + 3, none⟩ = some (.int .i64 (kk + 1 + (l[j].way.length : Int) + 1)) := hcell 3 _ rfl
      have z4_3 := hfz (j * 7 + 3)
      have x4_4 : w4.cell? ⟨g, j * 7 + 4, none⟩ = some (.string (markText (kk + 1 + (l[j].way.length : Int) + 1 + 1))) := hcell 4 _ rfl
      have z4_4 := hfz (j * 7 + 4)
      have x4_5 : w4.cell? ⟨g, j * 7 + 5, none⟩ = some (v2) := hcell 5 _ rfl
      have z4_5 := hfz (j * 7 + 5)
      have x4_6 : w4.cell? ⟨g, j * 7 + 6, none⟩ = some (v3) := hcell 6 _ rfl
      have z4_6 := hfz (j * 7 + 6)
      clear hcell hfz
      have HH_ := Hd.mk HH; clear HH
      have FF_ := Hd.mk F0; clear F0
      have p1_ := Hd.mk p1; clear p1
      have p2_ := Hd.mk p2; clear p2
      have p3_ := Hd.mk p3; clear p3
      go_wp2_with fail
      go_roundw
      case rel =>
        have HH := HH_.out
        have F0 := FF_.out
        have p1 := p1_.out
        have p2 := p2_.out
        have p3 := p3_.out
        refine ⟨j + 1, kk + 1 + (l[j].way.length : Int) + 1 + 1 + 1 + (bulkL (cnJ m) l[j].value.list : Int) + (l[j].value.names.length : Int), by omega, by go_num, by go_num, ⟨?_⟩, by omega, ⟨?_⟩, ⟨by simpa using F0⟩⟩
        · rw [bulkL_take (cnOp (m + 1)) l j hlt, HKK.out]; simp only [cnOp, cnJ]; omega
        · rw [← midL_step l k j hlt, ← HKK.out]
          exact H_back (x' := (mkOp (m + 1)) kk l[j]) (T := Si) HH (tOp_O.2 ⟨_, _, T1, TV, rfl, p1, tJ_O.2 ⟨_, _, T2, T3, rfl, Nat.le_trans (markText_le _ hq4 hu4) (by omega), p2, p3, t2, t3, d23⟩, t1, tV, d1V⟩) (fun _ h => .inl h) (fun _ h => h) hSS
      case measure => simp [intOf]; omega
    · obtain rfl : j = l.length := by omega
      go_wp2_with fail
      go_ret
      exact ⟨by rw [HKK.out, List.take_length] <;> rfl, by rw [← midL_end]; exact HK.out, HF.out⟩
set_option maxRecDepth 100000 in
theorem laws_heldOpS {m : Nat} (A : Option Addr) (c : Nat) (xs l : List JOp) (k : Int) (w : World) (hr : (tOp (m + 1)).C w A xs) (hx : xs = markL (mkOp (m + 1)) (cnOp (m + 1)) k l) (h0 : 0 ≤ k) (h1 : k + bulkL (cnOp (m + 1)) l ≤ 4611686018427387904) :
    Calls Tryd.prog 15 #[.slice A xs.length c, .int .i64 k] w fun e w' => e = .returned (.int .i64 (k + bulkL (cnOp (m + 1)) l)) ∧ Below w.heap.size w w' := by
  have hm := hr.1
  have HC := Hd.mk hr; clear hr
  have HX := Hd.mk hx; clear hx
  have HB := Hd.mk h1; clear h1
  have HL := Hd.mk (show xs.length = l.length by rw [HX.out, markL_length])
  go_enter Tryd.func15, Tryd.ntmps15
  go_wp2_with fail
  go_loopw [1, 5] (fun v i wr => ∃ j : Nat, ∃ kk : Int, j ≤ xs.length ∧ i = .int .i64 j ∧ v = .int .i64 kk ∧ Hd (kk = k + bulkL (cnOp (m + 1)) (l.take j)) ∧ 0 ≤ kk ∧ Hd (Below w.heap.size w wr)) (fun _ i _ => xs.length - (intOf i).toNat)
  case atStart => exact ⟨0, k, Nat.zero_le _, rfl, rfl, ⟨by simp [bulkL]⟩, h0, ⟨Below.refl _ _⟩⟩
  case round =>
    obtain ⟨j, kk, hj, rfl, rfl, HKK, hk0, HW⟩ := hrel
    by_cases hlt : j < xs.length
    · have hlt2 : j < l.length := by have := HL.out; omega
      have hkk : kk + ((cnOp (m + 1)) l[j] : Int) ≤ 4611686018427387904 := by
        have h1 := HKK.out; have h2 := HB.out; have h3 := bulkL_take (cnOp (m + 1)) l j hlt2; have h4 := bulkL_take_le (cnOp (m + 1)) l (j + 1)
        omega
      have he : xs[j] = (mkOp (m + 1)) kk l[j] := by
        have h := markL_at (mk := (mkOp (m + 1))) (cn := (cnOp (m + 1))) l k j hlt2
        rw [← HKK.out] at h
        rw [← h]
        simp only [HX.out]
      obtain ⟨ad, cs0, rfl, hK0, e0, e1⟩ := C_at HC.out HW.out j hlt
      rw [he] at hK0; clear he
      obtain ⟨A1, c1, _, rfl, ⟨hc1, r1⟩, hj1⟩ := tOp_K.1 hK0
      obtain ⟨A2, c2, A3, c3, rfl, hsz, ⟨hc2, r2⟩, hc3, r3⟩ := tJ_K.1 hj1
      clear hK0
      obtain ⟨y1, hy1⟩ : ∃ y, y = (markL mkStr one (kk + 1) l[j].way) := ⟨_, rfl⟩
      obtain ⟨y2, hy2⟩ : ∃ y, y = (markL (mkJ m) (cnJ m) (kk + 1 + (l[j].way.length : Int) + 1 + 1 + 1) l[j].value.list) := ⟨_, rfl⟩
      obtain ⟨y3, hy3⟩ : ∃ y, y = (markL mkStr one (kk + 1 + (l[j].way.length : Int) + 1 + 1 + 1 + (bulkL (cnJ m) l[j].value.list : Int)) l[j].value.names) := ⟨_, rfl⟩
      have x0 : wr.cell? (ad.add (j * 7)) = some (.int .i64 kk) := e0 _ rfl
      have x1 : wr.cell? ⟨(ad.add (j * 7)).block, (ad.add (j * 7)).off + 1, none⟩ = some (.slice A1 (markL mkStr one (kk + 1) l[j].way).length c1) := e1 0 _ rfl
      have x2 : wr.cell? ⟨(ad.add (j * 7)).block, (ad.add (j * 7)).off + 2, none⟩ = some (.int .i64 (kk + 1 + (l[j].way.length : Int))) := e1 1 _ rfl
      have x3 : wr.cell? ⟨(ad.add (j * 7)).block, (ad.add (j * 7)).off + 3, none⟩ = some (.int .i64 (kk + 1 + (l[j].way.length : Int) + 1)) := e1 2 _ rfl
      have x4 : wr.cell? ⟨(ad.add (j * 7)).block, (ad.add (j * 7)).off + 4, none⟩ = some (.string (markText (kk + 1 + (l[j].way.length : Int) + 1 + 1))) := e1 3 _ rfl
      have x5 : wr.cell? ⟨(ad.add (j * 7)).block, (ad.add (j * 7)).off + 5, none⟩ = some (.slice A2 (markL (mkJ m) (cnJ m) (kk + 1 + (l[j].way.length : Int) + 1 + 1 + 1) l[j].value.list).length c2) := e1 4 _ rfl
      have x6 : wr.cell? ⟨(ad.add (j * 7)).block, (ad.add (j * 7)).off + 6, none⟩ = some (.slice A3 (markL mkStr one (kk + 1 + (l[j].way.length : Int) + 1 + 1 + 1 + (bulkL (cnJ m) l[j].value.list : Int)) l[j].value.names).length c3) := e1 5 _ rfl
      rw [← hy1] at x1
      replace r1 : str.C wr A1 y1 := by rw [hy1]; exact r1
      have Q1 := Hd.mk r1; clear r1
      have Y1 := Hd.mk hy1; clear hy1
      rw [← hy2] at x5
      replace r2 : (tJ m).C wr A2 y2 := by rw [hy2]; exact r2
      have Q2 := Hd.mk r2; clear r2
      have Y2 := Hd.mk hy2; clear hy2
      rw [← hy3] at x6
      replace r3 : str.C wr A3 y3 := by rw [hy3]; exact r3
      have Q3 := Hd.mk r3; clear r3
      have Y3 := Hd.mk hy3; clear hy3
      clear e0 e1 hc1 hc2 hc3 hj1
      have hkx : kk + 1 + (l[j].way.length : Int) + 1 + 1 + 1 + (bulkL (cnJ m) l[j].value.list : Int) + (l[j].value.names.length : Int) ≤ 4611686018427387904 := by have := hkk; simp only [cnOp, cnJ] at this; omega
      clear hkk
      have hq0 : 0 ≤ kk := by omega
      have hq1 : 0 ≤ kk + 1 := by omega
      have hu1 : kk + 1 + (l[j].way.length : Int) ≤ 4611686018427387904 := by omega
      have hq2 : 0 ≤ kk + 1 + (l[j].way.length : Int) := by omega
      have hq3 : 0 ≤ kk + 1 + (l[j].way.length : Int) + 1 := by omega
      have hq4 : 0 ≤ kk + 1 + (l[j].way.length : Int) + 1 + 1 := by omega
      have hu4 : kk + 1 + (l[j].way.length : Int) + 1 + 1 + 1 ≤ 4611686018427387904 := by omega
      have hq5 : 0 ≤ kk + 1 + (l[j].way.length : Int) + 1 + 1 + 1 := by omega
      have hu5 : kk + 1 + (l[j].way.length : Int) + 1 + 1 + 1 + (bulkL (cnJ m) l[j].value.list : Int) ≤ 4611686018427387904 := by omega
      have hq6 : 0 ≤ kk + 1 + (l[j].way.length : Int) + 1 + 1 + 1 + (bulkL (cnJ m) l[j].value.list : Int) := by omega
      have hu6 : kk + 1 + (l[j].way.length : Int) + 1 + 1 + 1 + (bulkL (cnJ m) l[j].value.list : Int) + (l[j].value.names.length : Int) ≤ 4611686018427387904 := by omega
      have hqe : 0 ≤ kk + 1 + (l[j].way.length : Int) + 1 + 1 + 1 + (bulkL (cnJ m) l[j].value.list : Int) + (l[j].value.names.length : Int) := by omega
      have HE := HW.out
      have HE_ := Hd.mk HE; clear HE
      go_wp2_with fail
      refine (laws_heldStringS _ _ _ l[j].way (kk + 1) _ (C_below Q1.out (Below.refl _ _)) Y1.out hq1 (by rw [bulk_one]; exact hu1)).mono ?_
      rintro e w1 ⟨rfl, hX⟩
      rw [bulk_one]
      replace x0 := cell_below hX x0
      replace x1 := cell_below hX x1
      replace x2 := cell_below hX x2
      replace x3 := cell_below hX x3
      replace x4 := cell_below hX x4
      replace x5 := cell_below hX x5
      replace x6 := cell_below hX x6
      have Q1 := Hd.mk (C_below Q1.out hX)
      have Q2 := Hd.mk (C_below Q2.out hX)
      have Q3 := Hd.mk (C_below Q3.out hX)
      have HE := below_then HE_.out hX
      clear hX HE_
      have HE_ := Hd.mk HE; clear HE
      go_wp2_with fail
      have y_0 := cell_regrown x0
      have y_1 := cell_regrown x1
      have y_2 := cell_regrown x2
      have y_3 := cell_regrown x3
      have y_4 := cell_regrown x4
      have y_5 := cell_regrown x5
      have y_6 := cell_regrown x6
      refine region_mix [(true, 0), (true, 1), (true, 2), (true, 3), (true, 4), (true, 5), (true, 6), (false, 7), (true, 8)] (by kernel_rfl) (by kernel_rfl) (fun _ _ _ _ _ h => h) ?_
      repeat (refine mix_q rfl ?_; go_big_quiet_want; go_big_quiet_op; go_big_quiet_on; refine wpQuiet_nil ?_)
      refine mix_b rfl ?_ (by rfl)
      go_wp2_with fail
      clear y_0 y_1 y_2 y_3 y_4 y_5 y_6
      refine (laws_markText (kk + 1 + (l[j].way.length : Int) + 1 + 1) _ hq4 hu4).mono ?_
      rintro e w2 ⟨rfl, hX0⟩
      have hX := below_then (below_drew (Below.refl w1.heap.size w1)) hX0
      clear hX0
      replace x0 := cell_below hX x0
      replace x1 := cell_below hX x1
      replace x2 := cell_below hX x2
      replace x3 := cell_below hX x3
      replace x4 := cell_below hX x4
      replace x5 := cell_below hX x5
      replace x6 := cell_below hX x6
      have Q1 := Hd.mk (C_below Q1.out hX)
      have Q2 := Hd.mk (C_below Q2.out hX)
      have Q3 := Hd.mk (C_below Q3.out hX)
      have HE := below_then HE_.out hX
      have HX1 := Hd.mk hX
      have HE := Hd.mk HE
      clear hX HE_
      go_wp2_with fail
      refine ⟨cls_below HX1.out, ?_⟩
      repeat (refine mix_q rfl ?_; go_big_quiet_want; go_big_quiet_op; go_big_quiet_on; refine wpQuiet_nil ?_)
      refine mix_nil ?_
      have HE := HE.out
      clear HX1
      have HE_ := Hd.mk HE; clear HE
      go_wp2_with fail
      refine (heldJS_all m _ _ _ l[j].value.list (kk + 1 + (l[j].way.length : Int) + 1 + 1 + 1) _ (C_below Q2.out (Below.refl _ _)) Y2.out hq5 hu5).mono ?_
      rintro e w3 ⟨rfl, hX⟩
      replace x0 := cell_below hX x0
      replace x1 := cell_below hX x1
      replace x2 := cell_below hX x2
      replace x3 := cell_below hX x3
      replace x4 := cell_below hX x4
      replace x5 := cell_below hX x5
      replace x6 := cell_below hX x6
      have Q1 := Hd.mk (C_below Q1.out hX)
      have Q2 := Hd.mk (C_below Q2.out hX)
      have Q3 := Hd.mk (C_below Q3.out hX)
      have HE := below_then HE_.out hX
      clear hX HE_
      have HE_ := Hd.mk HE; clear HE
      go_wp2_with fail
      refine (laws_heldStringS _ _ _ l[j].value.names (kk + 1 + (l[j].way.length : Int) + 1 + 1 + 1 + (bulkL (cnJ m) l[j].value.list : Int)) _ (C_below Q3.out (Below.refl _ _)) Y3.out hq6 (by rw [bulk_one]; exact hu6)).mono ?_
      rintro e w4 ⟨rfl, hX⟩
      rw [bulk_one]
      replace x0 := cell_below hX x0
      replace x1 := cell_below hX x1
      replace x2 := cell_below hX x2
      replace x3 := cell_below hX x3
      replace x4 := cell_below hX x4
      replace x5 := cell_below hX x5
      replace x6 := cell_below hX x6
      have Q1 := Hd.mk (C_below Q1.out hX)
      have Q2 := Hd.mk (C_below Q2.out hX)
      have Q3 := Hd.mk (C_below Q3.out hX)
      have HE := below_then HE_.out hX
      clear hX HE_
      have HE_ := Hd.mk HE; clear HE
      go_wp2_with fail
      go_roundw
      case rel =>
        refine ⟨j + 1, kk + 1 + (l[j].way.length : Int) + 1 + 1 + 1 + (bulkL (cnJ m) l[j].value.list : Int) + (l[j].value.names.length : Int), by omega, by go_num, by go_num, ⟨?_⟩, by omega, ⟨HE_.out⟩⟩
        rw [bulkL_take (cnOp (m + 1)) l j hlt2, HKK.out]; simp only [cnOp, cnJ]; omega
      case measure => simp [intOf]; omega
    · obtain rfl : j = xs.length := by omega
      go_wp2_with fail
      go_ret
      exact ⟨by rw [HKK.out, HL.out, List.take_length] <;> rfl, HW.out⟩
def rng (a b : Nat) : Nat → Prop := fun k => a ≤ k ∧ k < b
theorem rng_off {a b a' b' n : Nat} (h : b ≤ a' ∨ b' ≤ a) : ∀ k, rng a b k → k < n → ¬ rng a' b' k := fun k h1 _ h2 => by
 have := h1.1; have := h1.2; have := h2.1; have := h2.2
 omega
theorem rng_not {a a' b' : Nat} (h : a + 1 ≤ a' ∨ b' ≤ a) : ¬ rng a' b' a := fun h2 => by
 have := h2.1; have := h2.2
 omega
theorem below_rng {w w1 w2 : World} {a b : Nat} (h : Below w.heap.size w w1) (hf : Fr w1 w2 (rng a b)) (ha : w.heap.size ≤ a) : Below w.heap.size w w2 :=
 ((Fr.of_below h (rng a b)).trans hf).below (fun k hk => Nat.le_trans ha hk.1)
theorem R_Cv {α : Type} {d : Ty α} {e : TypeId} {w : World} {S : Nat → Prop} {A : Option Addr} {n c : Nat} {xs : List α} (h : d.R e w S (.slice A n c) xs) : d.C w A xs := by
 obtain ⟨A', c', he, _, hC⟩ := R_C h
 injection he with h1 h2 h3
 subst h1
 exact hC
theorem cnt_RowL (l : List Row) : bulkL cnRow l = bulkRowS l := by
 induction l with
 | nil => rfl
 | cons x l ih => simp only [bulkL, ih, cnRow, bulkRowS, bulkRow, List.length_cons]; omega
theorem cnt_Rows (l : List Row) : (bulkL cnRow l : Int) ≤ 4 * (bulkRowS l : Nat) := by rw [cnt_RowL]; omega
theorem cnt_RowsL (l : List (List Row)) : bulkL cnRows l ≤ bulkRowSS l := by
 induction l with
 | nil => exact Nat.zero_le _
 | cons x l ih =>
  have := cnt_RowL x
  simp only [bulkL, cnRows, bulkRowSS, List.length_cons] at ih ⊢; omega
theorem cnt_Schema (l : List Int) : (l.length : Int) ≤ 4 * (l.length : Nat) := by omega
theorem cnt_Row (r : Row) : (r.cells.length : Int) ≤ 4 * (bulkRow r : Nat) := by simp only [bulkRow]; omega
theorem cnt_Store (s : Store) : (s.cols.length : Int) + (bulkL cnRows s.tabs : Int) ≤ 4 * (bulkStore s : Nat) := by
 have := cnt_RowsL s.tabs
 simp only [bulkStore]; omega
theorem cnt_Change (s : Change) : (s.old.cells.length : Int) + (s.new.cells.length : Int) ≤ 4 * (bulkChange s : Nat) := by
 simp only [bulkChange, bulkRow]; omega
theorem bulkL_le3 {α : Type} (b c : α → Nat) (n : Nat) (h : ∀ x, b x ≤ n + n * c x) (l : List α) : bulkL b l ≤ n * (l.length + bulkL c l) := by
 induction l with
 | nil => exact Nat.zero_le _
 | cons x l ih =>
  have := h x
  simp only [bulkL, List.length_cons]
  have e : n * (l.length + 1 + (c x + bulkL c l)) = n * (l.length + bulkL c l) + (n + n * c x) := by
   rw [show l.length + 1 + (c x + bulkL c l) = (l.length + bulkL c l) + (1 + c x) by omega, Nat.mul_add n, Nat.mul_add n 1, Nat.mul_one]
  omega
theorem cnJ_le : ∀ (m : Nat) (j : J), cnJ m j ≤ 3 + 3 * bulkJ m j
 | 0, _ => Nat.zero_le _
 | m + 1, j => by
  have := bulkL_le3 (cnJ m) (bulkJ m) 3 (cnJ_le m) j.list
  simp only [cnJ, bulkJ, bulkStringS]
  omega
theorem cnt_Jsons (m : Nat) (l : List J) : bulkL (cnJ m) l ≤ 3 * bulkJS m l := bulkL_le3 (cnJ m) (bulkJ m) 3 (cnJ_le m) l
theorem cnt_Json (m : Nat) (j : J) : (bulkL (cnJ m) j.list : Int) + (j.names.length : Int) ≤ 4 * (bulkJ (m + 1) j : Nat) := by
 have := cnt_Jsons m j.list
 simp only [bulkJ, bulkJS, bulkStringS] at this ⊢
 omega
theorem cnOp_le (m : Nat) (o : JOp) : cnOp m o ≤ 4 + 4 * bulkOp m o := by
 have := cnJ_le m o.value
 simp only [cnOp, bulkOp, bulkStringS]
 omega
theorem cnt_Ops (m : Nat) (l : List JOp) : (bulkL (cnOp (m + 1)) l : Int) ≤ 4 * (bulkOpS (m + 1) l : Nat) := by
 have := bulkL_le3 (cnOp (m + 1)) (bulkOp (m + 1)) 4 (cnOp_le (m + 1)) l
 simp only [bulkOpS]
 omega
theorem cnt_Strs (l : List ByteArray) : (bulkL one l : Int) ≤ 4 * (bulkStringS l : Nat) := by
 rw [bulk_one]; simp only [bulkStringS]; omega
def hasTab (cols : List Int) (t : Int) : Bool := inB t 0 (cols.length - 1)
def isNumB (n : Int) : Bool := inB n (-1000000000) 1000000000
def rowOk (cols : List Int) (t : Int) (r : Row) : Bool := r.cells.all isNumB && (schemaOk cols && (hasTab cols t && ((r.cells.length : Int) == cols.getD t.toNat 0 && inB r.id 1 999)))
theorem hasTab_at {cols : List Int} {t : Int} (h : hasTab cols t = true) : ∃ k : Nat, t = k ∧ k < cols.length := by
 obtain ⟨h1, h2⟩ := inB_iff.1 h
 exact ⟨t.toNat, by omega, by omega⟩
theorem rowOk_at {cols : List Int} {k : Nat} (hk : k < cols.length) (r : Row) : rowOk cols k r = (r.cells.all isNumB && (schemaOk cols && (hasTab cols k && ((r.cells.length : Int) == cols[k] && inB r.id 1 999)))) := by
 unfold rowOk
 rw [Int.toNat_natCast, List.getD_eq_getElem?_getD, List.getElem?_eq_getElem hk]; rfl
def byteB (b : UInt8) : Bool := inB (b.toNat : Int) 32 126
def textB (s : ByteArray) : Bool := s.data.toList.all byteB && decide ((s.size : Int) ≤ 60)
theorem wrap64_byte (b : UInt8) : wrap64 ((b.toNat : Nat) : Int) = b.toNat := by
 have := b.toNat_lt
 unfold wrap64
 omega
set_option maxRecDepth 100000 in
theorem impl_textOk (s : ByteArray) (w : World) (hs : s.size ≤ 9223372036854775807) :
  Calls Tryd.prog 66 #[.string s] w fun e w' => e = .returned (.bool (textB s)) ∧ w = w' := by
 go_enter Tryd.func66, Tryd.ntmps66
 go_wp2
 go_loop [6] (fun i => ∃ k : Nat, k ≤ s.size ∧ i = .int .i64 k ∧ Hd ((s.data.toList.take k).all byteB = true)) (fun i => s.size - (intOf i).toNat)
 case atStart => exact ⟨0, Nat.zero_le _, rfl, ⟨rfl⟩⟩
 case round =>
  obtain ⟨k, hk, rfl, HA⟩ := hrel
  by_cases hlt : k < s.size
  ·have hw : wrap64 ((s[k].toNat : Nat) : Int) = s[k].toNat := wrap64_byte _
   have HA2 := Hd.mk (show (s.data.toList.take (k + 1)).all byteB = byteB s[k] from all_take byteB s.data.toList k (by simpa using hlt) HA.out)
   go_wp2_with fail
   refine (impl_within _ _ _ _).mono ?_
   rintro e w' ⟨rfl, rfl⟩
   cases hb : inB (s[k].toNat : Int) 32 126
   ·have HN := Hd.mk (show textB s = false by rw [textB, all_false byteB s.data.toList (k + 1) (by rw [HA2.out]; exact hb)]; rfl)
    go_wp2_with fail
    go_ret
    exact ⟨by rw [HN.out]; rfl, rfl⟩
   ·have HN := Hd.mk (show byteB s[k] = true from hb)
    go_wp2_with fail
    go_round
    case rel => exact ⟨k + 1, by omega, by go_num, ⟨by rw [HA2.out]; exact HN.out⟩⟩
    case measure => simp [intOf]; omega
  ·obtain rfl : k = s.size := by omega
   have HN := Hd.mk (show textB s = decide ((s.size : Int) ≤ 60) by
    have := HA.out
    rw [show s.size = s.data.toList.length by simp, List.take_length] at this
    rw [textB, this]; rfl)
   go_wp2_with fail
   go_ret
   exact ⟨by rw [HN.out]; rfl, rfl⟩
set_option maxRecDepth 100000 in
theorem spec_l1Text (s : ByteArray) (w : World) (hs : s.size ≤ 9223372036854775807) :
  Calls Tryd.prog 59 #[.string s] w fun e w' => e = .returned (.bool (textB s)) ∧ w = w' := by
 go_enter Tryd.func59, Tryd.ntmps59
 go_wp2
 go_loop [3] (fun i => ∃ k : Nat, k ≤ s.size ∧ i = .int .i64 k ∧ Hd ((s.data.toList.take k).all byteB = true)) (fun i => s.size - (intOf i).toNat)
 case atStart => exact ⟨0, Nat.zero_le _, rfl, ⟨rfl⟩⟩
 case round =>
  obtain ⟨k, hk, rfl, HA⟩ := hrel
  by_cases hlt : k < s.size
  ·have HA2 := Hd.mk (show (s.data.toList.take (k + 1)).all byteB = byteB s[k] from all_take byteB s.data.toList k (by simpa using hlt) HA.out)
   by_cases h1 : (s[k].toNat : Int) < 32
   ·have HN := Hd.mk (show textB s = false by rw [textB, all_false byteB s.data.toList (k + 1) (by rw [HA2.out]; simp [byteB, inB]; omega)]; rfl)
    go_wp2_with fail
    go_ret
    exact ⟨by rw [HN.out]; rfl, rfl⟩
   by_cases h2 : 126 < (s[k].toNat : Int)
   ·have HN := Hd.mk (show textB s = false by rw [textB, all_false byteB s.data.toList (k + 1) (by rw [HA2.out]; simp [byteB, inB]; omega)]; rfl)
    go_wp2_with fail
    go_ret
    exact ⟨by rw [HN.out]; rfl, rfl⟩
   ·have HN := Hd.mk (show byteB s[k] = true by simp [byteB, inB]; omega)
    go_wp2_with fail
    go_round
    case rel => exact ⟨k + 1, by omega, by go_num, ⟨by rw [HA2.out]; exact HN.out⟩⟩
    case measure => simp [intOf]; omega
  ·obtain rfl : k = s.size := by omega
   have HN := Hd.mk (show textB s = decide ((s.size : Int) ≤ 60) by
    have := HA.out
    rw [show s.size = s.data.toList.length by simp, List.take_length] at this
    rw [textB, this]; rfl)
   go_wp2_with fail
   go_ret
   exact ⟨by rw [HN.out]; rfl, rfl⟩
def ltB (a b : ByteArray) : Bool := Go.Op.bytesLess a.toList b.toList
theorem run_geq (a b : ByteArray) (w : World) : (Go.binOp .geq 9 (.string a) (.string b)).run Tryd.prog w = .ok (.bool (!ltB a b)) w := by
 rfl
def nameStep (l : List ByteArray) (k : Nat) : Bool := textB (l.getD k ByteArray.empty) && (k == 0 || ltB (l.getD (k - 1) ByteArray.empty) (l.getD k ByteArray.empty))
def namesB (l : List ByteArray) : Bool := (List.range l.length).all (nameStep l)
theorem all_range_ (p : Nat → Bool) (k : Nat) (h : (List.range k).all p = true) : (List.range (k + 1)).all p = p k := by
 rw [List.range_succ, List.all_append, h]; simp
theorem nameStep_at {l : List ByteArray} {k : Nat} (hk : k < l.length) : nameStep l k = (textB l[k] && (k == 0 || ltB (l.getD (k - 1) ByteArray.empty) l[k])) := by
 unfold nameStep
 rw [show l.getD k ByteArray.empty = l[k] by simp [List.getD_eq_getElem?_getD, hk]]
theorem namesB_no {l : List ByteArray} {k : Nat} (hk : k < l.length) (h : nameStep l k = false) : namesB l = false := by
 rw [namesB, List.all_eq_false]
 exact ⟨k, List.mem_range.2 hk, by simp [h]⟩
set_option maxRecDepth 100000 in
theorem impl_namesOk (A : Option Addr) (c : Nat) (l : List ByteArray) (w : World) (hr : str.C w A l) :
  Calls Tryd.prog 67 #[.slice A l.length c] w fun e w' => e = .returned (.bool (namesB l)) ∧ w = w' := by
 have hm := hr.1
 have HC := Hd.mk hr; clear hr
 go_enter Tryd.func67, Tryd.ntmps67
 go_wp2
 go_loop [7] (fun i => ∃ k : Nat, k ≤ l.length ∧ i = .int .i64 k ∧ Hd ((List.range k).all (nameStep l) = true)) (fun i => l.length - (intOf i).toNat)
 case atStart => exact ⟨0, Nat.zero_le _, rfl, ⟨rfl⟩⟩
 case round =>
  obtain ⟨k, hk, rfl, HA⟩ := hrel
  by_cases hlt : k < l.length
  ·obtain ⟨ad, rfl, hx, hsz⟩ := C_str_at HC.out (Below.refl _ _) k hlt
   have HP := Hd.mk (show ∀ j, k = j + 1 → ∃ hj : j < l.length, w.cell? (ad.add j) = some (.string l[j]) from fun j e => by
    obtain ⟨ad', e', h, _⟩ := C_str_at HC.out (Below.refl _ _) j (by omega)
    injection e' with e'; subst e'
    exact ⟨by omega, h⟩)
   have HA2 := Hd.mk (all_range_ (nameStep l) k HA.out)
   go_wp2_with fail
   refine (impl_textOk _ _ hsz).mono ?_
   rintro e w' ⟨rfl, rfl⟩
   cases hb : textB l[k]
   ·have HE := Hd.mk (show namesB l = false from namesB_no hlt (by rw [nameStep_at hlt, hb]; rfl))
    go_wp2_with fail
    go_ret
    exact ⟨by rw [HE.out]; rfl, rfl⟩
   have HE := Hd.mk (show nameStep l k = (k == 0 || ltB (l.getD (k - 1) ByteArray.empty) l[k]) by rw [nameStep_at hlt, hb]; rfl)
   clear hb
   cases k with
   | zero =>
    go_wp2_with fail
    go_round
    case rel => exact ⟨1, by omega, by go_num, ⟨by rw [HA2.out, HE.out]; rfl⟩⟩
    case measure => simp [intOf]; omega
   | succ j =>
    obtain ⟨hj, hx2⟩ := HP.out j rfl
    have HE2 := Hd.mk (show nameStep l (j + 1) = ltB l[j] l[j + 1] by rw [HE.out]; simp [List.getD_eq_getElem?_getD, hj])
    have hge := run_geq l[j] l[j + 1]
    cases h2 : ltB l[j] l[j + 1]
    all_goals rw [h2] at hge
    ·have HN := Hd.mk (show namesB l = false from namesB_no hlt (by rw [HE2.out, h2]))
     clear h2
     go_wp2_with fail
     go_ret
     exact ⟨by rw [HN.out]; rfl, rfl⟩
    ·have HN := Hd.mk (show nameStep l (j + 1) = true by rw [HE2.out, h2])
     clear h2
     go_wp2_with fail
     go_round
     case rel => exact ⟨j + 1 + 1, by omega, by go_num, ⟨by rw [HA2.out, HN.out]⟩⟩
     case measure => simp [intOf]; omega
  ·obtain rfl : k = l.length := by omega
   go_wp2_with fail
   go_ret
   exact ⟨by rw [namesB, HA.out]; rfl, rfl⟩
def ownB (j : J) : Bool :=
 if 0 < j.list.length && (j.kind != 4 && j.kind != 5) then false
 else if 0 < j.names.length && j.kind != 5 then false
 else if j.n != 0 && (j.kind != 1 && j.kind != 2) then false
 else if (!(j.s.toList == [])) && j.kind != 3 then false
 else if j.kind == 1 then inB j.n 0 1
 else if j.kind == 2 then isNumB j.n
 else if j.kind == 3 then textB j.s
 else if j.kind == 5 then ((j.names.length : Int) == j.list.length) && namesB j.names
 else j.kind == 0 || j.kind == 4
set_option maxHeartbeats 4000000 in
set_option maxRecDepth 100000 in
theorem impl_ownOk_0 {A1 A2 : Option Addr} {c1 c2 : Nat} {n : Int} {s : ByteArray} {list : List J} {names : List ByteArray} {w : World} (hs : s.size ≤ 9223372036854775807) (hm1 : list.length ≤ 9223372036854775807) (hr2 : str.C w A2 names) :
  Calls Tryd.prog 61 #[.agg #[.int .i64 0, .int .i64 n, .string s, .slice A1 list.length c1, .slice A2 names.length c2]] w fun e w' => e = .returned (.bool (ownB (J.mk 0 n s list names))) ∧ Below w.heap.size w w' := by
 have hm2 := hr2.1
 have HC2 := Hd.mk hr2; clear hr2
 have hB := Hd.mk (below_alloc (Below.refl w.heap.size w) (Obj.cells #[.int .i64 0, .int .i64 n, .string s, .slice A1 list.length c1, .slice A2 names.length c2] 43))
 go_enter Tryd.func61, Tryd.ntmps61
 by_cases h1 : 0 < list.length
 ·skip
  have HE := Hd.mk (show ownB (J.mk 0 n s list names) = false by simp_all [ownB, isNumB])
  go_wp2_with fail
  go_ret
  exact ⟨by rw [HE.out]; rfl, by exact hB.out⟩
 ·skip
  obtain rfl : list = [] := List.eq_nil_of_length_eq_zero (by omega)
  by_cases h2 : 0 < names.length
  ·skip
   have HE := Hd.mk (show ownB (J.mk 0 n s ([] : List J) names) = false by simp_all [ownB, isNumB])
   go_wp2_with fail
   go_ret
   exact ⟨by rw [HE.out]; rfl, by exact hB.out⟩
  ·skip
   obtain rfl : names = [] := List.eq_nil_of_length_eq_zero (by omega)
   cases h3 : (n != 0)
   case true =>
    have HE := Hd.mk (show ownB (J.mk 0 n s ([] : List J) ([] : List ByteArray)) = false by simp_all [ownB, isNumB])
    go_wp2_with fail
    go_ret
    exact ⟨by rw [HE.out]; rfl, by exact hB.out⟩
   case false =>
    cases h4 : (s.toList == [])
    case true =>
     have HE := Hd.mk (show ownB (J.mk 0 n s ([] : List J) ([] : List ByteArray)) = true by simp_all [ownB, isNumB])
     go_wp2_with fail
     go_ret
     exact ⟨by rw [HE.out]; rfl, by exact hB.out⟩
    case false =>
     have HE := Hd.mk (show ownB (J.mk 0 n s ([] : List J) ([] : List ByteArray)) = false by simp_all [ownB, isNumB])
     go_wp2_with fail
     go_ret
     exact ⟨by rw [HE.out]; rfl, by exact hB.out⟩
set_option maxHeartbeats 4000000 in
set_option maxRecDepth 100000 in
theorem impl_ownOk_1 {A1 A2 : Option Addr} {c1 c2 : Nat} {n : Int} {s : ByteArray} {list : List J} {names : List ByteArray} {w : World} (hs : s.size ≤ 9223372036854775807) (hm1 : list.length ≤ 9223372036854775807) (hr2 : str.C w A2 names) :
  Calls Tryd.prog 61 #[.agg #[.int .i64 1, .int .i64 n, .string s, .slice A1 list.length c1, .slice A2 names.length c2]] w fun e w' => e = .returned (.bool (ownB (J.mk 1 n s list names))) ∧ Below w.heap.size w w' := by
 have hm2 := hr2.1
 have HC2 := Hd.mk hr2; clear hr2
 have hB := Hd.mk (below_alloc (Below.refl w.heap.size w) (Obj.cells #[.int .i64 1, .int .i64 n, .string s, .slice A1 list.length c1, .slice A2 names.length c2] 43))
 go_enter Tryd.func61, Tryd.ntmps61
 by_cases h1 : 0 < list.length
 ·skip
  have HE := Hd.mk (show ownB (J.mk 1 n s list names) = false by simp_all [ownB, isNumB])
  go_wp2_with fail
  go_ret
  exact ⟨by rw [HE.out]; rfl, by exact hB.out⟩
 ·skip
  obtain rfl : list = [] := List.eq_nil_of_length_eq_zero (by omega)
  by_cases h2 : 0 < names.length
  ·skip
   have HE := Hd.mk (show ownB (J.mk 1 n s ([] : List J) names) = false by simp_all [ownB, isNumB])
   go_wp2_with fail
   go_ret
   exact ⟨by rw [HE.out]; rfl, by exact hB.out⟩
  ·skip
   obtain rfl : names = [] := List.eq_nil_of_length_eq_zero (by omega)
   cases h3 : (n != 0)
   case true =>
    cases h4 : (s.toList == [])
    case true =>
     have HE := Hd.mk (show ownB (J.mk 1 n s ([] : List J) ([] : List ByteArray)) = inB n 0 1 by simp_all [ownB, isNumB])
     go_wp2_with (go_at_call 64; refine (impl_within _ _ _ _).mono ?_; rintro e w' ⟨rfl, rfl⟩)
     go_ret
     exact ⟨by rw [HE.out]; rfl, by exact hB.out⟩
    case false =>
     have HE := Hd.mk (show ownB (J.mk 1 n s ([] : List J) ([] : List ByteArray)) = false by simp_all [ownB, isNumB])
     go_wp2_with fail
     go_ret
     exact ⟨by rw [HE.out]; rfl, by exact hB.out⟩
   case false =>
    cases h4 : (s.toList == [])
    case true =>
     have HE := Hd.mk (show ownB (J.mk 1 n s ([] : List J) ([] : List ByteArray)) = inB n 0 1 by simp_all [ownB, isNumB])
     go_wp2_with (go_at_call 64; refine (impl_within _ _ _ _).mono ?_; rintro e w' ⟨rfl, rfl⟩)
     go_ret
     exact ⟨by rw [HE.out]; rfl, by exact hB.out⟩
    case false =>
     have HE := Hd.mk (show ownB (J.mk 1 n s ([] : List J) ([] : List ByteArray)) = false by simp_all [ownB, isNumB])
     go_wp2_with fail
     go_ret
     exact ⟨by rw [HE.out]; rfl, by exact hB.out⟩
set_option maxHeartbeats 4000000 in
set_option maxRecDepth 100000 in
theorem impl_ownOk_2 {A1 A2 : Option Addr} {c1 c2 : Nat} {n : Int} {s : ByteArray} {list : List J} {names : List ByteArray} {w : World} (hs : s.size ≤ 9223372036854775807) (hm1 : list.length ≤ 9223372036854775807) (hr2 : str.C w A2 names) :
  Calls Tryd.prog 61 #[.agg #[.int .i64 2, .int .i64 n, .string s, .slice A1 list.length c1, .slice A2 names.length c2]] w fun e w' => e = .returned (.bool (ownB (J.mk 2 n s list names))) ∧ Below w.heap.size w w' := by
 have hm2 := hr2.1
 have HC2 := Hd.mk hr2; clear hr2
 have hB := Hd.mk (below_alloc (Below.refl w.heap.size w) (Obj.cells #[.int .i64 2, .int .i64 n, .string s, .slice A1 list.length c1, .slice A2 names.length c2] 43))
 go_enter Tryd.func61, Tryd.ntmps61
 by_cases h1 : 0 < list.length
 ·skip
  have HE := Hd.mk (show ownB (J.mk 2 n s list names) = false by simp_all [ownB, isNumB])
  go_wp2_with fail
  go_ret
  exact ⟨by rw [HE.out]; rfl, by exact hB.out⟩
 ·skip
  obtain rfl : list = [] := List.eq_nil_of_length_eq_zero (by omega)
  by_cases h2 : 0 < names.length
  ·skip
   have HE := Hd.mk (show ownB (J.mk 2 n s ([] : List J) names) = false by simp_all [ownB, isNumB])
   go_wp2_with fail
   go_ret
   exact ⟨by rw [HE.out]; rfl, by exact hB.out⟩
  ·skip
   obtain rfl : names = [] := List.eq_nil_of_length_eq_zero (by omega)
   cases h3 : (n != 0)
   case true =>
    cases h4 : (s.toList == [])
    case true =>
     have HE := Hd.mk (show ownB (J.mk 2 n s ([] : List J) ([] : List ByteArray)) = inB n (-1000000000) 1000000000 by simp_all [ownB, isNumB])
     go_wp2_with (go_at_call 65; refine (impl_isNum _ _).mono ?_; rintro e w' ⟨rfl, rfl⟩)
     go_ret
     exact ⟨by rw [HE.out]; rfl, by exact hB.out⟩
    case false =>
     have HE := Hd.mk (show ownB (J.mk 2 n s ([] : List J) ([] : List ByteArray)) = false by simp_all [ownB, isNumB])
     go_wp2_with fail
     go_ret
     exact ⟨by rw [HE.out]; rfl, by exact hB.out⟩
   case false =>
    cases h4 : (s.toList == [])
    case true =>
     have HE := Hd.mk (show ownB (J.mk 2 n s ([] : List J) ([] : List ByteArray)) = inB n (-1000000000) 1000000000 by simp_all [ownB, isNumB])
     go_wp2_with (go_at_call 65; refine (impl_isNum _ _).mono ?_; rintro e w' ⟨rfl, rfl⟩)
     go_ret
     exact ⟨by rw [HE.out]; rfl, by exact hB.out⟩
    case false =>
     have HE := Hd.mk (show ownB (J.mk 2 n s ([] : List J) ([] : List ByteArray)) = false by simp_all [ownB, isNumB])
     go_wp2_with fail
     go_ret
     exact ⟨by rw [HE.out]; rfl, by exact hB.out⟩
set_option maxHeartbeats 4000000 in
set_option maxRecDepth 100000 in
theorem impl_ownOk_3 {A1 A2 : Option Addr} {c1 c2 : Nat} {n : Int} {s : ByteArray} {list : List J} {names : List ByteArray} {w : World} (hs : s.size ≤ 9223372036854775807) (hm1 : list.length ≤ 9223372036854775807) (hr2 : str.C w A2 names) :
  Calls Tryd.prog 61 #[.agg #[.int .i64 3, .int .i64 n, .string s, .slice A1 list.length c1, .slice A2 names.length c2]] w fun e w' => e = .returned (.bool (ownB (J.mk 3 n s list names))) ∧ Below w.heap.size w w' := by
 have hm2 := hr2.1
 have HC2 := Hd.mk hr2; clear hr2
 have hB := Hd.mk (below_alloc (Below.refl w.heap.size w) (Obj.cells #[.int .i64 3, .int .i64 n, .string s, .slice A1 list.length c1, .slice A2 names.length c2] 43))
 go_enter Tryd.func61, Tryd.ntmps61
 by_cases h1 : 0 < list.length
 ·skip
  have HE := Hd.mk (show ownB (J.mk 3 n s list names) = false by simp_all [ownB, isNumB])
  go_wp2_with fail
  go_ret
  exact ⟨by rw [HE.out]; rfl, by exact hB.out⟩
 ·skip
  obtain rfl : list = [] := List.eq_nil_of_length_eq_zero (by omega)
  by_cases h2 : 0 < names.length
  ·skip
   have HE := Hd.mk (show ownB (J.mk 3 n s ([] : List J) names) = false by simp_all [ownB, isNumB])
   go_wp2_with fail
   go_ret
   exact ⟨by rw [HE.out]; rfl, by exact hB.out⟩
  ·skip
   obtain rfl : names = [] := List.eq_nil_of_length_eq_zero (by omega)
   cases h3 : (n != 0)
   case true =>
    have HE := Hd.mk (show ownB (J.mk 3 n s ([] : List J) ([] : List ByteArray)) = false by simp_all [ownB, isNumB])
    go_wp2_with fail
    go_ret
    exact ⟨by rw [HE.out]; rfl, by exact hB.out⟩
   case false =>
    cases h4 : (s.toList == [])
    case true =>
     have HE := Hd.mk (show ownB (J.mk 3 n s ([] : List J) ([] : List ByteArray)) = textB s by simp_all [ownB, isNumB])
     go_wp2_with (go_at_call 66; refine (impl_textOk _ _ hs).mono ?_; rintro e w' ⟨rfl, rfl⟩)
     go_ret
     exact ⟨by rw [HE.out]; rfl, by exact hB.out⟩
    case false =>
     have HE := Hd.mk (show ownB (J.mk 3 n s ([] : List J) ([] : List ByteArray)) = textB s by simp_all [ownB, isNumB])
     go_wp2_with (go_at_call 66; refine (impl_textOk _ _ hs).mono ?_; rintro e w' ⟨rfl, rfl⟩)
     go_ret
     exact ⟨by rw [HE.out]; rfl, by exact hB.out⟩
set_option maxHeartbeats 4000000 in
set_option maxRecDepth 100000 in
theorem impl_ownOk_4a {A1 A2 : Option Addr} {c1 c2 : Nat} {n : Int} {s : ByteArray} {list : List J} {names : List ByteArray} {w : World} (hs : s.size ≤ 9223372036854775807) (hm1 : list.length ≤ 9223372036854775807) (hr2 : str.C w A2 names) (h1 : 0 < list.length) :
  Calls Tryd.prog 61 #[.agg #[.int .i64 4, .int .i64 n, .string s, .slice A1 list.length c1, .slice A2 names.length c2]] w fun e w' => e = .returned (.bool (ownB (J.mk 4 n s list names))) ∧ Below w.heap.size w w' := by
 have hm2 := hr2.1
 have HC2 := Hd.mk hr2; clear hr2
 have hB := Hd.mk (below_alloc (Below.refl w.heap.size w) (Obj.cells #[.int .i64 4, .int .i64 n, .string s, .slice A1 list.length c1, .slice A2 names.length c2] 43))
 go_enter Tryd.func61, Tryd.ntmps61
 by_cases h2 : 0 < names.length
 ·skip
  have HE := Hd.mk (show ownB (J.mk 4 n s list names) = false by simp_all [ownB, isNumB])
  go_wp2_with fail
  go_ret
  exact ⟨by rw [HE.out]; rfl, by exact hB.out⟩
 ·skip
  obtain rfl : names = [] := List.eq_nil_of_length_eq_zero (by omega)
  cases h3 : (n != 0)
  case true =>
   have HE := Hd.mk (show ownB (J.mk 4 n s list ([] : List ByteArray)) = false by simp_all [ownB, isNumB])
   go_wp2_with fail
   go_ret
   exact ⟨by rw [HE.out]; rfl, by exact hB.out⟩
  case false =>
   cases h4 : (s.toList == [])
   case true =>
    have HE := Hd.mk (show ownB (J.mk 4 n s list ([] : List ByteArray)) = true by simp_all [ownB, isNumB])
    go_wp2_with fail
    go_ret
    exact ⟨by rw [HE.out]; rfl, by exact hB.out⟩
   case false =>
    have HE := Hd.mk (show ownB (J.mk 4 n s list ([] : List ByteArray)) = false by simp_all [ownB, isNumB])
    go_wp2_with fail
    go_ret
    exact ⟨by rw [HE.out]; rfl, by exact hB.out⟩
set_option maxHeartbeats 4000000 in
set_option maxRecDepth 100000 in
theorem impl_ownOk_4b {A1 A2 : Option Addr} {c1 c2 : Nat} {n : Int} {s : ByteArray} {list : List J} {names : List ByteArray} {w : World} (hs : s.size ≤ 9223372036854775807) (hm1 : list.length ≤ 9223372036854775807) (hr2 : str.C w A2 names) (h1 : ¬ 0 < list.length) :
  Calls Tryd.prog 61 #[.agg #[.int .i64 4, .int .i64 n, .string s, .slice A1 list.length c1, .slice A2 names.length c2]] w fun e w' => e = .returned (.bool (ownB (J.mk 4 n s list names))) ∧ Below w.heap.size w w' := by
 have hm2 := hr2.1
 have HC2 := Hd.mk hr2; clear hr2
 have hB := Hd.mk (below_alloc (Below.refl w.heap.size w) (Obj.cells #[.int .i64 4, .int .i64 n, .string s, .slice A1 list.length c1, .slice A2 names.length c2] 43))
 go_enter Tryd.func61, Tryd.ntmps61
 obtain rfl : list = [] := List.eq_nil_of_length_eq_zero (by omega)
 by_cases h2 : 0 < names.length
 ·skip
  have HE := Hd.mk (show ownB (J.mk 4 n s ([] : List J) names) = false by simp_all [ownB, isNumB])
  go_wp2_with fail
  go_ret
  exact ⟨by rw [HE.out]; rfl, by exact hB.out⟩
 ·skip
  obtain rfl : names = [] := List.eq_nil_of_length_eq_zero (by omega)
  cases h3 : (n != 0)
  case true =>
   have HE := Hd.mk (show ownB (J.mk 4 n s ([] : List J) ([] : List ByteArray)) = false by simp_all [ownB, isNumB])
   go_wp2_with fail
   go_ret
   exact ⟨by rw [HE.out]; rfl, by exact hB.out⟩
  case false =>
   cases h4 : (s.toList == [])
   case true =>
    have HE := Hd.mk (show ownB (J.mk 4 n s ([] : List J) ([] : List ByteArray)) = true by simp_all [ownB, isNumB])
    go_wp2_with fail
    go_ret
    exact ⟨by rw [HE.out]; rfl, by exact hB.out⟩
   case false =>
    have HE := Hd.mk (show ownB (J.mk 4 n s ([] : List J) ([] : List ByteArray)) = false by simp_all [ownB, isNumB])
    go_wp2_with fail
    go_ret
    exact ⟨by rw [HE.out]; rfl, by exact hB.out⟩
set_option maxHeartbeats 4000000 in
set_option maxRecDepth 100000 in
theorem impl_ownOk_5a {A1 A2 : Option Addr} {c1 c2 : Nat} {n : Int} {s : ByteArray} {list : List J} {names : List ByteArray} {w : World} (hs : s.size ≤ 9223372036854775807) (hm1 : list.length ≤ 9223372036854775807) (hr2 : str.C w A2 names) (h1 : 0 < list.length) :
  Calls Tryd.prog 61 #[.agg #[.int .i64 5, .int .i64 n, .string s, .slice A1 list.length c1, .slice A2 names.length c2]] w fun e w' => e = .returned (.bool (ownB (J.mk 5 n s list names))) ∧ Below w.heap.size w w' := by
 have hm2 := hr2.1
 have HC2 := Hd.mk hr2; clear hr2
 have hB := Hd.mk (below_alloc (Below.refl w.heap.size w) (Obj.cells #[.int .i64 5, .int .i64 n, .string s, .slice A1 list.length c1, .slice A2 names.length c2] 43))
 go_enter Tryd.func61, Tryd.ntmps61
 by_cases h2 : 0 < names.length
 ·skip
  cases h3 : (n != 0)
  case true =>
   have HE := Hd.mk (show ownB (J.mk 5 n s list names) = false by simp_all [ownB, isNumB])
   go_wp2_with fail
   go_ret
   exact ⟨by rw [HE.out]; rfl, by exact hB.out⟩
  case false =>
   cases h4 : (s.toList == [])
   case true =>
    cases hq : ((names.length : Int) == list.length)
    ·skip
     have HE := Hd.mk (show ownB (J.mk 5 n s list names) = false by simp_all [ownB, isNumB])
     go_wp2_with fail
     go_ret
     exact ⟨by rw [HE.out]; rfl, by exact hB.out⟩
    ·skip
     have HE := Hd.mk (show ownB (J.mk 5 n s list names) = namesB names by simp_all [ownB, isNumB])
     go_wp2_with (go_at_call 67; refine (impl_namesOk A2 c2 names _ (C_below HC2.out hB.out)).mono ?_; rintro e w' ⟨rfl, rfl⟩)
     go_ret
     exact ⟨by rw [HE.out]; rfl, by exact hB.out⟩
   case false =>
    have HE := Hd.mk (show ownB (J.mk 5 n s list names) = false by simp_all [ownB, isNumB])
    go_wp2_with fail
    go_ret
    exact ⟨by rw [HE.out]; rfl, by exact hB.out⟩
 ·skip
  obtain rfl : names = [] := List.eq_nil_of_length_eq_zero (by omega)
  cases h3 : (n != 0)
  case true =>
   have HE := Hd.mk (show ownB (J.mk 5 n s list ([] : List ByteArray)) = false by simp_all [ownB, isNumB])
   go_wp2_with fail
   go_ret
   exact ⟨by rw [HE.out]; rfl, by exact hB.out⟩
  case false =>
   cases h4 : (s.toList == [])
   case true =>
    have hq : (((([] : List ByteArray)).length : Int) == (list).length) = false := by rw [beq_eq_false_iff_ne]; simp only [List.length_nil]; omega
    have HE := Hd.mk (show ownB (J.mk 5 n s list ([] : List ByteArray)) = false by simp_all [ownB, isNumB])
    go_wp2_with fail
    go_ret
    exact ⟨by rw [HE.out]; rfl, by exact hB.out⟩
   case false =>
    have HE := Hd.mk (show ownB (J.mk 5 n s list ([] : List ByteArray)) = false by simp_all [ownB, isNumB])
    go_wp2_with fail
    go_ret
    exact ⟨by rw [HE.out]; rfl, by exact hB.out⟩
set_option maxHeartbeats 4000000 in
set_option maxRecDepth 100000 in
theorem impl_ownOk_5b {A1 A2 : Option Addr} {c1 c2 : Nat} {n : Int} {s : ByteArray} {list : List J} {names : List ByteArray} {w : World} (hs : s.size ≤ 9223372036854775807) (hm1 : list.length ≤ 9223372036854775807) (hr2 : str.C w A2 names) (h1 : ¬ 0 < list.length) :
  Calls Tryd.prog 61 #[.agg #[.int .i64 5, .int .i64 n, .string s, .slice A1 list.length c1, .slice A2 names.length c2]] w fun e w' => e = .returned (.bool (ownB (J.mk 5 n s list names))) ∧ Below w.heap.size w w' := by
 have hm2 := hr2.1
 have HC2 := Hd.mk hr2; clear hr2
 have hB := Hd.mk (below_alloc (Below.refl w.heap.size w) (Obj.cells #[.int .i64 5, .int .i64 n, .string s, .slice A1 list.length c1, .slice A2 names.length c2] 43))
 go_enter Tryd.func61, Tryd.ntmps61
 obtain rfl : list = [] := List.eq_nil_of_length_eq_zero (by omega)
 by_cases h2 : 0 < names.length
 ·skip
  cases h3 : (n != 0)
  case true =>
   have HE := Hd.mk (show ownB (J.mk 5 n s ([] : List J) names) = false by simp_all [ownB, isNumB])
   go_wp2_with fail
   go_ret
   exact ⟨by rw [HE.out]; rfl, by exact hB.out⟩
  case false =>
   cases h4 : (s.toList == [])
   case true =>
    have hq : (((names).length : Int) == (([] : List J)).length) = false := by rw [beq_eq_false_iff_ne]; simp only [List.length_nil]; omega
    have hq2 : ((names.length : Int) == 0) = false := by rw [beq_eq_false_iff_ne]; omega
    have HE := Hd.mk (show ownB (J.mk 5 n s ([] : List J) names) = false by simp_all [ownB, isNumB])
    go_wp2_with fail
    go_ret
    exact ⟨by rw [HE.out]; rfl, by exact hB.out⟩
   case false =>
    have HE := Hd.mk (show ownB (J.mk 5 n s ([] : List J) names) = false by simp_all [ownB, isNumB])
    go_wp2_with fail
    go_ret
    exact ⟨by rw [HE.out]; rfl, by exact hB.out⟩
 ·skip
  obtain rfl : names = [] := List.eq_nil_of_length_eq_zero (by omega)
  cases h3 : (n != 0)
  case true =>
   have HE := Hd.mk (show ownB (J.mk 5 n s ([] : List J) ([] : List ByteArray)) = false by simp_all [ownB, isNumB])
   go_wp2_with fail
   go_ret
   exact ⟨by rw [HE.out]; rfl, by exact hB.out⟩
  case false =>
   cases h4 : (s.toList == [])
   case true =>
    have HE := Hd.mk (show ownB (J.mk 5 n s ([] : List J) ([] : List ByteArray)) = namesB ([] : List ByteArray) by simp_all [ownB, isNumB])
    go_wp2_with (go_at_call 67; refine (impl_namesOk A2 c2 ([] : List ByteArray) _ (C_below HC2.out hB.out)).mono ?_; rintro e w' ⟨rfl, rfl⟩)
    go_ret
    exact ⟨by rw [HE.out]; rfl, by exact hB.out⟩
   case false =>
    have HE := Hd.mk (show ownB (J.mk 5 n s ([] : List J) ([] : List ByteArray)) = false by simp_all [ownB, isNumB])
    go_wp2_with fail
    go_ret
    exact ⟨by rw [HE.out]; rfl, by exact hB.out⟩
set_option maxHeartbeats 4000000 in
set_option maxRecDepth 100000 in
theorem impl_ownOk_o {A1 A2 : Option Addr} {c1 c2 : Nat} {kind n : Int} {s : ByteArray} {list : List J} {names : List ByteArray} {w : World} (hs : s.size ≤ 9223372036854775807) (hm1 : list.length ≤ 9223372036854775807) (hr2 : str.C w A2 names) (e0 : (kind == 0) = false) (f0 : (kind != 0) = true) (e1 : (kind == 1) = false) (f1 : (kind != 1) = true) (e2 : (kind == 2) = false) (f2 : (kind != 2) = true) (e3 : (kind == 3) = false) (f3 : (kind != 3) = true) (e4 : (kind == 4) = false) (f4 : (kind != 4) = true) (e5 : (kind == 5) = false) (f5 : (kind != 5) = true) :
  Calls Tryd.prog 61 #[.agg #[.int .i64 kind, .int .i64 n, .string s, .slice A1 list.length c1, .slice A2 names.length c2]] w fun e w' => e = .returned (.bool (ownB (J.mk kind n s list names))) ∧ Below w.heap.size w w' := by
 have hm2 := hr2.1
 have HC2 := Hd.mk hr2; clear hr2
 have hB := Hd.mk (below_alloc (Below.refl w.heap.size w) (Obj.cells #[.int .i64 kind, .int .i64 n, .string s, .slice A1 list.length c1, .slice A2 names.length c2] 43))
 go_enter Tryd.func61, Tryd.ntmps61
 by_cases h1 : 0 < list.length
 ·skip
  have HE := Hd.mk (show ownB (J.mk kind n s list names) = false by simp_all [ownB, isNumB])
  go_wp2_with fail
  go_ret
  exact ⟨by rw [HE.out]; rfl, by exact hB.out⟩
 ·skip
  obtain rfl : list = [] := List.eq_nil_of_length_eq_zero (by omega)
  by_cases h2 : 0 < names.length
  ·skip
   have HE := Hd.mk (show ownB (J.mk kind n s ([] : List J) names) = false by simp_all [ownB, isNumB])
   go_wp2_with fail
   go_ret
   exact ⟨by rw [HE.out]; rfl, by exact hB.out⟩
  ·skip
   obtain rfl : names = [] := List.eq_nil_of_length_eq_zero (by omega)
   cases h3 : (n != 0)
   case true =>
    have HE := Hd.mk (show ownB (J.mk kind n s ([] : List J) ([] : List ByteArray)) = false by simp_all [ownB, isNumB])
    go_wp2_with fail
    go_ret
    exact ⟨by rw [HE.out]; rfl, by exact hB.out⟩
   case false =>
    cases h4 : (s.toList == [])
    case true =>
     have HE := Hd.mk (show ownB (J.mk kind n s ([] : List J) ([] : List ByteArray)) = false by simp_all [ownB, isNumB])
     go_wp2_with fail
     go_ret
     exact ⟨by rw [HE.out]; rfl, by exact hB.out⟩
    case false =>
     have HE := Hd.mk (show ownB (J.mk kind n s ([] : List J) ([] : List ByteArray)) = false by simp_all [ownB, isNumB])
     go_wp2_with fail
     go_ret
     exact ⟨by rw [HE.out]; rfl, by exact hB.out⟩
theorem impl_ownOk {m : Nat} (x : J) (cs : List Value) (w : World) (hk : (tJ (m + 1)).K w x cs) :
  Calls Tryd.prog 61 #[.agg cs.toArray] w fun e w' => e = .returned (.bool (ownB x)) ∧ Below w.heap.size w w' := by
 obtain ⟨A1, c1, A2, c2, rfl, hs, ⟨hc1, hr1⟩, hc2, hr2⟩ := tJ_K.1 hk
 clear hk
 obtain ⟨kind, n, s, list, names⟩ := x
 have hm1 := hr1.1
 by_cases k0 : kind = 0
 ·subst k0
  exact impl_ownOk_0 hs hm1 hr2
 by_cases k1 : kind = 1
 ·subst k1
  exact impl_ownOk_1 hs hm1 hr2
 by_cases k2 : kind = 2
 ·subst k2
  exact impl_ownOk_2 hs hm1 hr2
 by_cases k3 : kind = 3
 ·subst k3
  exact impl_ownOk_3 hs hm1 hr2
 by_cases k4 : kind = 4
 ·subst k4
  by_cases h1 : 0 < list.length
  ·exact impl_ownOk_4a hs hm1 hr2 h1
  ·exact impl_ownOk_4b hs hm1 hr2 h1
 by_cases k5 : kind = 5
 ·subst k5
  by_cases h1 : 0 < list.length
  ·exact impl_ownOk_5a hs hm1 hr2 h1
  ·exact impl_ownOk_5b hs hm1 hr2 h1
 exact impl_ownOk_o hs hm1 hr2 (by simpa using k0) (by simpa using k0) (by simpa using k1) (by simpa using k1) (by simpa using k2) (by simpa using k2) (by simpa using k3) (by simpa using k3) (by simpa using k4) (by simpa using k4) (by simpa using k5) (by simpa using k5)
def sumZ {α : Type} (f : α → Int) : List α → Int
 | [] => 0
 | x :: l => f x + sumZ f l
theorem sumZ_append {α : Type} (f : α → Int) (l m : List α) : sumZ f (l ++ m) = sumZ f l + sumZ f m := by
 induction l with
 | nil => simp [sumZ]
 | cons x l ih => simp only [List.cons_append, sumZ, ih]; omega
theorem sumZ_take {α : Type} (f : α → Int) (l : List α) (k : Nat) (hk : k < l.length) : sumZ f (l.take (k + 1)) = sumZ f (l.take k) + f l[k] := by
 rw [List.take_succ_eq_append_getElem hk, sumZ_append]; simp [sumZ]
theorem sumZ_pos {α : Type} (f : α → Int) (h : ∀ x, 0 ≤ f x) : ∀ l : List α, 0 ≤ sumZ f l
 | [] => Int.le_refl 0
 | x :: l => by have := h x; have := sumZ_pos f h l; simp only [sumZ]; omega
theorem sumZ_le {α : Type} (f : α → Int) (h : ∀ x, 0 ≤ f x) (l : List α) (k : Nat) : sumZ f (l.take k) ≤ sumZ f l := by
 have h1 := sumZ_append f (l.take k) (l.drop k)
 have h2 := sumZ_pos f h (l.drop k)
 rw [List.take_append_drop] at h1
 omega
def sizeN : Nat → J → Int
 | 0, _ => 401
 | d + 1, j => if ownB j = true ∧ 1 + sumZ (sizeN d) j.list ≤ 400 then 1 + sumZ (sizeN d) j.list else 401
theorem sizeN_bound : ∀ (d : Nat) (j : J), 1 ≤ sizeN d j ∧ sizeN d j ≤ 401
 | 0, j => by simp [sizeN]
 | d + 1, j => by
  have := sumZ_pos (sizeN d) (fun x => by have := (sizeN_bound d x).1; omega) j.list
  unfold sizeN
  split <;> omega
theorem sizeN_pos (d : Nat) (x : J) : 0 ≤ sizeN d x := by have := (sizeN_bound d x).1; omega
def SizeC (m : Nat) : Prop := ∀ (x : J) (cs : List Value) (d : Nat) (w : World), d ≤ 6 → (tJ m).K w x cs →
 Calls Tryd.prog 54 #[.agg cs.toArray, .int .i64 d] w fun e w' => e = .returned (.int .i64 (sizeN d x)) ∧ Below w.heap.size w w'
set_option maxRecDepth 100000 in
theorem impl_sizeIn_of {m : Nat} (ih : SizeC m) : SizeC (m + 1) := by
 intro x cs d w hd hk
 have HK := Hd.mk hk
 obtain ⟨A1, c1, A2, c2, rfl, hs, ⟨hc1, hr1⟩, hc2, hr2⟩ := tJ_K.1 hk
 clear hk
 have hm1 := hr1.1
 have HC := Hd.mk hr1; clear hr1 hr2
 have hB := Hd.mk (below_alloc (Below.refl w.heap.size w) (Obj.cells #[.int .i64 x.kind, .int .i64 x.n, .string x.s, .slice A1 x.list.length c1, .slice A2 x.names.length c2] 43))
 have b0 := Blk.new w #[.int .i64 x.kind, .int .i64 x.n, .string x.s, .slice A1 x.list.length c1, .slice A2 x.names.length c2] 43
 go_enter Tryd.func54, Tryd.ntmps54
 cases d with
 | zero =>
  go_wp2_with fail
  go_ret
  exact ⟨rfl, by exact hB.out⟩
 | succ d =>
  go_wp2_with fail
  generalize w.alloc (Obj.cells #[Value.int IntKind.i64 x.kind, Value.int IntKind.i64 x.n, Value.string x.s, Value.slice A1 x.list.length c1, Value.slice A2 x.names.length c2] 43) = W0 at hB b0 ⊢
  refine (impl_ownOk x _ _ ((tJ (m + 1)).K_below hB.out HK.out)).mono ?_
  rintro e w1 ⟨rfl, hX⟩
  replace b0 := b0.below hX
  replace hB := Hd.mk (below_then hB.out hX)
  clear hX
  have f3 : w1.cell? ⟨w.heap.size, 3, none⟩ = some (.slice A1 x.list.length c1) := b0.cell 3 rfl
  cases h1 : ownB x
  ·have HE := Hd.mk (show sizeN (d + 1) x = 401 by simp [sizeN, h1])
   go_wp2_with fail
   go_ret
   exact ⟨by rw [HE.out]; rfl, hB.out⟩
  have HE := Hd.mk (show sizeN (d + 1) x = if 1 + sumZ (sizeN d) x.list ≤ 400 then 1 + sumZ (sizeN d) x.list else 401 by simp [sizeN, h1])
  clear h1
  go_wp2_with fail
  clear f3
  have hB := Hd.mk hB
  go_loopw [5, 18] (fun v i wr => ∃ k : Nat, k ≤ x.list.length ∧ i = .int .i64 k ∧ v = .int .i64 (1 + sumZ (sizeN d) (x.list.take k)) ∧ Hd (1 + sumZ (sizeN d) (x.list.take k) ≤ 400) ∧ Hd (Below w.heap.size w wr)) (fun _ i _ => x.list.length - (intOf i).toNat)
  case atStart => exact ⟨0, Nat.zero_le _, rfl, rfl, ⟨by simp [sumZ]⟩, hB.out⟩
  case round =>
   clear hB b0
   obtain ⟨k, hk, rfl, rfl, HZ, hB⟩ := hrel
   have hz0 := sumZ_pos (sizeN d) (sizeN_pos d) (x.list.take k)
   have hz1 := HZ.out
   by_cases hlt : k < x.list.length
   ·obtain ⟨m, rfl⟩ : ∃ m1 : Nat, m = m1 + 1 := by
     cases m with
     | zero => obtain ⟨_, _, _, h, _⟩ := C_at HC.out (Below.refl _ _) k hlt; exact h.elim
     | succ m => exact ⟨m, rfl⟩
    obtain ⟨ad, A3, c3, A4, c4, rfl, x0, x1, x2, x3, x4, hs4, hr3, hr4⟩ := C_J_at HC.out hB.out k hlt
    have HK4 := Hd.mk (tJ_K.2 ⟨A3, c3, A4, c4, rfl, hs4, hr3, hr4⟩ : (tJ (m + 1)).K wr x.list[k] _)
    clear hr3 hr4
    have hb := sizeN_bound d x.list[k]
    have hb1 := hb.1
    have hb2 := hb.2
    clear hb
    have HT := Hd.mk (sumZ_take (sizeN d) x.list k hlt)
    go_wp2_with fail
    apply calls_gen; intro W hW
    have hX : Below wr.heap.size wr W := by rw [hW]; exact below_alloc (Below.refl _ _) _
    clear hW
    refine (ih x.list[k] _ d _ (by omega) ((tJ (m + 1)).K_below hX HK4.out)).mono ?_
    rintro e w2 ⟨rfl, hX2⟩
    have hB2 := Hd.mk (below_then hB.out (below_then hX hX2))
    clear hX hX2
    by_cases hz : 400 < 1 + sumZ (sizeN d) (x.list.take k) + sizeN d x.list[k]
    ·have HN := Hd.mk (show sizeN (d + 1) x = 401 by
      have h4 := sumZ_le (sizeN d) (sizeN_pos d) x.list (k + 1)
      rw [HE.out, if_neg (by rw [HT.out] at h4; omega)])
     go_wp2_with fail
     go_ret
     exact ⟨by rw [HN.out]; rfl, hB2.out⟩
    ·have HN := Hd.mk (show 1 + sumZ (sizeN d) (x.list.take (k + 1)) ≤ 400 by rw [HT.out]; omega)
     go_wp2_with fail
     go_roundw
     case rel => exact ⟨k + 1, by omega, by go_num, by rw [HT.out, Int.add_assoc], HN, hB2⟩
     case measure => simp [intOf]; omega
   ·obtain rfl : k = x.list.length := by omega
    have HN := Hd.mk (show sizeN (d + 1) x = 1 + sumZ (sizeN d) (x.list.take x.list.length) by
     have := HZ.out
     rw [HE.out, List.take_length] at *
     rw [if_pos this])
    go_wp2_with fail
    go_ret
    exact ⟨by rw [HN.out]; rfl, hB.out⟩
theorem sizeIn_all : ∀ m, SizeC m
 | 0 => fun _ _ _ _ _ hk => hk.elim
 | m + 1 => impl_sizeIn_of (sizeIn_all m)
def jsonOk (x : J) : Bool := decide (sizeN 6 x ≤ 400)
def jsonSize (x : J) : Int := if sizeN 6 x ≤ 400 then sizeN 6 x else 0
set_option maxRecDepth 100000 in
theorem impl_JsonOk {m : Nat} (x : J) (cs : List Value) (w : World) (hk : (tJ (m + 1)).K w x cs) :
  Calls Tryd.prog 42 #[.agg cs.toArray] w fun e w' => e = .returned (.bool (jsonOk x)) ∧ Below w.heap.size w w' := by
 have HK := Hd.mk hk
 obtain ⟨A1, c1, A2, c2, rfl, hs, ⟨hc1, hr1⟩, hc2, hr2⟩ := tJ_K.1 hk
 clear hk hr1 hr2
 have hb := sizeN_bound 6 x
 have hb1 := hb.1
 have hb2 := hb.2
 clear hb
 go_enter Tryd.func42, Tryd.ntmps42
 go_wp2_with fail
 apply calls_gen; intro W hW
 have hX : Below w.heap.size w W := by rw [hW]; exact below_alloc (Below.refl _ _) _
 clear hW
 refine (sizeIn_all (m + 1) x _ 6 W (by omega) ((tJ (m + 1)).K_below hX HK.out)).mono ?_
 rintro e w1 ⟨rfl, hX1⟩
 have hB := Hd.mk (below_then hX hX1); clear hX hX1
 by_cases h : sizeN 6 x ≤ 400
 ·have HE := Hd.mk (show jsonOk x = true by simp [jsonOk, h])
  go_wp2_with fail
  go_ret
  exact ⟨by first | (rw [HE.out]; rfl) | rfl, hB.out⟩
 ·have HE := Hd.mk (show jsonOk x = false by simp [jsonOk, h])
  go_wp2_with fail
  go_ret
  exact ⟨by first | (rw [HE.out]; rfl) | rfl, hB.out⟩
def namesOkB (x : J) : Bool := if x.kind == 5 then namesB x.names && ((x.names.length : Int) == x.list.length) else ((x.names.length : Int) == 0)
set_option maxRecDepth 100000 in
theorem spec_l1Names {m : Nat} (x : J) (cs : List Value) (w : World) (hk : (tJ (m + 1)).K w x cs) :
  Calls Tryd.prog 60 #[.agg cs.toArray] w fun e w' => e = .returned (.bool (namesOkB x)) ∧ Below w.heap.size w w' := by
 obtain ⟨A1, c1, A2, c2, rfl, hs, ⟨hc1, hr1⟩, hc2, hr2⟩ := tJ_K.1 hk
 clear hk
 have hm1 := hr1.1
 have hm2 := hr2.1
 have HC := Hd.mk hr2; clear hr1 hr2
 have hB := Hd.mk (below_alloc (Below.refl w.heap.size w) (Obj.cells #[.int .i64 x.kind, .int .i64 x.n, .string x.s, .slice A1 x.list.length c1, .slice A2 x.names.length c2] 43))
 have b0 := Blk.new w #[.int .i64 x.kind, .int .i64 x.n, .string x.s, .slice A1 x.list.length c1, .slice A2 x.names.length c2] 43
 go_enter Tryd.func60, Tryd.ntmps60
 cases h5 : (x.kind != 5)
 case true =>
  have HE := Hd.mk (show namesOkB x = ((x.names.length : Int) == 0) by
   have : (x.kind == 5) = false := by simpa using h5
   rw [namesOkB, this]; rfl)
  go_wp2_with fail
  go_ret
  exact ⟨by rw [HE.out]; rfl, hB.out⟩
 have HE := Hd.mk (show namesOkB x = (namesB x.names && ((x.names.length : Int) == x.list.length)) by
  have : (x.kind == 5) = true := by simpa using h5
  rw [namesOkB, this]; rfl)
 go_wp2_with fail
 go_loopw [3] (fun i wr => ∃ k : Nat, k ≤ x.names.length ∧ i = .int .i64 k ∧ Hd ((List.range k).all (nameStep x.names) = true) ∧ Hd (Below w.heap.size w wr) ∧ Blk wr w.heap.size #[.int .i64 x.kind, .int .i64 x.n, .string x.s, .slice A1 x.list.length c1, .slice A2 x.names.length c2] 43) (fun i _ => x.names.length - (intOf i).toNat)
 case atStart => exact ⟨0, Nat.zero_le _, rfl, ⟨rfl⟩, hB, b0⟩
 case round =>
  clear hB b0
  obtain ⟨k, hk, rfl, HA, hB, b0⟩ := hrel
  have f4 : wr.cell? ⟨w.heap.size, 4, none⟩ = some (.slice A2 x.names.length c2) := b0.cell 4 rfl
  have f3 : wr.cell? ⟨w.heap.size, 3, none⟩ = some (.slice A1 x.list.length c1) := b0.cell 3 rfl
  by_cases hlt : k < x.names.length
  ·obtain ⟨ad, rfl, hx, hsz⟩ := C_str_at HC.out hB.out k hlt
   have HP := Hd.mk (show ∀ j, k = j + 1 → ∃ hj : j < x.names.length, wr.cell? (ad.add j) = some (.string x.names[j]) from fun j e => by
    obtain ⟨ad', e', h, _⟩ := C_str_at HC.out hB.out j (by omega)
    injection e' with e'; subst e'
    exact ⟨by omega, h⟩)
   have HA2 := Hd.mk (all_range_ (nameStep x.names) k HA.out)
   have y4 := cell_regrown f4
   have y0 := cell_regrown hx
   go_wp2_with fail
   refine region_mix [(true, 0), (true, 1), (true, 2), (true, 3), (true, 4), (false, 5), (true, 6), (true, 7), (true, 8), (true, 9), (true, 10), (true, 11), (true, 12), (true, 13), (true, 14), (true, 15), (true, 16), (true, 17), (true, 18), (true, 19), (true, 20), (true, 21), (true, 22), (true, 23), (true, 24)] (by kernel_rfl) (by kernel_rfl) (fun _ _ _ _ _ h => h) ?_
   (repeat (first | (refine mix_z rfl (by rfl) ?_; go_big_quiet_skip; refine wpQuiet_nil ?_) | (refine mix_q rfl ?_; first | (go_big_quiet_skip; refine wpQuiet_nil ?_) | (go_big_quiet_want; go_big_quiet_op; go_big_quiet_on; refine wpQuiet_nil ?_))))
   refine mix_b rfl ?_ (by rfl)
   go_wp2_with fail
   apply calls_gen; intro W1 hW
   have hS : Below wr.heap.size wr W1 := by rw [hW]; exact below_drew (Below.refl _ _)
   clear hW
   refine (spec_l1Text _ _ hsz).mono ?_
   rintro e w1 ⟨rfl, rfl⟩
   have hS1 := Hd.mk hS
   have hB1 := Hd.mk (below_then hB.out hS)
   have b01 := b0.below hS
   clear hS
   cases hb : textB x.names[k]
   ·have HN := Hd.mk (show namesOkB x = false by rw [HE.out, namesB_no hlt (by rw [nameStep_at hlt, hb]; rfl)]; rfl)
    go_wp2_with fail
    refine ⟨cls_below hS1.out, ?_⟩
    (repeat (first | (refine mix_z rfl (by rfl) ?_; go_big_quiet_skip; refine wpQuiet_nil ?_) | (refine mix_q rfl ?_; first | (go_big_quiet_skip; refine wpQuiet_nil ?_) | (go_big_quiet_want; go_big_quiet_op; go_big_quiet_on; refine wpQuiet_nil ?_))))
    refine mix_nil ?_
    go_wp2_with fail
    go_ret
    exact ⟨by rw [HN.out]; rfl, hB1.out⟩
   have HE1 := Hd.mk (show nameStep x.names k = (k == 0 || ltB (x.names.getD (k - 1) ByteArray.empty) x.names[k]) by rw [nameStep_at hlt, hb]; rfl)
   clear hb
   cases k with
   | zero =>
    go_wp2_with fail
    refine ⟨cls_below hS1.out, ?_⟩
    (repeat (first | (refine mix_z rfl (by rfl) ?_; go_big_quiet_skip; refine wpQuiet_nil ?_) | (refine mix_q rfl ?_; first | (go_big_quiet_skip; refine wpQuiet_nil ?_) | (go_big_quiet_want; go_big_quiet_op; go_big_quiet_on; refine wpQuiet_nil ?_))))
    refine mix_nil ?_
    clear y4 y0
    go_wp2_with fail
    go_roundw
    case rel => exact ⟨1, by omega, by go_num, ⟨by rw [HA2.out, HE1.out]; rfl⟩, hB1, b01⟩
    case measure => simp [intOf]; omega
   | succ j =>
    obtain ⟨hj, hx2⟩ := HP.out j rfl
    have y3 := cell_regrown hx2
    have y5 := cell_regrown (show wr.cell? ⟨ad.block, ad.off + (j + 1), none⟩ = some (.string x.names[j + 1]) by have := hx; unfold Addr.add at this; simpa using this)
    have HE2 := Hd.mk (show nameStep x.names (j + 1) = ltB x.names[j] x.names[j + 1] by rw [HE1.out]; simp [List.getD_eq_getElem?_getD, hj])
    have hge := run_geq x.names[j] x.names[j + 1]
    cases h2 : ltB x.names[j] x.names[j + 1]
    all_goals rw [h2] at hge
    ·have HN := Hd.mk (show namesOkB x = false by rw [HE.out, namesB_no hlt (by rw [HE2.out, h2])]; rfl)
     clear h2
     go_wp2_with fail
     refine ⟨cls_below hS1.out, ?_⟩
     (repeat (first | (refine mix_z rfl (by rfl) ?_; go_big_quiet_skip; refine wpQuiet_nil ?_) | (refine mix_q rfl ?_; first | (go_big_quiet_skip; refine wpQuiet_nil ?_) | (go_big_quiet_want; go_big_quiet_op; go_big_quiet_on; refine wpQuiet_nil ?_))))
     refine mix_nil ?_
     go_wp2_with fail
     go_ret
     exact ⟨by rw [HN.out]; rfl, hB1.out⟩
    ·have HN := Hd.mk (show nameStep x.names (j + 1) = true by rw [HE2.out, h2])
     clear h2
     go_wp2_with fail
     refine ⟨cls_below hS1.out, ?_⟩
     (repeat (first | (refine mix_z rfl (by rfl) ?_; go_big_quiet_skip; refine wpQuiet_nil ?_) | (refine mix_q rfl ?_; first | (go_big_quiet_skip; refine wpQuiet_nil ?_) | (go_big_quiet_want; go_big_quiet_op; go_big_quiet_on; refine wpQuiet_nil ?_))))
     refine mix_nil ?_
     clear y4 y0 y3 y5
     go_wp2_with fail
     go_roundw
     case rel => exact ⟨j + 1 + 1, by omega, by go_num, ⟨by rw [HA2.out, HN.out]⟩, hB1, b01⟩
     case measure => simp [intOf]; omega
  ·obtain rfl : k = x.names.length := by omega
   have HN := Hd.mk (show namesOkB x = ((x.names.length : Int) == x.list.length) by rw [HE.out, namesB, HA.out]; rfl)
   go_wp2_with fail
   go_ret
   exact ⟨by rw [HN.out]; rfl, hB.out⟩
end Go.Proofs.YtegcecnjmimbiaaDoor.X
