/- What is proved here: lemmas about the functions that the statement reaches, and what they compute (part 1). Conditions: none. -/
import Derived.Below
import Derived.OwnWalk
import Derived.Maps.AppendAt
import Derived.WalkKit
import Derived.KernelRfl
import Derived.Deep.LoopGhost
import Derived.BigQuiet
import Derived.Lib.QuietBelow
import Derived.Laws.MakeOwn
import Derived.Laws.OwnMore
import Derived.Test.YtoaifagjdjgcbaaDoorProg
import Derived.Lib.LaidTab
import Derived.Lib.ItoaNum
import Derived.Test.YtoaifagjdjgcbaaDoorRows
import Derived.ProofKit
import Derived.OpenShut
import Derived.Deep.DeepHandedRow
import Derived.Stop.LaidErr
import Derived.Shelf.Vars
import Derived.Test.YtoaifagjdjgcbaaDoorWLast
import Derived.WalkSpells
import Derived.Laws.BitsLemmas
import Derived.WideShapes
import Derived.StillTailTactics
import Derived.Deep.RegionWith
import Derived.Laws.IdiomCopy
import Derived.Lib.SliceRun
import Derived.Deep.RegionLaw
import Derived.Lib.Walk
import Derived.Shelf.RegionOpenPlain
import Derived.Lib.JoinLaws
import Derived.Lib.AppendZeros
import Derived.Lib.AppendZerosOnto
import Derived.Lib.Overlaps
import Derived.Laws.Externs
namespace Go.Proofs.YtoaifagjdjgcbaaDoor.X
open Go.RowKit
set_option linter.unusedVariables false
set_option linter.unusedSimpArgs false

structure Hd (p : Prop) : Prop where mk :: (out : p)

structure Ty (α : Type) where
  sz : Nat
  K : World → α → List Value → Prop
  O : World → (Nat → Prop) → α → List Value → Prop
  K_len : ∀ {w x cs}, K w x cs → cs.length = sz
  K_one : ∀ {w x cs}, K w x cs → ∀ u ∈ cs, u.oneCell' = true
  K_below : ∀ {w w1 : World} {x cs}, Below w.heap.size w w1 → K w x cs → K w1 x cs
  O_K : ∀ {w S x cs}, O w S x cs → K w x cs
  O_mono : ∀ {w} {S S' : Nat → Prop} {x cs}, (∀ k, S k → S' k) → O w S x cs → O w S' x cs
  O_bound : ∀ {w : World} {S x cs}, O w S x cs → O w (fun k => S k ∧ k < w.heap.size) x cs
  O_move : ∀ {w w1 : World} {S : Nat → Prop} {x cs}, (∀ k, S k → w1.heap[k]? = w.heap[k]?) → O w S x cs → O w1 S x cs

theorem below_alloc {w W : World} (h : Below w.heap.size w W) (o : Obj) : Below w.heap.size w (W.alloc o) := h.alloc h.size o
theorem below_drew {B : Nat} {w W : World} (h : Below B w W) : Below B w W.drew := ⟨h.os, h.tape, h.output, h.size, h.block⟩
theorem below_drewN {B : Nat} {w W : World} (h : Below B w W) (n : Nat) : Below B w (W.drewN n) := ⟨h.os, h.tape, h.output, h.size, h.block⟩
theorem below_then {w w1 w2 : World} (h : Below w.heap.size w w1) (k : Below w1.heap.size w1 w2) : Below w.heap.size w w2 :=
  h.trans ⟨k.os, k.tape, k.output, k.size, fun i hi => k.block i (Nat.lt_of_lt_of_le hi h.size)⟩
theorem cell_below {w w1 : World} (h : Below w.heap.size w w1) {a : Addr} {v : Value} (hc : w.cell? a = some v) : w1.cell? a = some v := (h.cell (World.block_lt_of_cell? w a hc)).trans hc

theorem frozen_below {w w1 : World} (h : Below w.heap.size w w1) {a : Addr} (ha : a.block < w.heap.size) (hf : w.frozen? a = false) : w1.frozen? a = false := (h.frozen ha).trans hf
theorem own_lt {w : World} {base : Nat} {e : TypeId} {size n : Nat} {v : Value} {xs : List Value} (h : w.ownsRow base e size v n xs) (k : Nat) (hk : v.ownBlock = some k) : k < w.heap.size := by
  rcases h.2 with ⟨rfl, _⟩ | ⟨g, cap, cur, rfl, hb, hh, _⟩
  · simp [Value.ownBlock] at hk
  · have : g = k := by simpa [Value.ownBlock] using hk
    subst this
    exact (Array.getElem?_eq_some_iff.1 hh).1
theorem own_move {w w1 : World} {base : Nat} {e : TypeId} {size n : Nat} {v : Value} {xs : List Value} (h : w.ownsRow base e size v n xs) (hm : ∀ k, v.ownBlock = some k → w1.heap[k]? = w.heap[k]?) : w1.ownsRow base e size v n xs := by
  obtain ⟨h1, h2⟩ := h
  refine ⟨h1, ?_⟩
  rcases h2 with h2 | ⟨g, cap, cur, rfl, hg, hh, r⟩
  · exact .inl h2
  · exact .inr ⟨g, cap, cur, rfl, hg, (hm g (by simp [Value.ownBlock])).trans hh, r⟩

def Blk (w : World) (g : Nat) (cs : Array Value) (t : TypeId) : Prop := w.heap[g]? = some (.cells cs t (0, 0))
namespace Blk
variable {w w1 : World} {g : Nat} {cs : Array Value} {t : TypeId}
theorem lt (h : Blk w g cs t) : g < w.heap.size := (Array.getElem?_eq_some_iff.1 h).1
theorem below (h : Blk w g cs t) (hb : Below w.heap.size w w1) : Blk w1 g cs t := (hb.block g h.lt).trans h
theorem cell (h : Blk w g cs t) (j : Nat) {v : Value} (hv : cs[j]? = some v) : w.cell? ⟨g, j, none⟩ = some v := by
  unfold World.cell?
  rw [show w.heap[(⟨g, j, none⟩ : Addr).block]? = some (.cells cs t (0, 0)) from h]
  simpa using hv
theorem frozen (h : Blk w g cs t) (j : Nat) : w.frozen? ⟨g, j, none⟩ = false := by
  unfold World.frozen?
  rw [show w.heap[(⟨g, j, none⟩ : Addr).block]? = some (.cells cs t (0, 0)) from h]
  simp
theorem new (w : World) (cs : Array Value) (t : TypeId) : Blk (w.alloc (.cells cs t)) w.heap.size cs t := by
  unfold Blk World.alloc
  simp
theorem alloc (h : Blk w g cs t) (o : Obj) : Blk (w.alloc o) g cs t := h.below (Below.alloc (Below.refl _ _) (Nat.le_refl _) o)
theorem drew (h : Blk w g cs t) : Blk w.drew g cs t := h
theorem drewN (h : Blk w g cs t) (n : Nat) : Blk (w.drewN n) g cs t := h
theorem set (h : Blk w g cs t) (j : Nat) (u : Value) : Blk (w.setCell ⟨g, j, none⟩ u) g (cs.setIfInBounds j u) t := by
  unfold Blk at h ⊢
  simp [World.setCell, Array.getElem?_modify, h]
theorem other (h : Blk w g cs t) (p : Addr) (hp : p.block ≠ g) (u : Value) : Blk (w.setCell p u) g cs t := (Below.heap_setCell w p u g (Ne.symm hp)).trans h
end Blk
theorem add_field (ad : Addr) (m j : Nat) (hj : 0 < j) : ad.add (m + j) = ⟨(ad.add m).block, (ad.add m).off + j, none⟩ := by
  unfold Addr.add
  by_cases hm : m = 0
  · subst hm
    simp [Nat.ne_of_gt hj]
  · simp [hm, Nat.add_assoc]
namespace Ty
def C {α : Type} (d : Ty α) (w : World) (A : Option Addr) (xs : List α) : Prop :=
  xs.length ≤ 9223372036854775807 ∧ ∀ i x, xs[i]? = some x → ∃ ad cs, A = some ad ∧ d.K w x cs ∧ ∀ j u, cs[j]? = some u → w.cell? (ad.add (i * d.sz + j)) = some u
def R {α : Type} (d : Ty α) (e : TypeId) (w : World) (S : Nat → Prop) (v : Value) (xs : List α) : Prop :=
  ∃ (inner : List Value) (f : Nat → Nat), w.ownsRow 0 e d.sz v xs.length inner ∧ (∀ k, v.ownBlock = some k → S k) ∧
    ∀ i x, xs[i]? = some x → d.O w (fun b => S b ∧ some b ≠ v.ownBlock ∧ f b = i) x ((inner.drop (i * d.sz)).take d.sz)
section
variable {α : Type} {d : Ty α} {e : TypeId} {w w1 : World} {S S' : Nat → Prop} {v : Value} {xs : List α} {A : Option Addr}
theorem C_below (h : d.C w A xs) (hb : Below w.heap.size w w1) : d.C w1 A xs :=
  ⟨h.1, fun i x hx => by
    obtain ⟨ad, cs, e, hk, hc⟩ := h.2 i x hx
    exact ⟨ad, cs, e, d.K_below hb hk, fun j u hu => cell_below hb (hc j u hu)⟩⟩
theorem C_get (h : d.C w A xs) (z : α) (i : Nat) (hi : i < xs.length) : ∃ ad cs, A = some ad ∧ cs.length = d.sz ∧ d.K w (xs.getD i z) cs ∧ ∀ j u, cs[j]? = some u → w.cell? (ad.add (i * d.sz + j)) = some u := by
  obtain ⟨ad, cs, e, hk, hc⟩ := h.2 i (xs.getD i z) (by simp [List.getD_eq_getElem?_getD, hi])
  exact ⟨ad, cs, e, d.K_len hk, hk, hc⟩
theorem C_at (h : d.C w A xs) (hb : Below w.heap.size w w1) (i : Nat) (hi : i < xs.length) : ∃ ad cs, A = some ad ∧ d.K w1 xs[i] cs ∧ (∀ u, cs[0]? = some u → w1.cell? (ad.add (i * d.sz)) = some u) ∧ ∀ j u, cs[j + 1]? = some u → w1.cell? ⟨(ad.add (i * d.sz)).block, (ad.add (i * d.sz)).off + (j + 1), none⟩ = some u := by
  obtain ⟨ad, cs, e, hk, hc⟩ := h.2 i xs[i] (by simp [hi])
  exact ⟨ad, cs, e, d.K_below hb hk, fun u hu => cell_below hb (hc 0 u hu), fun j u hu => by rw [← add_field _ _ _ (Nat.succ_pos j)]; exact cell_below hb (hc (j + 1) u hu)⟩
theorem C_nil (A : Option Addr) : d.C w A [] := ⟨by simp, fun i x hx => by simp at hx⟩
theorem O_step {x : α} {cs : List Value} (h : d.O w S x cs) (hm : ∀ k, S k → k < w.heap.size → w1.heap[k]? = w.heap[k]?) : d.O w1 S x cs :=
  d.O_mono (fun _ hk => hk.1) (d.O_move (fun k hk => hm k hk.1 hk.2) (d.O_bound h))
theorem O_step_ (d : Ty α) {w w1 : World} {S : Nat → Prop} {x : α} {cs : List Value} (h : d.O w S x cs) (hm : ∀ k, S k → k < w.heap.size → w1.heap[k]? = w.heap[k]?) : d.O w1 (fun k => S k ∧ k < w.heap.size) x cs :=
  d.O_move (fun k hk => hm k hk.1 hk.2) (d.O_bound h)
theorem O_below {x : α} {cs : List Value} (h : d.O w S x cs) (hb : Below w.heap.size w w1) : d.O w1 S x cs := O_step h (fun k _ hk => hb.block k hk)
theorem R_mono (hs : ∀ k, S k → S' k) (h : d.R e w S v xs) : d.R e w S' v xs := by
  obtain ⟨inner, f, ho, hv, hx⟩ := h
  exact ⟨inner, f, ho, fun k hk => hs k (hv k hk), fun i x hi => d.O_mono (fun k hk => ⟨hs k hk.1, hk.2⟩) (hx i x hi)⟩
theorem R_bound (h : d.R e w S v xs) : d.R e w (fun k => S k ∧ k < w.heap.size) v xs := by
  obtain ⟨inner, f, ho, hv, hx⟩ := h
  exact ⟨inner, f, ho, fun k hk => ⟨hv k hk, own_lt ho k hk⟩, fun i x hi => d.O_mono (fun k hk => ⟨⟨hk.1.1, hk.2⟩, hk.1.2⟩) (d.O_bound (hx i x hi))⟩
theorem R_move (hm : ∀ k, S k → w1.heap[k]? = w.heap[k]?) (h : d.R e w S v xs) : d.R e w1 S v xs := by
  obtain ⟨inner, f, ho, hv, hx⟩ := h
  exact ⟨inner, f, own_move ho (fun k hk => hm k (hv k hk)), hv, fun i x hi => d.O_move (fun k hk => hm k hk.1) (hx i x hi)⟩
theorem R_step (h : d.R e w S v xs) (hm : ∀ k, S k → k < w.heap.size → w1.heap[k]? = w.heap[k]?) : d.R e w1 S v xs :=
  R_mono (fun _ hk => hk.1) (R_move (fun k hk => hm k hk.1 hk.2) (R_bound h))
theorem R_below (h : d.R e w S v xs) (hb : Below w.heap.size w w1) : d.R e w1 S v xs := R_step h (fun k _ hk => hb.block k hk)
theorem R_nil : d.R e w S (.slice none 0 0) [] := ⟨[], fun _ => 0, ⟨by simp, .inl ⟨rfl, rfl⟩⟩, fun k hk => by simp [Value.ownBlock] at hk, fun i x hx => by simp at hx⟩
theorem R_C (h : d.R e w S v xs) : ∃ A c, v = .slice A xs.length c ∧ xs.length ≤ c ∧ d.C w A xs := by
  obtain ⟨inner, f, ⟨hl, ho⟩, hv, hx⟩ := h
  rcases ho with ⟨rfl, h0⟩ | ⟨g, cap, cur, rfl, hg, hh, h1, h2, h3, h4⟩
  · obtain rfl : xs = [] := List.eq_nil_of_length_eq_zero h0
    exact ⟨none, 0, rfl, Nat.le_refl _, C_nil _⟩
  · simp only [maxLen] at h2
    refine ⟨_, cap, rfl, h1, ⟨by omega, fun i x hi => ⟨⟨g, 0, none⟩, _, rfl, d.O_K (hx i x hi), fun j u hu => ?_⟩⟩⟩
    have hin : i < xs.length := (List.getElem?_eq_some_iff.1 hi).1
    have hj : j < d.sz := by
      have := d.K_len (d.O_K (hx i x hi))
      have h5 := (List.getElem?_eq_some_iff.1 hu).1
      omega
    have e1 : cur[i * d.sz + j]? = some u := by
      rw [List.getElem?_take, if_pos hj, List.getElem?_drop, ← h4, List.getElem?_take] at hu
      split at hu
      · simpa using hu
      · cases hu
    have ha : (⟨g, 0, none⟩ : Addr).add (i * d.sz + j) = ⟨g, i * d.sz + j, none⟩ := by unfold Addr.add; split <;> simp_all
    rw [ha]
    simp [World.cell?, hh, e1]
end

def scal {α : Type} (enc : α → Value) (h1 : ∀ x, (enc x).oneCell' = true) : Ty α where
  sz := 1
  K := fun _ x cs => cs = [enc x]
  O := fun _ _ x cs => cs = [enc x]
  K_len := fun h => by rw [h]; rfl
  K_one := fun h u hu => by
    rw [h] at hu
    rw [List.mem_singleton.1 hu]
    exact h1 _
  K_below := fun _ h => h
  O_K := fun h => h
  O_mono := fun _ h => h
  O_bound := fun h => h
  O_move := fun _ h => h
def int : Ty Int := scal (Value.int .i64) (fun _ => rfl)
def bool : Ty Bool := scal Value.bool (fun _ => rfl)
def str : Ty ByteArray where
  sz := 1
  K := fun _ x cs => cs = [.string x] ∧ x.size ≤ 9223372036854775807
  O := fun _ _ x cs => cs = [.string x] ∧ x.size ≤ 9223372036854775807
  K_len := fun h => by rw [h.1]; rfl
  K_one := fun h u hu => by
    rw [h.1] at hu
    rw [List.mem_singleton.1 hu]
    rfl
  K_below := fun _ h => h
  O_K := fun h => h
  O_mono := fun _ h => h
  O_bound := fun h => h
  O_move := fun _ h => h
def sl {α : Type} (e : TypeId) (d : Ty α) : Ty (List α) where
  sz := 1
  K := fun w xs cs => ∃ A c, cs = [.slice A xs.length c] ∧ xs.length ≤ c ∧ d.C w A xs
  O := fun w S xs cs => ∃ v, cs = [v] ∧ d.R e w S v xs
  K_len := by
    rintro w x cs ⟨A, c, rfl, _⟩
    rfl
  K_one := by
    rintro w x cs ⟨A, c, rfl, _⟩ u hu
    rw [List.mem_singleton.1 hu]
    rfl
  K_below := by
    rintro w w1 x cs hb ⟨A, c, rfl, hl, hr⟩
    exact ⟨A, c, rfl, hl, C_below hr hb⟩
  O_K := by
    rintro w S x cs ⟨v, rfl, h⟩
    obtain ⟨A, c, rfl, hl, hr⟩ := R_C h
    exact ⟨A, c, rfl, hl, hr⟩
  O_mono := by
    rintro w S S' x cs hok ⟨v, rfl, h⟩
    exact ⟨v, rfl, R_mono hok h⟩
  O_bound := by
    rintro w S x cs ⟨v, rfl, h⟩
    exact ⟨v, rfl, R_bound h⟩
  O_move := by
    rintro w w1 S x cs hm ⟨v, rfl, h⟩
    exact ⟨v, rfl, R_move hm h⟩
def pr {α β : Type} (a : Ty α) (b : Ty β) : Ty (α × β) where
  sz := a.sz + b.sz
  K := fun w x cs => ∃ c0 c1, cs = c0 ++ c1 ∧ a.K w x.1 c0 ∧ b.K w x.2 c1
  O := fun w S x cs => ∃ c0 c1, ∃ f : Nat → Bool, cs = c0 ++ c1 ∧ a.O w (fun k => S k ∧ f k = true) x.1 c0 ∧ b.O w (fun k => S k ∧ f k = false) x.2 c1
  K_len := by
    rintro w x cs ⟨c0, c1, rfl, h0, h1⟩
    rw [List.length_append, a.K_len h0, b.K_len h1]
  K_one := by
    rintro w x cs ⟨c0, c1, rfl, h0, h1⟩ u hu
    rcases List.mem_append.1 hu with hu | hu
    · exact a.K_one h0 u hu
    · exact b.K_one h1 u hu
  K_below := by
    rintro w w1 x cs hb ⟨c0, c1, rfl, h0, h1⟩
    exact ⟨c0, c1, rfl, a.K_below hb h0, b.K_below hb h1⟩
  O_K := by
    rintro w S x cs ⟨c0, c1, f, rfl, h0, h1⟩
    exact ⟨c0, c1, rfl, a.O_K h0, b.O_K h1⟩
  O_mono := by
    rintro w S S' x cs hok ⟨c0, c1, f, rfl, h0, h1⟩
    exact ⟨c0, c1, f, rfl, a.O_mono (fun k hk => ⟨hok k hk.1, hk.2⟩) h0, b.O_mono (fun k hk => ⟨hok k hk.1, hk.2⟩) h1⟩
  O_bound := by
    rintro w S x cs ⟨c0, c1, f, rfl, h0, h1⟩
    exact ⟨c0, c1, f, rfl, a.O_mono (fun k hk => ⟨⟨hk.1.1, hk.2⟩, hk.1.2⟩) (a.O_bound h0), b.O_mono (fun k hk => ⟨⟨hk.1.1, hk.2⟩, hk.1.2⟩) (b.O_bound h1)⟩
  O_move := by
    rintro w w1 S x cs hm ⟨c0, c1, f, rfl, h0, h1⟩
    exact ⟨c0, c1, f, rfl, a.O_move (fun k hk => hm k hk.1) h0, b.O_move (fun k hk => hm k hk.1) h1⟩
def iso {α β : Type} (d : Ty α) (f : β → α) : Ty β where
  sz := d.sz
  K := fun w x cs => d.K w (f x) cs
  O := fun w S x cs => d.O w S (f x) cs
  K_len := d.K_len
  K_one := d.K_one
  K_below := d.K_below
  O_K := d.O_K
  O_mono := d.O_mono
  O_bound := d.O_bound
  O_move := d.O_move
def bot {α : Type} (sz : Nat) : Ty α where
  sz := sz
  K := fun _ _ _ => False
  O := fun _ _ _ _ => False
  K_len := fun h => h.elim
  K_one := fun h => h.elim
  K_below := fun _ h => h
  O_K := fun h => h
  O_mono := fun _ h => h
  O_bound := fun h => h
  O_move := fun _ h => h
structure Le {α : Type} (d d' : Ty α) : Prop where
  sz : d.sz = d'.sz
  K : ∀ w x cs, d.K w x cs → d'.K w x cs
  O : ∀ w S x cs, d.O w S x cs → d'.O w S x cs
theorem Le.refl {α : Type} (d : Ty α) : Le d d := ⟨rfl, fun _ _ _ h => h, fun _ _ _ _ h => h⟩
theorem Le.C {α : Type} {d d' : Ty α} (h : Le d d') {w : World} {A : Option Addr} {xs : List α} (hc : d.C w A xs) : d'.C w A xs :=
  ⟨hc.1, fun i x hx => by
    obtain ⟨ad, cs, e, hk, hl⟩ := hc.2 i x hx
    exact ⟨ad, cs, e, h.K _ _ _ hk, by rw [← h.sz]; exact hl⟩⟩
theorem Le.R {α : Type} {d d' : Ty α} (h : Le d d') {e : TypeId} {w : World} {S : Nat → Prop} {v : Value} {xs : List α} (hc : d.R e w S v xs) : d'.R e w S v xs := by
  obtain ⟨inner, f, ho, hv, hx⟩ := hc
  exact ⟨inner, f, by rw [← h.sz]; exact ho, hv, fun i x hi => by rw [← h.sz]; exact h.O _ _ _ _ (hx i x hi)⟩
theorem Le.sl {α : Type} {d d' : Ty α} (h : Le d d') (e : TypeId) : Le (sl e d) (sl e d') := by
  refine ⟨rfl, ?_, ?_⟩
  · rintro w x cs ⟨A, c, rfl, hl, hc⟩
    exact ⟨A, c, rfl, hl, h.C hc⟩
  · rintro w S x cs ⟨v, rfl, hr⟩
    exact ⟨v, rfl, h.R hr⟩
theorem Le.pr {α β : Type} {a a' : Ty α} {b b' : Ty β} (h : Le a a') (k : Le b b') : Le (pr a b) (pr a' b') := by
  refine ⟨by show a.sz + b.sz = a'.sz + b'.sz; rw [h.sz, k.sz], ?_, ?_⟩
  · rintro w x cs ⟨c0, c1, rfl, h0, h1⟩
    exact ⟨c0, c1, rfl, h.K _ _ _ h0, k.K _ _ _ h1⟩
  · rintro w S x cs ⟨c0, c1, f, rfl, h0, h1⟩
    exact ⟨c0, c1, f, rfl, h.O _ _ _ _ h0, k.O _ _ _ _ h1⟩
theorem Le.iso {α β : Type} {d d' : Ty α} (h : Le d d') (f : β → α) : Le (iso d f) (iso d' f) := ⟨h.sz, fun w x cs => h.K w (f x) cs, fun w S x cs => h.O w S (f x) cs⟩
end Ty

structure Fr (w w' : World) (S : Nat → Prop) : Prop where
  os : w'.os = w.os
  tape : w'.tape = w.tape
  output : w'.output = w.output
  size : w.heap.size ≤ w'.heap.size
  block : ∀ k, k < w.heap.size → ¬ S k → w'.heap[k]? = w.heap[k]?
namespace Fr
variable {w w1 w2 : World} {S S' : Nat → Prop}
theorem refl (w : World) (S : Nat → Prop) : Fr w w S := ⟨rfl, rfl, rfl, Nat.le_refl _, fun _ _ _ => rfl⟩
theorem trans (h : Fr w w1 S) (k : Fr w1 w2 S) : Fr w w2 S :=
  ⟨k.os.trans h.os, k.tape.trans h.tape, k.output.trans h.output, Nat.le_trans h.size k.size, fun i hi hs => (k.block i (Nat.lt_of_lt_of_le hi h.size) hs).trans (h.block i hi hs)⟩
theorem mono (h : Fr w w1 S) (hs : ∀ k, k < w.heap.size → S k → S' k) : Fr w w1 S' := ⟨h.os, h.tape, h.output, h.size, fun i hi hn => h.block i hi (fun hk => hn (hs i hi hk))⟩
theorem of_below (h : Below w.heap.size w w1) (S : Nat → Prop) : Fr w w1 S := ⟨h.os, h.tape, h.output, h.size, fun i hi _ => h.block i hi⟩
theorem below (h : Fr w w1 S) (hs : ∀ k, S k → w.heap.size ≤ k) : Below w.heap.size w w1 := ⟨h.os, h.tape, h.output, h.size, fun i hi => h.block i hi (fun hk => by have := hs i hk; omega)⟩
theorem then_ (h : Fr w w1 S) (k : Fr w1 w2 S') (hs : ∀ k, S' k → k < w.heap.size → S k) : Fr w w2 S :=
  ⟨k.os.trans h.os, k.tape.trans h.tape, k.output.trans h.output, Nat.le_trans h.size k.size, fun i hi hn => (k.block i (Nat.lt_of_lt_of_le hi h.size) (fun hk => hn (hs i hk hi))).trans (h.block i hi hn)⟩
theorem alloc (h : Fr w w1 S) (o : Obj) : Fr w (w1.alloc o) S := h.trans (of_below (below_alloc (Below.refl _ _) o) S)
theorem drew (h : Fr w w1 S) : Fr w w1.drew S := ⟨h.os, h.tape, h.output, h.size, h.block⟩
theorem drewN (h : Fr w w1 S) (n : Nat) : Fr w (w1.drewN n) S := ⟨h.os, h.tape, h.output, h.size, h.block⟩
theorem setCell (h : Fr w w1 S) (p : Addr) (hp : p.block < w.heap.size → S p.block) (u : Value) : Fr w (w1.setCell p u) S :=
  ⟨h.os, h.tape, h.output, by have := h.size; simpa using this, fun i hi hn => by
    rw [Below.heap_setCell _ _ _ _ (fun e => hn (by subst e; exact hp hi))]
    exact h.block i hi hn⟩
theorem grown {row : Option Nat} (hg : w.grownBy w1 row) (hr : ∀ k, row = some k → S k) : Fr w w1 S :=
  ⟨hg.os, hg.tape, hg.output, hg.size, fun i hi hn => hg.block i hi (fun e => hn (hr i e.symm))⟩
end Fr
namespace Ty
variable {α : Type} {d : Ty α} {e : TypeId} {w w1 : World} {S S' : Nat → Prop} {v : Value} {xs : List α}
theorem R_fr (h : d.R e w S v xs) (hf : Fr w w1 S') (hd : ∀ k, S k → k < w.heap.size → ¬ S' k) : d.R e w1 S v xs := R_step h (fun k hk hl => hf.block k hl (hd k hk hl))
theorem O_fr {x : α} {cs : List Value} (h : d.O w S x cs) (hf : Fr w w1 S') (hd : ∀ k, S k → k < w.heap.size → ¬ S' k) : d.O w1 S x cs := O_step h (fun k hk hl => hf.block k hl (hd k hk hl))
theorem R_setCell (h : d.R e w S v xs) {p : Addr} (hp : ¬ S p.block) (u : Value) : d.R e (w.setCell p u) S v xs := R_step h (fun k hk _ => Below.heap_setCell w p u k (fun e => hp (e ▸ hk)))
theorem O_setCell {x : α} {cs : List Value} (h : d.O w S x cs) {p : Addr} (hp : ¬ S p.block) (u : Value) : d.O (w.setCell p u) S x cs := O_step h (fun k hk _ => Below.heap_setCell w p u k (fun e => hp (e ▸ hk)))
theorem R_block {g cap : Nat} {cur : Array Value} (hb : w.heap[g]? = some (.cells cur e (0, 0))) (hg : S g) (hn : xs.length ≤ cap) (hm : cap ≤ 9223372036854775807) (hc : cur.size = cap * d.sz) (f : Nat → Nat)
    (hO : ∀ i x, xs[i]? = some x → d.O w (fun b => S b ∧ b ≠ g ∧ f b = i) x ((cur.toList.drop (i * d.sz)).take d.sz)) : d.R e w S (.slice (some ⟨g, 0, none⟩) xs.length cap) xs := by
  have hle : xs.length * d.sz ≤ cap * d.sz := Nat.mul_le_mul_right _ hn
  refine ⟨cur.toList.take (xs.length * d.sz), f, ⟨by simp; omega, .inr ⟨g, cap, cur, rfl, Nat.zero_le _, hb, hn, by simp only [maxLen]; omega, hc, rfl⟩⟩, fun k hk => ?_, fun i x hi => ?_⟩
  · have : g = k := by simpa [Value.ownBlock] using hk
    exact this ▸ hg
  · have hil : i < xs.length := (List.getElem?_eq_some_iff.1 hi).1
    have h1 : i * d.sz + d.sz ≤ xs.length * d.sz := by
      have := Nat.mul_le_mul_right d.sz (show i + 1 ≤ xs.length by omega)
      rw [Nat.add_mul] at this
      omega
    have he : (((cur.toList.take (xs.length * d.sz)).drop (i * d.sz)).take d.sz) = ((cur.toList.drop (i * d.sz)).take d.sz) := by
      rw [List.drop_take, List.take_take, Nat.min_eq_left (by omega)]
    rw [he]
    exact d.O_mono (fun k hk => ⟨hk.1, by simpa [Value.ownBlock] using hk.2.1, hk.2.2⟩) (hO i x hi)
end Ty
section
variable {P : Program} {ops : Array Oper} {rest : List Oper} {o : Oper} {a : Act} {Q : Exit → Act → World → Prop} {α : Type}
theorem append_gen (d : Ty α) {W : World} (hgd : o.guard = none) (s x : Operand) (t e : TypeId) (z : Value) (bytes : Nat)
    (ho : o.op = .call { callee := .builtin .append, args := #[s, x], argTypes := #[t, t] })
    (ht : P.underlying t = some (.slice e)) (hinfo : (P.info? e).map (fun i => (i.zero, i.size, i.bytes)) = some (some z, d.sz, bytes)) (hz : z.cells.size = d.sz) (hsz : 0 < d.sz) (hb0 : 0 < bytes)
    {S S' : Nat → Prop} {v : Value} {xs ys : List α} (T : Nat → Nat → Prop) (A : Option Addr) (m c : Nat) (news : List Value)
    (hs : a.eval s = v) (hx : a.eval x = .slice A m c) (HR : d.R e W S v xs) (hm : ys.length = m) (hl : news.length = m * d.sz)
    (hnews : ∀ j u, news[j]? = some u → ∃ ad, A = some ad ∧ W.cell? (ad.add j) = some u) (h1 : ∀ u ∈ news, u.oneCell' = true)
    (hO : ∀ i y, ys[i]? = some y → d.O W (T i) y ((news.drop (i * d.sz)).take d.sz))
    (hTT : ∀ i j k, T i k → T j k → i = j) (hST : ∀ i k, T i k → ¬ S k) (hS : ∀ k, S k → S' k) (hT : ∀ i k, T i k → S' k) (hnew : ∀ k, W.heap.size ≤ k → S' k)
    (hbytes : (xs.length + m) * bytes ≤ 140737488355328)
    (h : ∀ v1 w1, d.R e w1 S' v1 (xs ++ ys) → Fr W w1 S → wpList P ops Q rest (a.put o.dst v1) w1) :
    wpList P ops Q (o :: rest) a W := by
  obtain ⟨i0, hi, hzz⟩ := Option.map_eq_some_iff.1 hinfo
  simp only [Prod.mk.injEq] at hzz
  obtain ⟨hz0, hz1, hz2⟩ := hzz
  have hlen : xs.length + m ≤ 140737488355328 := Nat.le_trans (Nat.le_mul_of_pos_right _ hb0) hbytes
  obtain ⟨inner, f, HO, hv, hE⟩ := HR
  have hrun : ∃ v1 w1, (Builtin.append_ #[t, t] o.type #[v, .slice A m c]).run P W = .ok v1 w1 ∧ w1.ownsRow 0 e d.sz v1 (xs.length + m) (inner ++ news) ∧ W.grownBy w1 v.ownBlock ∧ (v1.ownBlock = v.ownBlock ∨ v1.ownBlock = some W.heap.size) := by
    rcases A with _ | ad
    · have h0 : news = [] := by
        rcases news with _ | ⟨u, us⟩
        · rfl
        · obtain ⟨ad, h, _⟩ := hnews 0 u rfl
          cases h
      subst h0
      have hm0 : m = 0 := by
        rcases Nat.eq_zero_or_pos m with h | h
        · exact h
        · have := Nat.mul_pos h hsz
          simp at hl
          omega
      subst hm0
      refine ⟨v, W, ?_, by simpa using HO, World.grownBy.refl W _, .inl rfl⟩
      rcases HO.2 with ⟨rfl, hn⟩ | ⟨g, cap, cur, rfl, _, _, hnc, _⟩
      · simp [Builtin.append_, run_underlying ht, sizeOf, typeInfo, hi, Builtin.lenOf, Builtin.firstCells]
      · simp [Builtin.append_, run_underlying ht, sizeOf, typeInfo, hi, Builtin.lenOf, Builtin.firstCells, hnc, storeCells]
    · obtain ⟨v1, w1, hr, h2, h3, _, h5⟩ := run_append_own_at (P := P) W 0 t o.type e i0 z d.sz bytes ht hi hz0 hz1 hz2 hz hsz v xs.length inner HO ad m c news hl
        (fun j u hu => by obtain ⟨ad', h', hc⟩ := hnews j u hu; injection h' with h'; subst h'; exact hc) h1 (by simp only [maxLen]; omega) hbytes (Nat.zero_le _)
      exact ⟨v1, w1, hr, h2, h3, h5⟩
  obtain ⟨v1, w1, hr, hown, hg, hat⟩ := hrun
  refine wpList_plain hgd fun K hK => ?_
  unfold Oper.wp execOp
  simp only [ho, resolve, invoke, builtin, Sem.run_bind, Sem.run_pure, Result.andThen_ok, List.map_toArray, List.map_cons, List.map_nil, hs, hx, hr]
  refine hK _ _ (h v1 w1 ?_ (Fr.grown hg hv))
  have hin : inner.length = xs.length * d.sz := HO.1
  have hlt : ∀ k, v.ownBlock = some k → k < W.heap.size := fun k hk => own_lt HO k hk
  have hkeep : ∀ k, k < W.heap.size → some k ≠ v.ownBlock → w1.heap[k]? = W.heap[k]? := fun k hk hn => hg.block k hk hn
  have hv1 : ∀ k, k < W.heap.size → some k ≠ v.ownBlock → some k ≠ v1.ownBlock := fun k hk hn he => by
    rcases hat with hat | hat
    · exact hn (he.trans hat)
    · rw [hat] at he
      injection he with he
      omega
  classical
  refine ⟨inner ++ news, fun b => if ∃ j, T j b then xs.length + Classical.epsilon (fun j => T j b) else f b, by rw [List.length_append, hm]; exact hown, fun k hk => ?_, fun i y hiy => ?_⟩
  · rcases hat with hat | hat
    · exact hS k (hv k (hat ▸ hk))
    · rw [hat] at hk
      injection hk with hk
      exact hnew k (by omega)
  · rcases Nat.lt_or_ge i xs.length with hlx | hlx
    · rw [List.getElem?_append_left hlx] at hiy
      have hle : i * d.sz + d.sz ≤ inner.length := by
        have := Nat.mul_le_mul_right d.sz (show i + 1 ≤ xs.length by omega)
        rw [Nat.add_mul] at this
        omega
      have he : ((inner ++ news).drop (i * d.sz)).take d.sz = (inner.drop (i * d.sz)).take d.sz := by
        rw [List.drop_append_of_le_length (by omega), List.take_append_of_le_length (by simp; omega)]
      rw [he]
      refine d.O_mono ?_ (Ty.O_step_ d (hE i y hiy) (fun k hk hl => hkeep k hl hk.2.1))
      intro k hk
      refine ⟨hS k hk.1.1, hv1 k hk.2 hk.1.2.1, ?_⟩
      show (if ∃ j, T j k then _ else _) = i
      rw [if_neg (fun ⟨j, hj⟩ => hST j k hj hk.1.1)]
      exact hk.1.2.2
    · rw [List.getElem?_append_right hlx] at hiy
      have he : ((inner ++ news).drop (i * d.sz)).take d.sz = (news.drop ((i - xs.length) * d.sz)).take d.sz := by
        rw [List.drop_append, List.drop_eq_nil_of_le (by rw [hin]; exact Nat.mul_le_mul_right _ hlx), List.nil_append, hin, Nat.sub_mul]
      rw [he]
      refine d.O_mono ?_ (Ty.O_step_ d (hO _ y hiy) (fun k hk hl => hkeep k hl (fun e => hST _ k hk (hv k e.symm))))
      intro k hk
      refine ⟨hT _ k hk.1, hv1 k hk.2 (fun e => hST _ k hk.1 (hv k e.symm)), ?_⟩
      have hex : ∃ j, T j k := ⟨_, hk.1⟩
      show (if ∃ j, T j k then _ else _) = i
      rw [if_pos hex, hTT _ _ k (Classical.epsilon_spec hex) hk.1]
      omega
end
section
variable {P : Program} {ops : Array Oper} {rest : List Oper} {o : Oper} {a : Act} {Q : Exit → Act → World → Prop} {α : Type}
theorem add0 (g j : Nat) : (⟨g, 0, none⟩ : Addr).add j = ⟨g, j, none⟩ := by unfold Addr.add; split <;> simp_all
theorem append_one (d : Ty α) {W : World} (hgd : o.guard = none) (s x : Operand) (t e : TypeId) (z : Value) (bytes : Nat)
    (ho : o.op = .call { callee := .builtin .append, args := #[s, x], argTypes := #[t, t] })
    (ht : P.underlying t = some (.slice e)) (hinfo : (P.info? e).map (fun i => (i.zero, i.size, i.bytes)) = some (some z, d.sz, bytes)) (hz : z.cells.size = d.sz) (hsz : 0 < d.sz) (hb0 : 0 < bytes)
    {S S' T : Nat → Prop} {v : Value} {xs : List α} (y : α) (cs : List Value)
    (hs : a.eval s = v) (hx : a.eval x = .slice (some ⟨W.heap.size, 0, none⟩) 1 1) (HR : d.R e W S v xs) (hO : d.O W T y cs)
    (hST : ∀ k, T k → k < W.heap.size → ¬ S k) (hS : ∀ k, S k → S' k) (hT : ∀ k, T k → S' k) (hnew : ∀ k, W.heap.size ≤ k → S' k)
    (hbytes : (xs.length + 1) * bytes ≤ 140737488355328)
    (h : ∀ v1 w1, d.R e w1 S' v1 (xs ++ [y]) → Fr W w1 S → wpList P ops Q rest (a.put o.dst v1) w1) :
    wpList P ops Q (o :: rest) a (W.alloc (.cells cs.toArray e)) := by
  have hlen := d.K_len (d.O_K hO)
  have hb : Below W.heap.size W (W.alloc (.cells cs.toArray e)) := below_alloc (Below.refl _ _) _
  refine append_gen d (S := fun k => S k ∧ k < W.heap.size) (S' := S') (v := v) (xs := xs) (ys := [y]) hgd s x t e z bytes ho ht hinfo hz hsz hb0 (fun i k => i = 0 ∧ T k ∧ k < W.heap.size) (some ⟨W.heap.size, 0, none⟩) 1 1 cs hs hx
    (Ty.R_below (Ty.R_bound HR) hb) rfl (by rw [hlen, Nat.one_mul]) (fun j u hu => ⟨_, rfl, ?_⟩) (d.K_one (d.O_K hO)) (fun i y' hi => ?_) (fun i j k h1 h2 => by rw [h1.1, h2.1]) (fun i k hk hs => hST k hk.2.1 hk.2.2 hs.1) (fun k hk => hS k hk.1) (fun i k hk => hT k hk.2.1) (fun k hk => hnew k (by have := hk; simp at this; omega)) hbytes
    (fun v1 w1 hr hf => h v1 w1 hr (((Fr.refl W S).alloc _).then_ hf (fun k hk _ => hk.1)))
  · rw [add0]
    have e1 : (W.alloc (.cells cs.toArray e)).heap[W.heap.size]? = some (.cells cs.toArray e (0, 0)) := heap_alloc_new W _
    unfold World.cell?
    rw [e1]
    simpa using hu
  · rcases i with _ | i
    · simp at hi
      subst hi
      have he : (cs.drop (0 * d.sz)).take d.sz = cs := by rw [Nat.zero_mul, List.drop_zero, List.take_of_length_le (by omega)]
      rw [he]
      exact d.O_mono (fun k hk => ⟨rfl, hk⟩) (Ty.O_below (d.O_bound hO) hb)
    · simp at hi
theorem append_scal {enc : α → Value} {h1 : ∀ x, (enc x).oneCell' = true} {W : World} (hgd : o.guard = none) (s x : Operand) (t e : TypeId) (z : Value) (bytes : Nat)
    (ho : o.op = .call { callee := .builtin .append, args := #[s, x], argTypes := #[t, t] })
    (ht : P.underlying t = some (.slice e)) (hinfo : (P.info? e).map (fun i => (i.zero, i.size, i.bytes)) = some (some z, 1, bytes)) (hz : z.cells.size = 1) (hb0 : 0 < bytes)
    {S S' : Nat → Prop} {v : Value} {xs ys : List α} {A : Option Addr} {c : Nat}
    (hs : a.eval s = v) (hx : a.eval x = .slice A ys.length c) (HR : (Ty.scal enc h1).R e W S v xs) (HC : (Ty.scal enc h1).C W A ys)
    (hS : ∀ k, S k → S' k) (hnew : ∀ k, W.heap.size ≤ k → S' k) (hbytes : (xs.length + ys.length) * bytes ≤ 140737488355328)
    (h : ∀ v1 w1, (Ty.scal enc h1).R e w1 S' v1 (xs ++ ys) → Fr W w1 S → wpList P ops Q rest (a.put o.dst v1) w1) :
    wpList P ops Q (o :: rest) a W := by
  refine append_gen (Ty.scal enc h1) (S := S) (S' := S') (v := v) (xs := xs) (ys := ys) hgd s x t e z bytes ho ht hinfo hz (Nat.le_refl 1) hb0 (fun i k => False) A ys.length c (ys.map enc) hs hx HR rfl (by simp [Ty.scal]) (fun j u hu => ?_) (fun u hu => ?_) (fun i y hi => ?_)
    (fun i j k h1 h2 => h1.elim) (fun i k hk => hk.elim) hS (fun i k hk => hk.elim) hnew hbytes h
  · rw [List.getElem?_map] at hu
    obtain ⟨y, hy, rfl⟩ := Option.map_eq_some_iff.1 hu
    obtain ⟨ad, cs, e1, hk, hc⟩ := HC.2 j y hy
    have e2 : cs = [enc y] := hk
    refine ⟨ad, e1, ?_⟩
    have := hc 0 (enc y) (by rw [e2]; rfl)
    simpa [Ty.scal] using this
  · obtain ⟨y, _, rfl⟩ := List.mem_map.1 hu
    exact h1 y
  · show ((ys.map enc).drop (i * 1)).take 1 = [enc y]
    have hil := (List.getElem?_eq_some_iff.1 hi).1
    rw [Nat.mul_one, ← List.map_drop, ← List.map_take, List.drop_eq_getElem_cons hil]
    simp [(List.getElem?_eq_some_iff.1 hi).2]
end
theorem heap_setCell_ {w : World} {g : Nat} {cur : Array Value} {e : TypeId} {fr : Nat × Nat} (hh : w.heap[g]? = some (.cells cur e fr)) (i : Nat) (u : Value) : (w.setCell ⟨g, i, none⟩ u).heap[g]? = some (.cells (cur.setIfInBounds i u) e fr) := by
  simp [World.setCell, Array.getElem?_modify, hh]
theorem set_drop_ {α : Type} (l : List α) (i j n : Nat) (u : α) : ((l.set (i + j) u).drop i).take n = (((l.drop i).take n).set j u) := by
  rw [List.drop_set, if_neg (by omega), Nat.add_sub_cancel_left, List.take_set]
namespace Ty
variable {α : Type} {d : Ty α} {e : TypeId} {w w1 : World} {S S' Si T : Nat → Prop} {v : Value} {xs : List α} {i : Nat} {cs : List Value}
def H (d : Ty α) (e : TypeId) (w : World) (S : Nat → Prop) (v : Value) (xs : List α) (i : Nat) (Si : Nat → Prop) (cs : List Value) : Prop :=
  i < xs.length ∧ cs.length = d.sz ∧ ∃ (inner : List Value) (f : Nat → Nat), w.ownsRow 0 e d.sz v xs.length inner ∧ (∀ k, v.ownBlock = some k → S k) ∧ (inner.drop (i * d.sz)).take d.sz = cs ∧ (∀ k, Si k → S k ∧ some k ≠ v.ownBlock) ∧
    ∀ j x, j ≠ i → xs[j]? = some x → d.O w (fun b => S b ∧ some b ≠ v.ownBlock ∧ f b = j ∧ ¬ Si b) x ((inner.drop (j * d.sz)).take d.sz)
theorem R_H (h : d.R e w S v xs) {x : α} (hx : xs[i]? = some x) : ∃ Si cs, d.H e w S v xs i Si cs ∧ d.O w Si x cs := by
  obtain ⟨inner, f, ho, hv, hE⟩ := h
  exact ⟨_, _, ⟨(List.getElem?_eq_some_iff.1 hx).1, d.K_len (d.O_K (hE i x hx)), inner, f, ho, hv, rfl, fun k hk => ⟨hk.1, hk.2.1⟩, fun j y hj hy => d.O_mono (fun k hk => ⟨hk.1, hk.2.1, hk.2.2, fun h => hj (hk.2.2.symm.trans h.2.2)⟩) (hE j y hy)⟩, hE i x hx⟩
theorem H_step (h : d.H e w S v xs i Si cs) (hm : ∀ k, S k → ¬ Si k → k < w.heap.size → w1.heap[k]? = w.heap[k]?) : d.H e w1 S v xs i Si cs := by
  obtain ⟨hi, hl, inner, f, ho, hv, hc, hs, hE⟩ := h
  exact ⟨hi, hl, inner, f, own_move ho (fun k hk => hm k (hv k hk) (fun h => (hs k h).2 hk.symm) (own_lt ho k hk)), hv, hc, hs, fun j y hj hy => O_step (hE j y hj hy) (fun k hk hl => hm k hk.1 hk.2.2.2 hl)⟩
theorem H_fr (h : d.H e w S v xs i Si cs) (hf : Fr w w1 S') (hd : ∀ k, S k → S' k → k < w.heap.size → Si k) : d.H e w1 S v xs i Si cs := H_step h (fun k hs hn hl => hf.block k hl (fun hk => hn (hd k hs hk hl)))
theorem H_back (h : d.H e w S v xs i Si cs) {x' : α} (hO : d.O w T x' cs) (hT : ∀ k, T k → Si k ∨ ¬ S k) (hS : ∀ k, S k → S' k) (hT' : ∀ k, T k → S' k) : d.R e w S' v (xs.set i x') := by
  obtain ⟨hi, hl, inner, f, ho, hv, hc, hs, hE⟩ := h
  classical
  refine ⟨inner, fun b => if T b then i else f b, by rw [List.length_set]; exact ho, fun k hk => hS k (hv k hk), fun j y hy => ?_⟩
  by_cases hj : j = i
  · subst hj
    rw [List.getElem?_set_self hi] at hy
    injection hy with hy
    subst hy
    rw [hc]
    refine d.O_mono (fun k hk => ⟨hT' k hk, fun he => ?_, if_pos hk⟩) hO
    rcases hT k hk with h | h
    · exact (hs k h).2 he
    · exact h (hv k he.symm)
  · rw [List.getElem?_set_ne (fun h => hj h.symm)] at hy
    refine d.O_mono (fun k hk => ⟨hS k hk.1, hk.2.1, ?_⟩) (hE j y hj hy)
    show (if T k then i else f k) = j
    rw [if_neg (fun h => (hT k h).elim hk.2.2.2 (fun h => h hk.1))]
    exact hk.2.2.1
theorem H_cells (h : d.H e w S v xs i Si cs) (hsz : 0 < d.sz) : ∃ g cap, v = .slice (some ⟨g, 0, none⟩) xs.length cap ∧ xs.length ≤ cap ∧ cap ≤ 9223372036854775807 ∧ S g ∧ g < w.heap.size ∧ ¬ Si g ∧
    (∀ j u, cs[j]? = some u → w.cell? ⟨g, i * d.sz + j, none⟩ = some u) ∧ ∀ j, w.frozen? ⟨g, j, none⟩ = false := by
  obtain ⟨hi, hl, inner, f, ho, hv, hc, hs, hE⟩ := h
  rcases ho.2 with ⟨rfl, h0⟩ | ⟨g, cap, cur, rfl, hg, hh, h1, h2, h3, h4⟩
  · omega
  · simp only [maxLen] at h2
    refine ⟨g, cap, rfl, h1, by omega, hv g (by simp [Value.ownBlock]), (Array.getElem?_eq_some_iff.1 hh).1, fun h => (hs g h).2 (by simp [Value.ownBlock]), fun j u hu => ?_, fun j => ?_⟩
    · have hj : j < d.sz := by
        have := (List.getElem?_eq_some_iff.1 hu).1
        omega
      rw [← hc, List.getElem?_take, if_pos hj, List.getElem?_drop, ← h4, List.getElem?_take] at hu
      split at hu
      · simp [World.cell?, hh]; simpa using hu
      · cases hu
    · simp [World.frozen?, hh]
theorem H_store {g n cap : Nat} (h : d.H e w S (.slice (some ⟨g, 0, none⟩) n cap) xs i Si cs) (j : Nat) (hj : j < d.sz) (u : Value) (hu : u.cells = #[u]) : d.H e (w.setCell ⟨g, i * d.sz + j, none⟩ u) S (.slice (some ⟨g, 0, none⟩) n cap) xs i Si (cs.set j u) := by
  obtain ⟨hi, hl, inner, f, ho, hv, hc, hs, hE⟩ := h
  rcases ho.2 with ⟨h0, _⟩ | ⟨g', cap', cur, he, hg, hh, h1, h2, h3, h4⟩
  · cases h0
  · injection he with he1 he2 he3
    injection he1 with he1
    injection he1 with he1 _ _
    subst he1; subst he3; subst he2
    have hi1 : i * d.sz + d.sz ≤ xs.length * d.sz := by
      have := Nat.mul_le_mul_right d.sz (show i + 1 ≤ xs.length by omega)
      rw [Nat.add_mul] at this
      omega
    have hcap := Nat.mul_le_mul_right d.sz h1
    have hin : i * d.sz + j < cur.size := by omega
    have hhs : (w.setCell ⟨g, i * d.sz + j, none⟩ u).heap[g]? = some (.cells (cur.setIfInBounds (i * d.sz + j) u) e (0, 0)) := heap_setCell_ hh _ u
    have hne : ∀ k, k ≠ g → (w.setCell ⟨g, i * d.sz + j, none⟩ u).heap[k]? = w.heap[k]? := fun k hk => Below.heap_setCell w _ u k hk
    refine ⟨hi, by rw [List.length_set]; exact hl, inner.set (i * d.sz + j) u, f, ⟨by rw [List.length_set]; exact ho.1, .inr ⟨g, cap, cur.setIfInBounds (i * d.sz + j) u, rfl, hg, hhs, h1, h2, by simpa using h3, ?_⟩⟩, hv, ?_, hs, fun k y hk hy => ?_⟩
    · rw [← h4, Array.toList_setIfInBounds, List.take_set]
    · rw [← hc, set_drop_]
    · have hkl := (List.getElem?_eq_some_iff.1 hy).1
      have he : ((inner.set (i * d.sz + j) u).drop (k * d.sz)).take d.sz = (inner.drop (k * d.sz)).take d.sz := by
        apply List.ext_getElem?
        intro q
        rw [List.getElem?_take, List.getElem?_take]
        split
        · rename_i hq
          rw [List.getElem?_drop, List.getElem?_drop, List.getElem?_set_ne]
          intro heq
          rcases Nat.lt_or_gt_of_ne hk with hlt | hgt
          · have := Nat.mul_le_mul_right d.sz (show k + 1 ≤ i by omega)
            rw [Nat.add_mul] at this
            omega
          · have := Nat.mul_le_mul_right d.sz (show i + 1 ≤ k by omega)
            rw [Nat.add_mul] at this
            omega
        · rfl
      rw [he]
      exact d.O_move (fun b hb => hne b (fun e => hb.2.1 (by simp [Value.ownBlock, e]))) (hE k y hk hy)
theorem R_form (h : d.R e w S v xs) (hp : 0 < xs.length) : ∃ g cap, v = .slice (some ⟨g, 0, none⟩) xs.length cap ∧ S g ∧ g < w.heap.size := by
  obtain ⟨inner, f, ho, hv, hE⟩ := h
  rcases ho.2 with ⟨rfl, h0⟩ | ⟨g, cap, cur, rfl, hg, hh, h1, h2, h3, h4⟩
  · omega
  · exact ⟨g, cap, rfl, hv g (by simp [Value.ownBlock]), (Array.getElem?_eq_some_iff.1 hh).1⟩
theorem R_store1 {enc : α → Value} {h1 : ∀ x, (enc x).oneCell' = true} (hc1 : ∀ x, (enc x).cells = #[enc x]) {g n cap : Nat} (h : (scal enc h1).R e w S (.slice (some ⟨g, 0, none⟩) n cap) xs) {x : α} (hx : xs[i]? = some x) : g < w.heap.size ∧ w.cell? ⟨g, i, none⟩ = some (enc x) ∧ w.frozen? ⟨g, i, none⟩ = false ∧
    ∀ u, (scal enc h1).R e (w.setCell ⟨g, i, none⟩ (enc u)) S (.slice (some ⟨g, 0, none⟩) n cap) (xs.set i u) := by
  obtain ⟨Si, cs, hH, hO⟩ := R_H h hx
  have hcs : cs = [enc x] := hO
  obtain ⟨g', cap', he, _, _, hg, hgl, _, hcell, hfz⟩ := H_cells hH (Nat.le_refl 1)
  injection he with he _ _; injection he with he; injection he with he _ _; subst he
  refine ⟨hgl, ?_, hfz i, fun u => ?_⟩
  · have := hcell 0 (enc x) (by rw [hcs]; rfl)
    simpa [scal] using this
  · have h2 := H_store hH 0 (Nat.le_refl 1) (enc u) (hc1 u)
    have e1 : i * (scal enc h1).sz + 0 = i := by simp [scal]
    rw [e1] at h2
    exact H_back h2 (T := fun _ => False) (show cs.set 0 (enc u) = [enc u] by rw [hcs]; rfl) (fun k hk => hk.elim) (fun k hk => hk) (fun k hk => hk.elim)
theorem R_made {W : World} {z : Value} (zv : α) (n : Nat) (hsz : 0 < d.sz) (hn : n ≤ 9223372036854775807) (hz : z.cells.size = d.sz) (hO : 0 < n → ∀ w S, d.O w S zv z.cells.toList) (hS : S W.heap.size) :
    d.R e (W.alloc (.cells (madeCells z.cells (n * d.sz)) e)) S (.slice (some ⟨W.heap.size, 0, none⟩) n n) (List.replicate n zv) := by
  have := R_block (d := d) (e := e) (w := W.alloc (.cells (madeCells z.cells (n * d.sz)) e)) (S := S) (g := W.heap.size) (cap := n) (xs := List.replicate n zv) (heap_alloc_new W _) hS (by simp) hn (by simp [size_madeCells]) (fun b => 0) (fun i x hi => ?_)
  · simpa using this
  · have hil : i < n := by simpa using (List.getElem?_eq_some_iff.1 hi).1
    obtain rfl : zv = x := by
      have := (List.getElem?_eq_some_iff.1 hi).2
      simpa using this
    have h1 : i * d.sz + d.sz ≤ n * d.sz := by
      have := Nat.mul_le_mul_right d.sz (show i + 1 ≤ n by omega)
      rw [Nat.add_mul] at this
      omega
    have he : ((madeCells z.cells (n * d.sz)).toList.drop (i * d.sz)).take d.sz = z.cells.toList := by
      apply List.ext_getElem
      · simp [madeCells, hz]; omega
      · intro q h2 h3
        have hq : q < d.sz := by simpa [hz] using h3
        have : (i * d.sz + q) % z.cells.size = q := by rw [hz, Nat.mul_comm, Nat.mul_add_mod, Nat.mod_eq_of_lt hq]
        simp only [List.getElem_take, List.getElem_drop, madeCells, Array.toList_map, List.getElem_map, Array.toList_range, List.getElem_range, this]
        simp [hz, hq]
    rw [he]
    exact hO (by omega) _ _
end Ty
theorem set_rep {α : Type} (l : List α) (z : α) (k : Nat) (hk : k < l.length) : (l.take k ++ List.replicate (l.length - k) z).set k l[k] = l.take (k + 1) ++ List.replicate (l.length - (k + 1)) z := by
  rw [List.set_append_right _ _ (by simp; omega)]
  have h1 : k - (l.take k).length = 0 := by simp; omega
  have h2 : l.length - k = (l.length - (k + 1)) + 1 := by omega
  rw [h1, h2, List.replicate_succ, List.set_cons_zero, List.take_succ_eq_append_getElem hk, List.append_assoc]
  rfl
theorem make_eq {P : Program} (t e : TypeId) (z : Value) (sz bytes : Nat) (ht : P.underlying t = some (.slice e)) (hinfo : (P.info? e).map (fun i => (i.zero, i.size, i.bytes)) = some (some z, sz, bytes)) (n : Nat) (hb : bytes * n ≤ 281474976710656) (hn : n ≤ 9223372036854775807) (W : World) :
    (Instr.makeSlice t (.int .i64 (n : Int)) (.int .i64 (n : Int))).run P W = .ok (.slice (some ⟨W.heap.size, 0, none⟩) n n) (W.alloc (.cells (madeCells z.cells (n * sz)) e)) := by
  obtain ⟨i, hi, hzz⟩ := Option.map_eq_some_iff.1 hinfo
  simp only [Prod.mk.injEq] at hzz
  obtain ⟨h1, h2, h3⟩ := hzz
  subst h2; subst h3
  have := run_make (P := P) W t e i z ht hi h1 .i64 .i64 n n (by omega) (by omega) (by have : ((i.bytes * n : Nat) : Int) ≤ 281474976710656 := by omega
                                                                                       simpa using this) (by omega)
  simpa using this
end Go.Proofs.YtoaifagjdjgcbaaDoor.X
namespace Go.Proofs.YtoaifagjdjgcbaaDoor.X
open Go.RowKit Go.Lib
set_option linter.unusedVariables false
theorem var_below {P : Program} {w w1 : World} (h : Below w.heap.size w w1) {nm : String} {cs : Array Value} (hv : w.var? P nm = some cs) : w1.var? P nm = some cs := by
 unfold World.var? at hv ⊢
 cases hg : P.globalNamed nm with
 | none => simp [hg] at hv
 | some g =>
  simp only [hg, Option.bind_some] at hv ⊢
  have hlt : g < w.heap.size := by
   rcases Nat.lt_or_ge g w.heap.size with h' | h'
   ·exact h'
   ·rw [Array.getElem?_eq_none h'] at hv; simp at hv
  rw [h.block g hlt]
  exact hv
def EnvT (w : World) : Prop := TabIs Tryd.prog w "internal/strconv.uint64pow10" .u64 pow10Tab
def EnvE (w : World) : Prop := (∃ tp p, w.var? Tryd.prog "strconv.ErrSyntax" = some #[.iface tp p]) ∧ ∃ tp p, w.var? Tryd.prog "strconv.ErrRange" = some #[.iface tp p]
def EnvM (w : World) : Prop := ∃ m, w.cell? ⟨2, 0, none⟩ = some (.int .i64 m)
theorem EnvT.below {w w1 : World} (h : EnvT w) (hb : Below w.heap.size w w1) : EnvT w1 := by
 unfold EnvT TabIs at h ⊢
 exact var_below hb h
theorem EnvE.below {w w1 : World} (h : EnvE w) (hb : Below w.heap.size w w1) : EnvE w1 := by
 obtain ⟨⟨t, p, h1⟩, t2, p2, h2⟩ := h
 exact ⟨⟨t, p, var_below hb h1⟩, t2, p2, var_below hb h2⟩
theorem EnvM.below {w w1 : World} (h : EnvM w) (hb : Below w.heap.size w w1) : EnvM w1 := by -- 2
 obtain ⟨m, h⟩ := h
 exact ⟨m, cell_below hb h⟩
theorem envT_mv {w w1 : World} (hb : Below w.heap.size w w1) (h : EnvT w) : EnvT w1 := h.below hb
theorem envE_mv {w w1 : World} (hb : Below w.heap.size w w1) (h : EnvE w) : EnvE w1 := h.below hb
theorem envM_mv {w w1 : World} (hb : Below w.heap.size w w1) (h : EnvM w) : EnvM w1 := h.below hb -- 2
end Go.Proofs.YtoaifagjdjgcbaaDoor.X
namespace Go.Proofs.YtoaifagjdjgcbaaDoor.X
open Go.ChangeShapes Go.WideShapes Go.ChangeAt Go.RowKit
set_option linter.unusedVariables false
def flat1 : DataW Unit → List Value
 | .agg ps => ps.map fun
  | .lit (.int k z) => .int k z
  | _ => undef
 | _ => []
def flat2 : DataW Unit → List Value
 | .agg ps => ps.flatMap flat1
 | _ => []
def setG (g : Nat) (cs : List Value) (h : Array Obj) : Array Obj := h.modify g fun
 | .cells _ t frozen => .cells cs.toArray t frozen
 | o => o
abbrev synS : ByteArray := { data := #[105, 110, 118, 97, 108, 105, 100, 32, 115, 121, 110, 116, 97, 120] }
abbrev rngS : ByteArray := { data := #[118, 97, 108, 117, 101, 32, 111, 117, 116, 32, 111, 102, 32, 114, 97, 110, 103, 101] }
noncomputable def low : Nat := (World.holding Tryd.prog default ⟨#[], #[], []⟩).heap.size
noncomputable def laidWorld (os : Os) : World :=
 let w0 := World.holding Tryd.prog os ⟨#[.cells #[.string synS] 136, .cells #[.string rngS] 136], #[], []⟩
 { w0 with heap := setG 0 [.iface 134 (.pointer (some ⟨low, 0, none⟩))] (setG 1 [.iface 134 (.pointer (some ⟨low + 1, 0, none⟩))]
   (setG 5 (flat1 Rows.laid_internal_strconv_uint64pow10) (setG 6 (flat1 Rows.laid_math_bits_deBruijn32tab) (setG 7 (flat1 Rows.laid_math_bits_deBruijn64tab)
   (setG 3 (flat1 Rows.laid_unicode_utf8_first) (setG 4 (flat2 Rows.laid_unicode_utf8_acceptRanges) w0.heap)))))) }
theorem gES : Tryd.prog.globalNamed "strconv.ErrSyntax" = some 0 := by kernel_rfl
theorem gER : Tryd.prog.globalNamed "strconv.ErrRange" = some 1 := by kernel_rfl
theorem gPT : Tryd.prog.globalNamed "internal/strconv.uint64pow10" = some 5 := by kernel_rfl
theorem star : "*" ++ "errors.errorString" = "*errors.errorString" := by decide
theorem rowES (u : TypeId) (h : Tryd.prog.typeName? 3 u = some "*errors.errorString") : u = 134 :=
 typeName_ptr_named (nm := "errors.errorString") (by rw [star]; kernel_rfl) (by kernel_rfl) (by decide) u (by rw [star]; exact h)
theorem envM_of {W : World} (h : W.ShapedOpen Tryd.prog) : EnvM W := -- 2
 Go.Proofs.cell_of_shapedOpen_int (zero := #[.int .i64 0]) (t := 3) h (of_decide_eq_true (by kernel_rfl)) (by kernel_rfl) rfl (by kernel_rfl) (by kernel_rfl) Tryd.underlying3
theorem envT_of {rest : List (String × DataW Unit)} {W : World} (h : laidMet Tryd.prog (("internal/strconv.uint64pow10", Rows.laid_internal_strconv_uint64pow10) :: rest) W) : EnvT W :=
 Lib.tabIs_of_head (k := .u64) (zs := Lib.pow10Tab) (rest := rest) (t := 138) (e := 113) (n := 20) gPT (by kernel_rfl) (by kernel_rfl) (by kernel_rfl) (by kernel_rfl) (by kernel_rfl) h
theorem envE_of {rest : List (String × DataW Unit)} {W : World} (h : laidMet Tryd.prog (("strconv.ErrRange", Rows.laid_strconv_ErrRange) :: ("strconv.ErrSyntax", Rows.laid_strconv_ErrSyntax) :: rest) W) : EnvE W := by
 obtain ⟨a1, s1, hv1, -, -, -⟩ := laid_sentinel (ti := 78) (tp := 134) (te := 136) (ts := 9) h gER (by kernel_rfl) Tryd.underlying78 rowES Tryd.underlying134 Tryd.underlying136 rfl rfl Tryd.underlying9 (by kernel_rfl) (by kernel_rfl)
 obtain ⟨a0, s0, hv0, -, -, -⟩ := laid_sentinel (ti := 78) (tp := 134) (te := 136) (ts := 9) h.tail gES (by kernel_rfl) Tryd.underlying78 rowES Tryd.underlying134 Tryd.underlying136 rfl rfl Tryd.underlying9 (by kernel_rfl) (by kernel_rfl)
 exact ⟨⟨_, _, hv0⟩, _, _, hv1⟩
end Go.Proofs.YtoaifagjdjgcbaaDoor.X
namespace Go.Proofs.YtoaifagjdjgcbaaDoor.X
open Go.RowKit Go.Sort Go.Proofs.YtoaifagjdjgcbaaDoorW.PrintLast
set_option linter.unusedVariables false
set_option linter.unusedSimpArgs false

def readsB : Op → Bool
 | .move _ | .assign _ | .pick .. | .load .. | .binOp .. | .unOp .. | .fieldAddr .. | .field .. | .indexAddr .. | .index .. | .extract .. | .slice .. | .convert .. => true
 | .call c => match c.callee with
  | .builtin .len => true
  | _ => false
 | _ => false
theorem andThen_value {s : Sem Value} {P : Program} {w w' : World} {n : Next} (h : ((do pure (Next.value (← s)) : Sem Next)).run P w = .ok n w') : ∃ u, n = .value u := by
 simp only [Sem.run_bind, Sem.run_pure] at h
 cases hs : s.run P w with
 | ok x w2 => rw [hs] at h; simp only [Result.andThen_ok] at h; injection h with h1 h2; exact ⟨x, h1.symm⟩
 | halt x w2 => rw [hs] at h; simp [Result.andThen] at h
theorem reads_value {ρ : Operand → Value} {o : Oper} {P : Program} {w w' : World} {n : Next} (hr : readsB o.op = true) (h : (execOp ρ o).run P w = .ok n w') : ∃ u, n = .value u := by
 unfold execOp at h
 unfold readsB at hr
 split at hr <;> rename_i he <;> simp only [he] at h <;> try (first | exact andThen_value h | cases hr)
 ·simp only [Sem.run_pure] at h; injection h with h1 _; exact ⟨_, h1.symm⟩
 ·simp only [Sem.run_pure] at h; injection h with h1 _; exact ⟨_, h1.symm⟩
 ·simp only [Sem.run_bind, Sem.run_pure] at h
  generalize Sem.run P (asBool _) w = r at h
  cases r with
  | ok x w2 => simp only [Result.andThen_ok] at h; cases x <;> (simp at h; exact ⟨_, h.1.symm⟩)
  | halt x w2 => simp [Result.andThen] at h
 ·rename_i c
  split at hr
  ·rename_i hc
   simp only [resolve, hc, Sem.run_bind, Sem.run_pure, Result.andThen_ok, invoke, builtin] at h
   generalize Sem.run P (Builtin.len_ _ _ _) w = r at h
   cases r with
   | ok x w2 => simp only [Result.andThen_ok] at h; injection h with h1 _; exact ⟨_, h1.symm⟩
   | halt x w2 => simp [Result.andThen] at h
  ·cases hr
section
variable {P : Program} {ops : Array Oper} {Q : Exit → Act → World → Prop} {C : World → Prop} {ds : List Nat}
def mixB (ops : Array Oper) (ds : List Nat) : Array Bool → List (Bool × Nat) → Bool
 | l, [] => Region.ready .any ops l == []
 | l, (true, i) :: r => (ops[i]?.map (fun o => readsB o.op && o.dst.isSome)).getD false && Region.noSelect ops && Region.free .any ops l i && (Region.ready .any ops l).contains i && Region.closedB .any ops l && Region.lastB .any ops l ds i && mixB ops ds (l.setIfInBounds i true) r
 | l, (false, i) :: r => (Region.ready .any ops l == [i]) && !(ds.contains i) && mixB ops ds (l.setIfInBounds i true) r
def wpMix (P : Program) (ops : Array Oper) (C : World → Prop) (Q : Exit → Act → World → Prop) : List (Bool × Nat) → Act → World → Prop
 | [], a, w => Q .normal a w
 | (true, i) :: r, a, w => ∀ o, ops[i]? = some o → wpQuiet P ops C (fun a' => wpMix P ops C Q r a' w) [o] a
 | (false, i) :: r, a, w => ∀ o, ops[i]? = some o → if Region.wanted o (yielded ops a.tmps) then Oper.wp P o a w (fun a' w' => C w' ∧ wpMix P ops C Q r a' w') Q else wpMix P ops C Q r (a.put o.dst undef) w
theorem mix_last (hQ : ∀ c n a v w, Q (.panic c) (a.put (some n) v) w → Q (.panic c) a w) : ∀ (r : List (Bool × Nat)) (l : Array Bool) (a : Act) (w : World), mixB ops ds l r = true → C w → wpMix P ops C Q r a w → wpAnyLast P .any ops Q C ds r.length l a w
 | [], l, a, w, hc, hw, h => by
  simp only [mixB, beq_iff_eq] at hc
  exact ⟨hc, h⟩
 | (true, i) :: r, l, a, w, hc, hw, h => by
  simp only [mixB, Bool.and_eq_true] at hc
  obtain ⟨⟨⟨⟨⟨⟨h0, h1⟩, h2⟩, h3⟩, h4⟩, h5⟩, h6⟩ := hc
  cases ho : ops[i]? with
  | none => rw [ho] at h0; cases h0
  | some o =>
   rw [ho] at h0
   simp only [Option.map_some, Option.getD_some, Bool.and_eq_true] at h0
   obtain ⟨hr, hdst⟩ := h0
   obtain ⟨nd, hnd⟩ := Option.isSome_iff_exists.1 hdst
   have hQ' : ∀ v c a w, Q (.panic c) (a.put o.dst v) w → Q (.panic c) a w := fun v c a w h => hQ c nd a v w (by rw [hnd] at h; exact h)
   have h7 := h o ho
   simp only [wpQuiet] at h7
   split at h7
   ·rename_i hw2
    obtain ⟨v, hv, hk⟩ := h7
    refine wpAnyLast_take ho h1 h2 h3 h4 h5 (hQ' _) (.inl ⟨hw2, fun w' hw' => ?_⟩) hw (mix_last hQ r _ _ _ h6 hw hk)
    have h8 := hv w' hw'
    unfold Oper.quietAt at h8
    cases hrun : (execOp a.eval o).run P w' with
    | ok n w2 =>
     obtain ⟨u, rfl⟩ := reads_value hr hrun
     rw [hrun] at h8
     obtain ⟨e1, e2⟩ := h8
     rw [e1, e2]
    | halt x w2 => rw [hrun] at h8; exact h8.elim
   ·rename_i hw2
    exact wpAnyLast_take ho h1 h2 h3 h4 h5 (hQ' _) (.inr ⟨by simpa using hw2, rfl⟩) hw (mix_last hQ r _ _ _ h6 hw h7)
 | (false, i) :: r, l, a, w, hc, hw, h => by
  simp only [mixB, Bool.and_eq_true, beq_iff_eq, Bool.not_eq_true'] at hc
  obtain ⟨⟨h1, h2⟩, h3⟩ := hc
  cases ho : ops[i]? with
  | none =>
   have : i ∈ Region.ready .any ops l := by rw [h1]; simp
   obtain ⟨_, oj, hoj, _⟩ := mem_ready.1 this
   rw [ho] at hoj; cases hoj
  | some o =>
   refine wpAnyLast_ready h1 (by simp) (AllReadyL.cons ho (by simpa using h2) (fun K hK => ?_) AllReadyL.nil)
   have h7 := h o ho
   split at h7
   ·rename_i hw2
    rw [if_pos hw2]
    refine Oper.wp_mono ?_ h7
    intro a' w' h8
    exact hK _ _ h8.1 (fun _ => mix_last hQ r _ _ _ h3 h8.1 h8.2)
   ·rename_i hw2
    rw [if_neg hw2]
    exact hK _ _ hw (fun _ => mix_last hQ r _ _ _ h3 hw h7)
def mixQ (next : Act → World → Prop) (Q : Exit → Act → World → Prop) : Exit → Act → World → Prop
 | .normal, a, w => next a w
 | .panic c, a, w => Q (.panic c) a w
 | _, _, _ => False
theorem wp_of_mixQ {o : Oper} {a : Act} {w : World} {K : Act → World → Prop} (h : o.wp P a w K (mixQ K Q)) : o.wp P a w K Q := by
 unfold Oper.wp at h ⊢
 generalize (execOp a.eval o).run P w = r at h ⊢
 cases r with
 | ok n w' =>
  cases n with
  | enter f args =>
   simp only [Oper.upon_enter] at h ⊢
   refine h.mono fun e w'' he => ?_
   cases e with
   | returned v => exact he
   | panicked c => exact he
   | outgrown => obtain ⟨a', w2, h2⟩ := he; exact h2.elim
  | _ => exact h
 | halt x w' =>
  cases x with
  | panic v => exact h
  | _ => exact h
theorem mix_nil {a : Act} {w : World} (h : Q .normal a w) : wpMix P ops C Q [] a w := h
theorem mix_q {i : Nat} {o : Oper} {r : List (Bool × Nat)} {a : Act} {w : World} (hi : ops.toList[i]? = some o) (h : wpQuiet P ops C (fun a' => wpMix P ops C Q r a' w) [o] a) : wpMix P ops C Q ((true, i) :: r) a w := by
 rw [Array.getElem?_toList] at hi
 intro o' ho
 rw [hi] at ho; injection ho with ho; subst ho
 exact h
theorem mix_b {i : Nat} {o : Oper} {r : List (Bool × Nat)} {a : Act} {w : World} (hi : ops.toList[i]? = some o) (h : wpList P ops (mixQ (fun a' w' => C w' ∧ wpMix P ops C Q r a' w') Q) [o] a w) (hs : Region.wanted o (yielded ops a.tmps) = true) : wpMix P ops C Q ((false, i) :: r) a w := by
 rw [Array.getElem?_toList] at hi
 intro o' ho
 rw [hi] at ho; injection ho with ho; subst ho
 rw [if_pos hs]
 simp only [wpList, hs, if_true] at h
 rcases h with h | h
 ·exact wp_of_mixQ (Oper.wp_mono (fun a' w' h' => h') h)
 ·obtain ⟨a', w', h'⟩ := h.2
  exact h'.elim
theorem mix_s {i : Nat} {o : Oper} {r : List (Bool × Nat)} {a : Act} {w : World} (hi : ops.toList[i]? = some o) (hs : Region.wanted o (yielded ops a.tmps) = false) (h : wpMix P ops C Q r (a.put o.dst undef) w) : wpMix P ops C Q ((false, i) :: r) a w := by
 rw [Array.getElem?_toList] at hi
 intro o' ho
 rw [hi] at ho; injection ho with ho; subst ho
 rw [if_neg (by rw [hs]; simp)]
 exact h
theorem mix_z {i : Nat} {o : Oper} {r : List (Bool × Nat)} {a : Act} {w : World} (hi : ops.toList[i]? = some o) (hs : Region.wanted o (yielded ops a.tmps) = false) (h : wpQuiet P ops C (fun a' => wpMix P ops C Q r a' w) [o] a) : wpMix P ops C Q ((false, i) :: r) a w := by
 refine mix_s hi hs ?_
 simp only [wpQuiet] at h
 rw [if_neg (by rw [hs]; simp)] at h
 exact h
def cls (w : World) : World → Prop := fun w' => ∃ p : Regrown, w' = grow (redrawn w p.d) p.os
theorem cls_below {w w' : World} (h : Below w.heap.size w w') : cls w w' := regrown_of_below h
theorem cls_drew (w : World) : cls w w.drew := cls_below (below_drew (Below.refl _ _))
theorem region_mix {id : Nat} {a : Act} {w : World} (order : List (Bool × Nat)) (hm : P.follows .mixedOrders = true) (hc : (mixB ops [] (Array.replicate ops.size false) order && order.length == ops.size) = true)
  (hQ : ∀ c n a v w, Q (.panic c) (a.put (some n) v) w → Q (.panic c) a w) (h : wpMix P ops (fun w' => ∃ p : Regrown, w' = grow (redrawn w p.d) p.os) Q order a w.drew) : (Code.region id ops true).wp P Q a w := by
 simp only [Bool.and_eq_true, beq_iff_eq] at hc
 refine wp_region_last_drew (S := cls w) (ds := []) hm (cls_drew w) (fun hS => ?_)
 have := mix_last hQ order _ a w.drew hc.1 (cls_drew w) h
 rwa [hc.2] at this
end
section
variable {P : Program} {ops : Array Oper} {Q : Exit → Act → World → Prop} {C : World → Prop} {d : Nat}
theorem mixQ_n {next : Act → World → Prop} {a : Act} {w : World} (h : next a w) : mixQ next Q .normal a w := h
theorem wp_gen {c : Code} {a : Act} {w : World} (h : ∀ W, W = w → c.wp P Q a W) : c.wp P Q a w := h w rfl
theorem exit_gen {Q : Exit → Act → World → Prop} {e : Exit} {a : Act} {w : World} (h : ∀ W, W = w → Q e a W) : Q e a w := h w rfl
def mixEB (ops : Array Oper) (d : Nat) : Array Bool → List (Bool × Nat) → Bool
 | l, [] => Region.ready .any ops l == [d] && Region.ready .any ops (l.setIfInBounds d true) == []
 | l, (true, i) :: r => (ops[i]?.map (fun o => readsB o.op && o.dst.isSome)).getD false && Region.noSelect ops && Region.free .any ops l i && (Region.ready .any ops l).contains i && Region.closedB .any ops l && Region.lastB .any ops l [d] i && mixEB ops d (l.setIfInBounds i true) r
 | l, (false, i) :: r => (Region.ready .any ops l == [i]) && !([d].contains i) && mixEB ops d (l.setIfInBounds i true) r
def wpMixE (P : Program) (ops : Array Oper) (C : World → Prop) (Q : Exit → Act → World → Prop) (d : Nat) : List (Bool × Nat) → Act → World → Prop
 | [], a, w => ∀ o, ops[d]? = some o → if Region.wanted o (yielded ops a.tmps) then Oper.wp P o a w (fun a' w' => Q .normal a' w') Q else Q .normal (a.put o.dst undef) w
 | (true, i) :: r, a, w => ∀ o, ops[i]? = some o → wpQuiet P ops C (fun a' => wpMixE P ops C Q d r a' w) [o] a
 | (false, i) :: r, a, w => ∀ o, ops[i]? = some o → if Region.wanted o (yielded ops a.tmps) then Oper.wp P o a w (fun a' w' => C w' ∧ wpMixE P ops C Q d r a' w') Q else wpMixE P ops C Q d r (a.put o.dst undef) w
theorem mixE_last (hQ : ∀ c a n v w, Q (.panic c) (a.put (some n) v) w → Q (.panic c) a w) : ∀ (r : List (Bool × Nat)) (l : Array Bool) (a : Act) (w : World), mixEB ops d l r = true → C w → wpMixE P ops C Q d r a w → wpAnyLast P .any ops Q C [d] (r.length + 1) l a w
 | [], l, a, w, hc, hw, h => by
  simp only [mixEB, Bool.and_eq_true, beq_iff_eq] at hc
  obtain ⟨h1, h2⟩ := hc
  cases ho : ops[d]? with
  | none =>
   have : d ∈ Region.ready .any ops l := by rw [h1]; simp
   obtain ⟨_, oj, hoj, _⟩ := mem_ready.1 this
   rw [ho] at hoj; cases hoj
  | some o =>
   refine wpAnyLast_ready h1 (by simp) (AllReadyL.cons_last ho (by simp) (fun K hK => ?_) AllReadyL.nil)
   have h7 := h o ho
   split at h7
   ·rename_i hw2
    rw [if_pos hw2]
    refine Oper.wp_mono ?_ h7
    intro a' w' h8
    exact hK _ _ ⟨h2, h8⟩
   ·rename_i hw2
    rw [if_neg hw2]
    exact hK _ _ ⟨h2, h7⟩
 | (true, i) :: r, l, a, w, hc, hw, h => by
  simp only [mixEB, Bool.and_eq_true] at hc
  obtain ⟨⟨⟨⟨⟨⟨h0, h1⟩, h2⟩, h3⟩, h4⟩, h5⟩, h6⟩ := hc
  cases ho : ops[i]? with
  | none => rw [ho] at h0; cases h0
  | some o =>
   rw [ho] at h0
   simp only [Option.map_some, Option.getD_some, Bool.and_eq_true] at h0
   obtain ⟨hr, hdst⟩ := h0
   obtain ⟨nd, hnd⟩ := Option.isSome_iff_exists.1 hdst
   have hQ' : ∀ v c a w, Q (.panic c) (a.put o.dst v) w → Q (.panic c) a w := fun v c a w h => hQ c a nd v w (by rw [hnd] at h; exact h)
   have h7 := h o ho
   simp only [wpQuiet] at h7
   split at h7
   ·rename_i hw2
    obtain ⟨v, hv, hk⟩ := h7
    refine wpAnyLast_take ho h1 h2 h3 h4 h5 (hQ' _) (.inl ⟨hw2, fun w' hw' => ?_⟩) hw (mixE_last hQ r _ _ _ h6 hw hk)
    have h8 := hv w' hw'
    unfold Oper.quietAt at h8
    cases hrun : (execOp a.eval o).run P w' with
    | ok n w2 =>
     obtain ⟨u, rfl⟩ := reads_value hr hrun
     rw [hrun] at h8
     obtain ⟨e1, e2⟩ := h8
     rw [e1, e2]
    | halt x w2 => rw [hrun] at h8; exact h8.elim
   ·rename_i hw2
    exact wpAnyLast_take ho h1 h2 h3 h4 h5 (hQ' _) (.inr ⟨by simpa using hw2, rfl⟩) hw (mixE_last hQ r _ _ _ h6 hw h7)
 | (false, i) :: r, l, a, w, hc, hw, h => by
  simp only [mixEB, Bool.and_eq_true, beq_iff_eq, Bool.not_eq_true'] at hc
  obtain ⟨⟨h1, h2⟩, h3⟩ := hc
  cases ho : ops[i]? with
  | none =>
   have : i ∈ Region.ready .any ops l := by rw [h1]; simp
   obtain ⟨_, oj, hoj, _⟩ := mem_ready.1 this
   rw [ho] at hoj; cases hoj
  | some o =>
   refine wpAnyLast_ready h1 (by simp) (AllReadyL.cons ho (by simpa using h2) (fun K hK => ?_) AllReadyL.nil)
   have h7 := h o ho
   split at h7
   ·rename_i hw2
    rw [if_pos hw2]
    refine Oper.wp_mono ?_ h7
    intro a' w' h8
    exact hK _ _ h8.1 (fun _ => mixE_last hQ r _ _ _ h3 h8.1 h8.2)
   ·rename_i hw2
    rw [if_neg hw2]
    exact hK _ _ hw (fun _ => mixE_last hQ r _ _ _ h3 hw h7)
theorem mixE_q {i : Nat} {o : Oper} {r : List (Bool × Nat)} {a : Act} {w : World} (hi : ops.toList[i]? = some o) (h : wpQuiet P ops C (fun a' => wpMixE P ops C Q d r a' w) [o] a) : wpMixE P ops C Q d ((true, i) :: r) a w := by
 rw [Array.getElem?_toList] at hi
 intro o' ho
 rw [hi] at ho; injection ho with ho; subst ho
 exact h
theorem mixE_b {i : Nat} {o : Oper} {r : List (Bool × Nat)} {a : Act} {w : World} (hi : ops.toList[i]? = some o) (h : wpList P ops (mixQ (fun a' w' => C w' ∧ wpMixE P ops C Q d r a' w') Q) [o] a w) (hs : Region.wanted o (yielded ops a.tmps) = true) : wpMixE P ops C Q d ((false, i) :: r) a w := by
 rw [Array.getElem?_toList] at hi
 intro o' ho
 rw [hi] at ho; injection ho with ho; subst ho
 rw [if_pos hs]
 simp only [wpList, hs, if_true] at h
 rcases h with h | h
 ·exact wp_of_mixQ (Oper.wp_mono (fun a' w' h' => h') h)
 ·obtain ⟨a', w', h'⟩ := h.2
  exact h'.elim
theorem mixE_end {o : Oper} {a : Act} {w : World} (hi : ops.toList[d]? = some o) (h : wpList P ops (mixQ (fun a' w' => Q .normal a' w') Q) [o] a w) (hs : Region.wanted o (yielded ops a.tmps) = true) : wpMixE P ops C Q d [] a w := by
 rw [Array.getElem?_toList] at hi
 intro o' ho
 rw [hi] at ho; injection ho with ho; subst ho
 rw [if_pos hs]
 simp only [wpList, hs, if_true] at h
 rcases h with h | h
 ·exact wp_of_mixQ (Oper.wp_mono (fun a' w' h' => h') h)
 ·obtain ⟨a', w', h'⟩ := h.2
  exact h'.elim
theorem region_mixE {id : Nat} {a : Act} {w : World} (order : List (Bool × Nat)) (d : Nat) (hm : P.follows .mixedOrders = true) (hc : (mixEB ops d (Array.replicate ops.size false) order && order.length + 1 == ops.size) = true)
  (hQ : ∀ c a n v w, Q (.panic c) (a.put (some n) v) w → Q (.panic c) a w) (h : wpMixE P ops (fun w' => ∃ p : Regrown, w' = grow (redrawn w p.d) p.os) Q d order a w.drew) : (Code.region id ops true).wp P Q a w := by
 simp only [Bool.and_eq_true, beq_iff_eq] at hc
 refine wp_region_last_drew (S := cls w) (ds := [d]) hm (cls_drew w) (fun hS => ?_)
 have := mixE_last hQ order _ a w.drew hc.1 (cls_drew w) h
 rwa [hc.2] at this
def reads2B : Op → Bool
 | .build .. => true
 | o => readsB o
theorem reads2_value {ρ : Operand → Value} {o : Oper} {P : Program} {w w' : World} {n : Next} (hr : reads2B o.op = true) (h : (execOp ρ o).run P w = .ok n w') : ∃ u, n = .value u := by
 by_cases hb : ∃ t ps, o.op = .build t ps
 ·obtain ⟨t, ps, he⟩ := hb
  unfold execOp at h
  simp only [he] at h
  exact andThen_value h
 ·have : readsB o.op = true := by
   unfold reads2B at hr
   split at hr
   ·rename_i t ps he; exact absurd ⟨_, _, he⟩ hb
   ·exact hr
  exact reads_value this h
theorem last_narrow {P : Program} {ops : Array Oper} {Q : Exit → Act → World → Prop} {S S' : World → Prop} {ts : List Nat} (hSS : ∀ w, S' w → S w) (hT : ∀ i, i < ops.size → i ∉ ts → ∀ d ∈ ts, Region.reachB .any ops i ops.size d = true) :
  ∀ (n : Nat) (l : Array Bool) (a : Act) (w : World), ListedClosed .any ops l → l.size = ops.size → (S' w ∨ ∀ i, l.getD i true = false → i ∈ ts) → wpAnyLast P .any ops Q S' ts n l a w → wpAnyLast P .any ops Q S ts n l a w
 | 0, l, a, w, hc, hz, hs, h => h
 | n + 1, l, a, w, hc, hz, hs, h => ⟨h.1, fun i hi => wpOp_mono (fun a' w' h' => by
   obtain ⟨h1, h2⟩ := h'
   have hun : l.getD i true = false := (mem_ready.1 hi).1
   have hS' : i ∉ ts → S' w := fun hit => by
    rcases hs with h | h
    ·exact h
    ·exact absurd (h i hun) hit
   refine ⟨fun hit _ => hSS _ (h1 hit (hS' hit)), last_narrow hSS hT n _ a' w' (hc.set hi) (by simpa using hz) ?_ h2⟩
   by_cases hit : i ∈ ts
   ·refine .inr (fun j hj => ?_)
    rcases Classical.em (j ∈ ts) with hjt | hjt
    ·exact hjt
    ·exfalso
     have hj2 : l.getD j true = false := getD_set_false hj
     have hjl : j < ops.size := by
      rw [← hz]
      rcases Nat.lt_or_ge j l.size with h | h
      ·exact h
      ·simp [Array.getD, Nat.not_lt.2 h] at hj2
     exact Region.reach_not_ready hc (hT j hjl hjt i hit) hj2 hi
   ·exact .inl (h1 hit (hS' hit))) (h.2 i hi)⟩
where
 getD_set_false {l : Array Bool} {i j : Nat} (hj : (l.setIfInBounds i true).getD j true = false) : l.getD j true = false := by
  rcases Nat.lt_or_ge j l.size with h | h
  ·by_cases e : i = j
   ·subst e
    simp [Array.getD, h] at hj
   ·simpa [Array.getD, h, Array.getElem_setIfInBounds, e] using hj
  ·simp [Array.getD, Nat.not_lt.2 h] at hj
inductive MO where
 | fin
 | q (i : Nat) (r : MO)
 | p (i : Nat) (r : MO)
 | b (i : Nat) (r : MO)
 | br (i j : Nat) (r s : MO)
 | br3 (i j k : Nat) (r s t : MO)
 | br4 (i j k m : Nat) (r s t u : MO)
 | n (r : MO)
def MO.len (n : Nat) : MO → Nat
 | .fin => n
 | .q _ r => r.len n + 1
 | .p _ r => r.len n + 1
 | .b _ r => r.len n + 1
 | .br _ _ r s => max (r.len n) (s.len n) + 1
 | .br3 _ _ _ r s t => max (r.len n) (max (s.len n) (t.len n)) + 1
 | .br4 _ _ _ _ r s t u => max (max (r.len n) (s.len n)) (max (t.len n) (u.len n)) + 1
 | .n r => r.len n
def tailB (ops : Array Oper) : Array Bool → List Nat → Bool
 | l, [] => Region.ready .any ops l == []
 | l, d :: r => Region.ready .any ops l == [d] && tailB ops (l.setIfInBounds d true) r
def mixTB (ops : Array Oper) (ts : List Nat) : Array Bool → MO → Bool
 | l, .fin => tailB ops l ts
 | l, .q i r => (ops[i]?.map (fun o => reads2B o.op && o.dst.isSome)).getD false && Region.noSelect ops && Region.free .any ops l i && (Region.ready .any ops l).contains i && Region.closedB .any ops l && Region.lastB .any ops l ts i && mixTB ops ts (l.setIfInBounds i true) r
 | l, .p i r => (ops[i]?.map (fun o => reads2B o.op && o.dst.isSome)).getD false && Region.noSelect ops && Region.free .any ops l i && (Region.ready .any ops l).contains i && mixTB ops ts (l.setIfInBounds i true) r
 | l, .b i r => (Region.ready .any ops l == [i]) && !(ts.contains i) && mixTB ops ts (l.setIfInBounds i true) r
 | l, .br i j r s => (Region.ready .any ops l == [i, j]) && !(ts.contains i) && !(ts.contains j) && mixTB ops ts (l.setIfInBounds i true) r && mixTB ops ts (l.setIfInBounds j true) s
 | l, .br3 i j k r s t => (Region.ready .any ops l == [i, j, k]) && !(ts.contains i) && !(ts.contains j) && !(ts.contains k) && mixTB ops ts (l.setIfInBounds i true) r && mixTB ops ts (l.setIfInBounds j true) s && mixTB ops ts (l.setIfInBounds k true) t
 | l, .br4 i j k m r s t u => (Region.ready .any ops l == [i, j, k, m]) && !(ts.contains i) && !(ts.contains j) && !(ts.contains k) && !(ts.contains m) && mixTB ops ts (l.setIfInBounds i true) r && mixTB ops ts (l.setIfInBounds j true) s && mixTB ops ts (l.setIfInBounds k true) t && mixTB ops ts (l.setIfInBounds m true) u
 | l, .n r => Region.closedB .any ops l && (List.range ops.size).all (fun i => ts.contains i || ts.all (fun d => Region.reachB .any ops i ops.size d)) && l.size == ops.size && mixTB ops ts l r
def wpTail (P : Program) (ops : Array Oper) (Q : Exit → Act → World → Prop) : List Nat → Act → World → Prop
 | [], a, w => Q .normal a w
 | d :: r, a, w => ∀ o, ops[d]? = some o → if Region.wanted o (yielded ops a.tmps) then Oper.wp P o a w (fun a' w' => wpTail P ops Q r a' w') Q else wpTail P ops Q r (a.put o.dst undef) w
def stepM (P : Program) (ops : Array Oper) (C : World → Prop) (Q : Exit → Act → World → Prop) (i : Nat) (K : Act → World → Prop) (a : Act) (w : World) : Prop :=
 ∀ o, ops[i]? = some o → if Region.wanted o (yielded ops a.tmps) then Oper.wp P o a w (fun a' w' => C w' ∧ K a' w') Q else K (a.put o.dst undef) w
def wpMixT (P : Program) (ops : Array Oper) (C : World → Prop) (Q : Exit → Act → World → Prop) (ts : List Nat) : MO → Act → World → Prop
 | .fin, a, w => wpTail P ops Q ts a w
 | .q i r, a, w => ∀ o, ops[i]? = some o → wpQuiet P ops C (fun a' => wpMixT P ops C Q ts r a' w) [o] a
 | .p i r, a, w => ∀ o, ops[i]? = some o → wpQuiet P ops (fun _ => True) (fun a' => wpMixT P ops C Q ts r a' w) [o] a
 | .b i r, a, w => stepM P ops C Q i (wpMixT P ops C Q ts r) a w
 | .br i j r s, a, w => stepM P ops C Q i (wpMixT P ops C Q ts r) a w ∧ stepM P ops C Q j (wpMixT P ops C Q ts s) a w
 | .br3 i j k r s t, a, w => stepM P ops C Q i (wpMixT P ops C Q ts r) a w ∧ stepM P ops C Q j (wpMixT P ops C Q ts s) a w ∧ stepM P ops C Q k (wpMixT P ops C Q ts t) a w
 | .br4 i j k m r s t u, a, w => stepM P ops C Q i (wpMixT P ops C Q ts r) a w ∧ stepM P ops C Q j (wpMixT P ops C Q ts s) a w ∧ stepM P ops C Q k (wpMixT P ops C Q ts t) a w ∧ stepM P ops C Q m (wpMixT P ops C Q ts u) a w
 | .n r, a, w => ∃ C' : World → Prop, C' w ∧ (∀ w', C' w' → C w') ∧ wpMixT P ops C' Q ts r a w
theorem tail_last {ts : List Nat} : ∀ (r : List Nat) (l : Array Bool) (a : Act) (w : World) (n : Nat), r.length ≤ n → (∀ d ∈ r, d ∈ ts) → tailB ops l r = true → wpTail P ops Q r a w → wpAnyLast P .any ops Q C ts n l a w
 | [], l, a, w, 0, hn, hs, hc, h => by
  simp only [tailB, beq_iff_eq] at hc
  exact ⟨hc, h⟩
 | [], l, a, w, n + 1, hn, hs, hc, h => by
  simp only [tailB, beq_iff_eq] at hc
  exact ⟨fun _ => h, fun i hi => by rw [hc] at hi; cases hi⟩
 | d :: r, l, a, w, 0, hn, hs, hc, h => by simp at hn
 | d :: r, l, a, w, n + 1, hn, hs, hc, h => by
  simp only [tailB, Bool.and_eq_true, beq_iff_eq] at hc
  obtain ⟨h1, h2⟩ := hc
  cases ho : ops[d]? with
  | none =>
   have : d ∈ Region.ready .any ops l := by rw [h1]; simp
   obtain ⟨_, oj, hoj, _⟩ := mem_ready.1 this
   rw [ho] at hoj; cases hoj
  | some o =>
   refine wpAnyLast_ready h1 (by simp) (AllReadyL.cons_last ho (hs d (by simp)) (fun K hK => ?_) AllReadyL.nil)
   have h7 := h o ho
   have hs' : ∀ x ∈ r, x ∈ ts := fun x hx => hs x (by simp [hx])
   split at h7
   ·rename_i hw2
    rw [if_pos hw2]
    refine Oper.wp_mono ?_ h7
    intro a' w' h8
    exact hK _ _ (tail_last r _ _ _ n (by simpa using hn) hs' h2 h8)
   ·rename_i hw2
    rw [if_neg hw2]
    exact hK _ _ (tail_last r _ _ _ n (by simpa using hn) hs' h2 h7)
theorem one_of {ts : List Nat} {i n : Nat} {l : Array Bool} {a : Act} {w : World} {K0 : Act → World → Prop} {K : Act → World → Prop} {o : Oper} (ho : ops[i]? = some o) (hw : C w) (h : stepM P ops C Q i K0 a w)
  (hK : Shut (∀ a w, C w → (C w → wpAnyLast P .any ops Q C ts n (l.setIfInBounds i true) a w) → K a w)) (hm : ∀ a' w', C w' → K0 a' w' → wpAnyLast P .any ops Q C ts n (l.setIfInBounds i true) a' w') :
  if Region.wanted o (yielded ops a.tmps) = true then Oper.wp P o a w K Q else K (a.put o.dst undef) w := by
 have h7 := h o ho
 split at h7
 ·rename_i hw2
  rw [if_pos hw2]
  refine Oper.wp_mono ?_ h7
  intro a' w' h8
  exact hK _ _ h8.1 (fun _ => hm _ _ h8.1 h8.2)
 ·rename_i hw2
  rw [if_neg hw2]
  exact hK _ _ hw (fun _ => hm _ _ hw h7)
theorem some_of {l : Array Bool} {i : Nat} {rs : List Nat} (h1 : Region.ready .any ops l = rs) (hi : i ∈ rs) : ∃ o, ops[i]? = some o := by
 rw [← h1] at hi
 obtain ⟨_, oj, hoj, _⟩ := mem_ready.1 hi
 exact ⟨oj, hoj⟩
theorem mixT_last {C : World → Prop} {ts : List Nat} (hQ : ∀ c a n v w, Q (.panic c) (a.put (some n) v) w → Q (.panic c) a w) : ∀ (r : MO) (l : Array Bool) (a : Act) (w : World) (n : Nat), r.len ts.length ≤ n → mixTB ops ts l r = true → C w → wpMixT P ops C Q ts r a w → wpAnyLast P .any ops Q C ts n l a w
 | .fin, l, a, w, n, hn, hc, hw, h => tail_last ts l a w n hn (fun _ h => h) hc h
 | .q i r, l, a, w, 0, hn, hc, hw, h => by simp [MO.len] at hn
 | .p i r, l, a, w, 0, hn, hc, hw, h => by simp [MO.len] at hn
 | .b i r, l, a, w, 0, hn, hc, hw, h => by simp [MO.len] at hn
 | .br i j r s, l, a, w, 0, hn, hc, hw, h => by simp [MO.len] at hn
 | .br3 i j k r s t, l, a, w, 0, hn, hc, hw, h => by simp [MO.len] at hn
 | .br4 i j k m r s t u, l, a, w, 0, hn, hc, hw, h => by simp [MO.len] at hn
 | .n r, l, a, w, n, hn, hc, hw, h => by
  simp only [mixTB, Bool.and_eq_true, beq_iff_eq] at hc
  obtain ⟨⟨⟨h1, h2⟩, h3⟩, h4⟩ := hc
  obtain ⟨C', hC, hCC, h⟩ := h
  refine last_narrow hCC (fun i hi hit d hd => ?_) n l a w (Region.closedB_spec h1) h3 (.inl hC) (mixT_last hQ r l a w n hn h4 hC h)
  have h5 := List.all_eq_true.1 h2 i (List.mem_range.2 hi)
  rw [Bool.or_eq_true] at h5
  rcases h5 with h5 | h5
  ·exact absurd (by simpa using h5) hit
  ·exact List.all_eq_true.1 h5 d hd
 | .q i r, l, a, w, n + 1, hn, hc, hw, h => by
  simp only [mixTB, Bool.and_eq_true] at hc
  obtain ⟨⟨⟨⟨⟨⟨h0, h1⟩, h2⟩, h3⟩, h4⟩, h5⟩, h6⟩ := hc
  simp only [MO.len] at hn
  cases ho : ops[i]? with
  | none => rw [ho] at h0; cases h0
  | some o =>
   rw [ho] at h0
   simp only [Option.map_some, Option.getD_some, Bool.and_eq_true] at h0
   obtain ⟨hr, hdst⟩ := h0
   obtain ⟨nd, hnd⟩ := Option.isSome_iff_exists.1 hdst
   have hQ' : ∀ v c a w, Q (.panic c) (a.put o.dst v) w → Q (.panic c) a w := fun v c a w h => hQ c a nd v w (by rw [hnd] at h; exact h)
   have h7 := h o ho
   simp only [wpQuiet] at h7
   split at h7
   ·rename_i hw2
    obtain ⟨v, hv, hk⟩ := h7
    refine wpAnyLast_take ho h1 h2 h3 h4 h5 (hQ' _) (.inl ⟨hw2, fun w' hw' => ?_⟩) hw (mixT_last hQ r _ _ _ n (by omega) h6 hw hk)
    have h8 := hv w' hw'
    unfold Oper.quietAt at h8
    cases hrun : (execOp a.eval o).run P w' with
    | ok n w2 =>
     obtain ⟨u, rfl⟩ := reads2_value hr hrun
     rw [hrun] at h8
     obtain ⟨e1, e2⟩ := h8
     rw [e1, e2]
    | halt x w2 => rw [hrun] at h8; exact h8.elim
   ·rename_i hw2
    exact wpAnyLast_take ho h1 h2 h3 h4 h5 (hQ' _) (.inr ⟨by simpa using hw2, rfl⟩) hw (mixT_last hQ r _ _ _ n (by omega) h6 hw h7)
 | .p i r, l, a, w, n + 1, hn, hc, hw, h => by
  simp only [mixTB, Bool.and_eq_true] at hc
  obtain ⟨⟨⟨⟨h0, h1⟩, h2⟩, h3⟩, h6⟩ := hc
  simp only [MO.len] at hn
  cases ho : ops[i]? with
  | none => rw [ho] at h0; cases h0
  | some o =>
   rw [ho] at h0
   simp only [Option.map_some, Option.getD_some, Bool.and_eq_true] at h0
   obtain ⟨hr, hdst⟩ := h0
   obtain ⟨nd, hnd⟩ := Option.isSome_iff_exists.1 hdst
   have hQ' : ∀ v c a w, Q (.panic c) (a.put o.dst v) w → Q (.panic c) a w := fun v c a w h => hQ c a nd v w (by rw [hnd] at h; exact h)
   have h7 := h o ho
   simp only [wpQuiet] at h7
   split at h7
   ·rename_i hw2
    obtain ⟨v, hv, hk⟩ := h7
    refine wpAnyLast_any ho (Region.noSelect_spec h1) (hQ' _) n l a w (Region.free_spec ho h2) (by simpa using h3) (.inl ⟨hw2, fun w' => ?_⟩) (mixT_last hQ r _ _ _ n (by omega) h6 hw hk)
    have h8 := hv w' trivial
    unfold Oper.quietAt at h8
    cases hrun : (execOp a.eval o).run P w' with
    | ok nx w2 =>
     obtain ⟨u, rfl⟩ := reads2_value hr hrun
     rw [hrun] at h8
     obtain ⟨e1, e2⟩ := h8
     rw [e1, e2]
    | halt x w2 => rw [hrun] at h8; exact h8.elim
   ·rename_i hw2
    exact wpAnyLast_any ho (Region.noSelect_spec h1) (hQ' _) n l a w (Region.free_spec ho h2) (by simpa using h3) (.inr ⟨by simpa using hw2, rfl⟩) (mixT_last hQ r _ _ _ n (by omega) h6 hw h7)
 | .b i r, l, a, w, n + 1, hn, hc, hw, h => by
  simp only [mixTB, Bool.and_eq_true, beq_iff_eq, Bool.not_eq_true'] at hc
  obtain ⟨⟨h1, h2⟩, h3⟩ := hc
  simp only [MO.len] at hn
  obtain ⟨o, ho⟩ := some_of h1 (i := i) (by simp)
  exact wpAnyLast_ready h1 (by simp) (AllReadyL.cons ho (by simpa using h2) (fun K hK => one_of ho hw h hK (fun a' w' hw' h' => mixT_last hQ r _ _ _ n (by omega) h3 hw' h')) AllReadyL.nil)
 | .br i j r s, l, a, w, n + 1, hn, hc, hw, h => by
  simp only [mixTB, Bool.and_eq_true, beq_iff_eq, Bool.not_eq_true'] at hc
  obtain ⟨⟨⟨⟨h1, h2⟩, h2j⟩, h3⟩, h3j⟩ := hc
  simp only [MO.len] at hn
  obtain ⟨o, ho⟩ := some_of h1 (i := i) (by simp)
  obtain ⟨oj, hoj⟩ := some_of h1 (i := j) (by simp)
  exact wpAnyLast_ready h1 (by simp) (AllReadyL.cons ho (by simpa using h2) (fun K hK => one_of ho hw h.1 hK (fun a' w' hw' h' => mixT_last hQ r _ _ _ n (by omega) h3 hw' h'))
   (AllReadyL.cons hoj (by simpa using h2j) (fun K hK => one_of hoj hw h.2 hK (fun a' w' hw' h' => mixT_last hQ s _ _ _ n (by omega) h3j hw' h')) AllReadyL.nil))
 | .br3 i j k r s t, l, a, w, n + 1, hn, hc, hw, h => by
  simp only [mixTB, Bool.and_eq_true, beq_iff_eq, Bool.not_eq_true'] at hc
  obtain ⟨⟨⟨⟨⟨⟨h1, h2⟩, h2j⟩, h2k⟩, h3⟩, h3j⟩, h3k⟩ := hc
  simp only [MO.len] at hn
  obtain ⟨o, ho⟩ := some_of h1 (i := i) (by simp)
  obtain ⟨oj, hoj⟩ := some_of h1 (i := j) (by simp)
  obtain ⟨ok, hok⟩ := some_of h1 (i := k) (by simp)
  exact wpAnyLast_ready h1 (by simp) (AllReadyL.cons ho (by simpa using h2) (fun K hK => one_of ho hw h.1 hK (fun a' w' hw' h' => mixT_last hQ r _ _ _ n (by omega) h3 hw' h'))
   (AllReadyL.cons hoj (by simpa using h2j) (fun K hK => one_of hoj hw h.2.1 hK (fun a' w' hw' h' => mixT_last hQ s _ _ _ n (by omega) h3j hw' h'))
    (AllReadyL.cons hok (by simpa using h2k) (fun K hK => one_of hok hw h.2.2 hK (fun a' w' hw' h' => mixT_last hQ t _ _ _ n (by omega) h3k hw' h')) AllReadyL.nil)))
 | .br4 i j k m r s t u, l, a, w, n + 1, hn, hc, hw, h => by
  simp only [mixTB, Bool.and_eq_true, beq_iff_eq, Bool.not_eq_true'] at hc
  obtain ⟨⟨⟨⟨⟨⟨⟨⟨h1, h2⟩, h2j⟩, h2k⟩, h2m⟩, h3⟩, h3j⟩, h3k⟩, h3m⟩ := hc
  simp only [MO.len] at hn
  obtain ⟨o, ho⟩ := some_of h1 (i := i) (by simp)
  obtain ⟨oj, hoj⟩ := some_of h1 (i := j) (by simp)
  obtain ⟨ok, hok⟩ := some_of h1 (i := k) (by simp)
  obtain ⟨om, hom⟩ := some_of h1 (i := m) (by simp)
  exact wpAnyLast_ready h1 (by simp) (AllReadyL.cons ho (by simpa using h2) (fun K hK => one_of ho hw h.1 hK (fun a' w' hw' h' => mixT_last hQ r _ _ _ n (by omega) h3 hw' h'))
   (AllReadyL.cons hoj (by simpa using h2j) (fun K hK => one_of hoj hw h.2.1 hK (fun a' w' hw' h' => mixT_last hQ s _ _ _ n (by omega) h3j hw' h'))
    (AllReadyL.cons hok (by simpa using h2k) (fun K hK => one_of hok hw h.2.2.1 hK (fun a' w' hw' h' => mixT_last hQ t _ _ _ n (by omega) h3k hw' h'))
     (AllReadyL.cons hom (by simpa using h2m) (fun K hK => one_of hom hw h.2.2.2 hK (fun a' w' hw' h' => mixT_last hQ u _ _ _ n (by omega) h3m hw' h')) AllReadyL.nil))))
theorem mixT_q {ts : List Nat} {i : Nat} {o : Oper} {r : MO} {a : Act} {w : World} (hi : ops.toList[i]? = some o) (h : wpQuiet P ops C (fun a' => wpMixT P ops C Q ts r a' w) [o] a) : wpMixT P ops C Q ts (.q i r) a w := by
 rw [Array.getElem?_toList] at hi
 intro o' ho
 rw [hi] at ho; injection ho with ho; subst ho
 exact h
theorem mixT_p {ts : List Nat} {i : Nat} {o : Oper} {r : MO} {a : Act} {w : World} (hi : ops.toList[i]? = some o) (h : wpQuiet P ops (fun _ => True) (fun a' => wpMixT P ops C Q ts r a' w) [o] a) : wpMixT P ops C Q ts (.p i r) a w := by
 rw [Array.getElem?_toList] at hi
 intro o' ho
 rw [hi] at ho; injection ho with ho; subst ho
 exact h
theorem stepM_of {i : Nat} {o : Oper} {K : Act → World → Prop} {a : Act} {w : World} (hi : ops.toList[i]? = some o) (h : wpList P ops (mixQ (fun a' w' => C w' ∧ K a' w') Q) [o] a w) (hs : Region.wanted o (yielded ops a.tmps) = true) : stepM P ops C Q i K a w := by
 rw [Array.getElem?_toList] at hi
 intro o' ho
 rw [hi] at ho; injection ho with ho; subst ho
 rw [if_pos hs]
 simp only [wpList, hs, if_true] at h
 rcases h with h | h
 ·exact wp_of_mixQ (Oper.wp_mono (fun a' w' h' => h') h)
 ·obtain ⟨a', w', h'⟩ := h.2
  exact h'.elim
theorem mixT_b {ts : List Nat} {i : Nat} {o : Oper} {r : MO} {a : Act} {w : World} (hi : ops.toList[i]? = some o) (h : wpList P ops (mixQ (fun a' w' => C w' ∧ wpMixT P ops C Q ts r a' w') Q) [o] a w) (hs : Region.wanted o (yielded ops a.tmps) = true) : wpMixT P ops C Q ts (.b i r) a w := stepM_of hi h hs
theorem genT {ts : List Nat} {r : MO} {a : Act} {w : World} (h : ∀ W, W = w → wpMixT P ops C Q ts r a W) : wpMixT P ops C Q ts r a w := h w rfl
theorem mixT_n {C C' : World → Prop} {ts : List Nat} {r : MO} {a : Act} {w : World} (hC : C' w) (hCC : ∀ w', C' w' → C w') (h : wpMixT P ops C' Q ts r a w) : wpMixT P ops C Q ts (.n r) a w := ⟨C', hC, hCC, h⟩
theorem mixT_fin {ts : List Nat} {a : Act} {w : World} (h : wpTail P ops Q ts a w) : wpMixT P ops C Q ts .fin a w := h
theorem tail_nil {a : Act} {w : World} (h : Q .normal a w) : wpTail P ops Q [] a w := h
theorem tail_b {i : Nat} {o : Oper} {r : List Nat} {a : Act} {w : World} (hi : ops.toList[i]? = some o) (h : wpList P ops (mixQ (fun a' w' => wpTail P ops Q r a' w') Q) [o] a w) (hs : Region.wanted o (yielded ops a.tmps) = true) : wpTail P ops Q (i :: r) a w := by
 rw [Array.getElem?_toList] at hi
 intro o' ho
 rw [hi] at ho; injection ho with ho; subst ho
 rw [if_pos hs]
 simp only [wpList, hs, if_true] at h
 rcases h with h | h
 ·exact wp_of_mixQ (Oper.wp_mono (fun a' w' h' => h') h)
 ·obtain ⟨a', w', h'⟩ := h.2
  exact h'.elim
theorem region_mixT {id : Nat} {a : Act} {w : World} (order : MO) (ts : List Nat) (hm : P.follows .mixedOrders = true) (hc : (mixTB ops ts (Array.replicate ops.size false) order && decide (order.len ts.length ≤ ops.size)) = true)
  (hQ : ∀ c a n v w, Q (.panic c) (a.put (some n) v) w → Q (.panic c) a w) (h : wpMixT P ops (fun w' => ∃ p : Regrown, w' = grow (redrawn w p.d) p.os) Q ts order a w.drew) : (Code.region id ops true).wp P Q a w := by
 simp only [Bool.and_eq_true, decide_eq_true_eq] at hc
 exact wp_region_last_drew (S := cls w) (ds := ts) hm (cls_drew w) (fun hS => mixT_last hQ order _ a w.drew _ hc.2 hc.1 (cls_drew w) h)
def onlyN (R : Act → World → Prop) : Exit → Act → World → Prop
 | .normal, a, w => R a w
 | _, _, _ => False
theorem region_gen {R : Act → World → Prop} {a : Act} {w : World} (h : ∀ W, W = w → R a W) : onlyN R .normal a w := h w rfl
theorem region_to {c : Code} (R : Act → World → Prop) {a : Act} {w : World} (h : c.wp P (onlyN R) a w) (k : ∀ a' w', R a' w' → Q .normal a' w') : c.wp P Q a w :=
 Code.wp_mono (fun e a' w' h' => by
  cases e with
  | normal => exact k a' w' h'
  | _ => exact h'.elim) h
end
/-! The cells of a variable, all at once. -/
theorem blk5 {w : World} {g : Nat} {a b c d e : Value} {t : TypeId} (h : Blk w g #[a, b, c, d, e] t) : w.cell? ⟨g, 0, none⟩ = some a ∧ w.cell? ⟨g, 1, none⟩ = some b ∧ w.cell? ⟨g, 2, none⟩ = some c ∧ w.cell? ⟨g, 3, none⟩ = some d ∧ w.cell? ⟨g, 4, none⟩ = some e ∧ ∀ j, w.frozen? ⟨g, j, none⟩ = false :=
 ⟨h.cell 0 rfl, h.cell 1 rfl, h.cell 2 rfl, h.cell 3 rfl, h.cell 4 rfl, h.frozen⟩
theorem blk7 {w : World} {g : Nat} {a b c d e f i : Value} {t : TypeId} (h : Blk w g #[a, b, c, d, e, f, i] t) : w.cell? ⟨g, 0, none⟩ = some a ∧ w.cell? ⟨g, 1, none⟩ = some b ∧ w.cell? ⟨g, 2, none⟩ = some c ∧ w.cell? ⟨g, 3, none⟩ = some d ∧ w.cell? ⟨g, 4, none⟩ = some e ∧ w.cell? ⟨g, 5, none⟩ = some f ∧ w.cell? ⟨g, 6, none⟩ = some i ∧ ∀ j, w.frozen? ⟨g, j, none⟩ = false :=
 ⟨h.cell 0 rfl, h.cell 1 rfl, h.cell 2 rfl, h.cell 3 rfl, h.cell 4 rfl, h.cell 5 rfl, h.cell 6 rfl, h.frozen⟩
theorem upE {n a : Nat} {w w1 : World} (h : Hd (a ≤ w.heap.size)) (hE : Below n w w1) : Hd (a ≤ w1.heap.size) := ⟨Nat.le_trans h.out hE.size⟩
theorem Hd.dn {w w1 : World} {g : Nat} {c : Array Value} {t : TypeId} (h : Hd (Blk w g c t)) (hb : Below w.heap.size w w1) : Hd (Blk w1 g c t) := ⟨h.out.below hb⟩
theorem Hd.ob {α : Type} {d : Ty α} {w w1 : World} {S : Nat → Prop} {x : α} {cs : List Value} (h : Hd (d.O w S x cs)) (hb : Below w.heap.size w w1) : Hd (d.O w1 S x cs) := ⟨Ty.O_below h.out hb⟩
theorem Hd.th {w w1 w2 : World} (h : Hd (Below w.heap.size w w1)) (hb : Below w1.heap.size w1 w2) : Hd (Below w.heap.size w w2) := ⟨below_then h.out hb⟩
theorem reg5 {w : World} {a0 a1 a2 a3 a4 : Addr} {v0 v1 v2 v3 v4 : Value} (h0 : w.cell? a0 = some v0) (h1 : w.cell? a1 = some v1) (h2 : w.cell? a2 = some v2) (h3 : w.cell? a3 = some v3) (h4 : w.cell? a4 = some v4) : (∀ (d : Nat) (os : Array Obj), (grow (redrawn w d) os).cell? a0 = some v0) ∧ (∀ (d : Nat) (os : Array Obj), (grow (redrawn w d) os).cell? a1 = some v1) ∧ (∀ (d : Nat) (os : Array Obj), (grow (redrawn w d) os).cell? a2 = some v2) ∧ (∀ (d : Nat) (os : Array Obj), (grow (redrawn w d) os).cell? a3 = some v3) ∧ (∀ (d : Nat) (os : Array Obj), (grow (redrawn w d) os).cell? a4 = some v4) :=
 ⟨cell_regrown h0, cell_regrown h1, cell_regrown h2, cell_regrown h3, cell_regrown h4⟩
theorem reg7 {w : World} {a0 a1 a2 a3 a4 a5 a6 : Addr} {v0 v1 v2 v3 v4 v5 v6 : Value} (h0 : w.cell? a0 = some v0) (h1 : w.cell? a1 = some v1) (h2 : w.cell? a2 = some v2) (h3 : w.cell? a3 = some v3) (h4 : w.cell? a4 = some v4) (h5 : w.cell? a5 = some v5) (h6 : w.cell? a6 = some v6) : (∀ (d : Nat) (os : Array Obj), (grow (redrawn w d) os).cell? a0 = some v0) ∧ (∀ (d : Nat) (os : Array Obj), (grow (redrawn w d) os).cell? a1 = some v1) ∧ (∀ (d : Nat) (os : Array Obj), (grow (redrawn w d) os).cell? a2 = some v2) ∧ (∀ (d : Nat) (os : Array Obj), (grow (redrawn w d) os).cell? a3 = some v3) ∧ (∀ (d : Nat) (os : Array Obj), (grow (redrawn w d) os).cell? a4 = some v4) ∧ (∀ (d : Nat) (os : Array Obj), (grow (redrawn w d) os).cell? a5 = some v5) ∧ (∀ (d : Nat) (os : Array Obj), (grow (redrawn w d) os).cell? a6 = some v6) :=
 ⟨cell_regrown h0, cell_regrown h1, cell_regrown h2, cell_regrown h3, cell_regrown h4, cell_regrown h5, cell_regrown h6⟩
end Go.Proofs.YtoaifagjdjgcbaaDoor.X
namespace Go.Proofs.YtoaifagjdjgcbaaDoor.X
open Go.RowKit
set_option linter.unusedVariables false
set_option linter.unusedSimpArgs false

structure Row where
 id : Int
 cells : List Int
 deriving DecidableEq
structure Store where
 cols : List Int
 ver : Int
 tabs : List (List Row)
 deriving DecidableEq
structure Mut where
 kind : Int
 table : Int
 row : Row
structure Change where
 table : Int
 had : Bool
 has : Bool
 old : Row
 new : Row
 deriving DecidableEq
inductive J where
 | mk (kind n : Int) (s : ByteArray) (list : List J) (names : List ByteArray)
namespace J
def kind : J → Int | mk k _ _ _ _ => k
def n : J → Int | mk _ n _ _ _ => n
def s : J → ByteArray | mk _ _ s _ _ => s
def list : J → List J | mk _ _ _ l _ => l
def names : J → List ByteArray | mk _ _ _ _ l => l
@[simp] theorem kind_mk (k n : Int) (s : ByteArray) (l : List J) (ns : List ByteArray) : (mk k n s l ns).kind = k := rfl
@[simp] theorem n_mk (k n : Int) (s : ByteArray) (l : List J) (ns : List ByteArray) : (mk k n s l ns).n = n := rfl
@[simp] theorem s_mk (k n : Int) (s : ByteArray) (l : List J) (ns : List ByteArray) : (mk k n s l ns).s = s := rfl
@[simp] theorem list_mk (k n : Int) (s : ByteArray) (l : List J) (ns : List ByteArray) : (mk k n s l ns).list = l := rfl
@[simp] theorem names_mk (k n : Int) (s : ByteArray) (l : List J) (ns : List ByteArray) : (mk k n s l ns).names = ns := rfl
theorem eta : ∀ j : J, mk j.kind j.n j.s j.list j.names = j
 | mk _ _ _ _ _ => rfl
def null : J := mk 0 0 ByteArray.empty [] []
end J
structure JOp where
 kind : Int
 way : List ByteArray
 value : J

namespace Ty
theorem scal_K {α : Type} {enc : α → Value} {h1 : ∀ x, (enc x).oneCell' = true} {w : World} {x : α} {cs : List Value} : (scal enc h1).K w x cs ↔ cs = [enc x] := Iff.rfl
theorem sl_K {α : Type} {e : TypeId} {d : Ty α} {w : World} {xs : List α} {cs : List Value} : (sl e d).K w xs cs ↔ ∃ A c, cs = [.slice A xs.length c] ∧ xs.length ≤ c ∧ d.C w A xs := Iff.rfl
theorem sl_O {α : Type} {e : TypeId} {d : Ty α} {w : World} {S : Nat → Prop} {xs : List α} {cs : List Value} : (sl e d).O w S xs cs ↔ ∃ v, cs = [v] ∧ d.R e w S v xs := Iff.rfl
theorem pr_scal_K {α β : Type} {enc : α → Value} {h1 : ∀ x, (enc x).oneCell' = true} {b : Ty β} {w : World} {x : α × β} {cs : List Value} : (pr (scal enc h1) b).K w x cs ↔ ∃ c1, cs = enc x.1 :: c1 ∧ b.K w x.2 c1 := by
 constructor
 ·rintro ⟨c0, c1, rfl, h0, h1⟩
  exact ⟨c1, by rw [show c0 = [enc x.1] from h0]; rfl, h1⟩
 ·rintro ⟨c1, rfl, h⟩
  exact ⟨[enc x.1], c1, rfl, rfl, h⟩
theorem pr_scal_O {α β : Type} {enc : α → Value} {h1 : ∀ x, (enc x).oneCell' = true} {b : Ty β} {w : World} {S : Nat → Prop} {x : α × β} {cs : List Value} : (pr (scal enc h1) b).O w S x cs ↔ ∃ c1, cs = enc x.1 :: c1 ∧ b.O w S x.2 c1 := by
 constructor
 ·rintro ⟨c0, c1, f, rfl, h0, h1⟩
  exact ⟨c1, by rw [show c0 = [enc x.1] from h0]; rfl, b.O_mono (fun _ h => h.1) h1⟩
 ·rintro ⟨c1, rfl, h⟩
  exact ⟨[enc x.1], c1, fun _ => false, rfl, rfl, b.O_mono (fun _ h => ⟨h, rfl⟩) h⟩
theorem int_K {w : World} {x : Int} {cs : List Value} : int.K w x cs ↔ cs = [.int .i64 x] := Iff.rfl
theorem bool_K {w : World} {x : Bool} {cs : List Value} : Ty.bool.K w x cs ↔ cs = [.bool x] := Iff.rfl
theorem str_K {w : World} {x : ByteArray} {cs : List Value} : str.K w x cs ↔ cs = [.string x] ∧ x.size ≤ 9223372036854775807 := Iff.rfl
theorem pr_int_K {β : Type} {b : Ty β} {w : World} {x : Int} {y : β} {cs : List Value} : (pr int b).K w (x, y) cs ↔ ∃ c1, cs = .int .i64 x :: c1 ∧ b.K w y c1 := pr_scal_K
theorem pr_bool_K {β : Type} {b : Ty β} {w : World} {x : Bool} {y : β} {cs : List Value} : (pr Ty.bool b).K w (x, y) cs ↔ ∃ c1, cs = .bool x :: c1 ∧ b.K w y c1 := pr_scal_K
theorem pr_str_K {β : Type} {b : Ty β} {w : World} {x : ByteArray} {y : β} {cs : List Value} : (pr str b).K w (x, y) cs ↔ ∃ c1, cs = .string x :: c1 ∧ x.size ≤ 9223372036854775807 ∧ b.K w y c1 := by
 constructor
 ·rintro ⟨c0, c1, rfl, h0, h1⟩
  exact ⟨c1, by rw [show c0 = [.string x] from h0.1]; rfl, h0.2, h1⟩
 ·rintro ⟨c1, rfl, h0, h⟩
  exact ⟨[.string x], c1, rfl, ⟨rfl, h0⟩, h⟩
theorem pr_int_O {β : Type} {b : Ty β} {w : World} {S : Nat → Prop} {x : Int} {y : β} {cs : List Value} : (pr int b).O w S (x, y) cs ↔ ∃ c1, cs = .int .i64 x :: c1 ∧ b.O w S y c1 := pr_scal_O
theorem pr_bool_O {β : Type} {b : Ty β} {w : World} {S : Nat → Prop} {x : Bool} {y : β} {cs : List Value} : (pr Ty.bool b).O w S (x, y) cs ↔ ∃ c1, cs = .bool x :: c1 ∧ b.O w S y c1 := pr_scal_O
theorem pr_str_O {β : Type} {b : Ty β} {w : World} {S : Nat → Prop} {x : ByteArray} {y : β} {cs : List Value} : (pr str b).O w S (x, y) cs ↔ ∃ c1, cs = .string x :: c1 ∧ x.size ≤ 9223372036854775807 ∧ b.O w S y c1 := by
 constructor
 ·rintro ⟨c0, c1, f, rfl, h0, h1⟩
  exact ⟨c1, by rw [show c0 = [.string x] from h0.1]; rfl, h0.2, b.O_mono (fun _ h => h.1) h1⟩
 ·rintro ⟨c1, rfl, h0, h⟩
  exact ⟨[.string x], c1, fun _ => false, rfl, ⟨rfl, h0⟩, b.O_mono (fun _ h => ⟨h, rfl⟩) h⟩
theorem pr_K {α β : Type} {a : Ty α} {b : Ty β} {w : World} {x : α × β} {cs : List Value} : (pr a b).K w x cs ↔ ∃ c0 c1, cs = c0 ++ c1 ∧ a.K w x.1 c0 ∧ b.K w x.2 c1 := Iff.rfl
theorem pr_O {α β : Type} {a : Ty α} {b : Ty β} {w : World} {S : Nat → Prop} {x : α × β} {cs : List Value} :
  (pr a b).O w S x cs ↔ ∃ c0 c1, ∃ T0 T1 : Nat → Prop, cs = c0 ++ c1 ∧ a.O w T0 x.1 c0 ∧ b.O w T1 x.2 c1 ∧ (∀ k, T0 k → S k) ∧ (∀ k, T1 k → S k) ∧ (∀ k, T0 k → ¬ T1 k) := by
 constructor
 ·rintro ⟨c0, c1, f, rfl, h0, h1⟩
  exact ⟨c0, c1, _, _, rfl, h0, h1, fun k h => h.1, fun k h => h.1, fun k h h' => by rw [h.2] at h'; cases h'.2⟩
 ·rintro ⟨c0, c1, T0, T1, rfl, h0, h1, hs0, hs1, hd⟩
  classical
  refine ⟨c0, c1, fun k => decide (T0 k), rfl, a.O_mono (fun k h => ⟨hs0 k h, by simpa using h⟩) h0, b.O_mono (fun k h => ⟨hs1 k h, ?_⟩) h1⟩
  simp only [decide_eq_false_iff_not]
  exact fun h' => hd k h' h
theorem iso_K {α β : Type} {d : Ty α} {f : β → α} {w : World} {x : β} {cs : List Value} : (iso d f).K w x cs ↔ d.K w (f x) cs := Iff.rfl
theorem iso_O {α β : Type} {d : Ty α} {f : β → α} {w : World} {S : Nat → Prop} {x : β} {cs : List Value} : (iso d f).O w S x cs ↔ d.O w S (f x) cs := Iff.rfl
theorem C_int_at {w W : World} {A : Option Addr} {l : List Int} (h : int.C w A l) (hb : Below w.heap.size w W) (k : Nat) (hk : k < l.length) : ∃ ad, A = some ad ∧ W.cell? (ad.add k) = some (.int .i64 l[k]) := by
 obtain ⟨ad, cs, rfl, _, h1, h2⟩ := C_get h 0 k hk
 have h1 : cs = [.int .i64 (l.getD k 0)] := h1
 have e : l.getD k 0 = l[k] := by simp [List.getD_eq_getElem?_getD, hk]
 rw [e] at h1
 refine ⟨ad, rfl, cell_below hb ?_⟩
 simpa [show int.sz = 1 from rfl] using h2 0 (.int .i64 l[k]) (by rw [h1]; rfl)
theorem C_str_at {w W : World} {A : Option Addr} {l : List ByteArray} (h : str.C w A l) (hb : Below w.heap.size w W) (k : Nat) (hk : k < l.length) : ∃ ad, A = some ad ∧ W.cell? (ad.add k) = some (.string l[k]) ∧ l[k].size ≤ 9223372036854775807 := by
 obtain ⟨ad, cs, rfl, _, h1, h2⟩ := C_get h ByteArray.empty k hk
 have h1 : cs = [.string (l.getD k ByteArray.empty)] ∧ (l.getD k ByteArray.empty).size ≤ 9223372036854775807 := h1
 have e : l.getD k ByteArray.empty = l[k] := by simp [List.getD_eq_getElem?_getD, hk]
 rw [e] at h1
 refine ⟨ad, rfl, cell_below hb ?_, h1.2⟩
 simpa [show str.sz = 1 from rfl] using h2 0 (.string l[k]) (by rw [h1.1]; rfl)
end Ty
open Ty
def tJ : Nat → Ty J
 | 0 => bot 5
 | m + 1 => iso (pr int (pr int (pr str (pr (sl 27 (tJ m)) (sl 9 str))))) (fun j => (j.kind, j.n, j.s, j.list, j.names))
theorem tJ_sz : ∀ m, (tJ m).sz = 5
 | 0 => rfl
 | _ + 1 => rfl
theorem tJ_K {m : Nat} {w : World} {j : J} {cs : List Value} : (tJ (m + 1)).K w j cs ↔ ∃ A c A2 c2, cs = [.int .i64 j.kind, .int .i64 j.n, .string j.s, .slice A j.list.length c, .slice A2 j.names.length c2] ∧ j.s.size ≤ 9223372036854775807 ∧ (j.list.length ≤ c ∧ (tJ m).C w A j.list) ∧ j.names.length ≤ c2 ∧ str.C w A2 j.names := by
 simp only [tJ, iso_K]
 simp only [pr_int_K, pr_str_K]
 simp only [pr_K, sl_K]
 constructor
 ·rintro ⟨_, rfl, _, rfl, _, rfl, hs, _, _, rfl, ⟨A, c, rfl, h⟩, A2, c2, rfl, h2⟩; exact ⟨A, c, A2, c2, rfl, hs, h, h2⟩
 ·rintro ⟨A, c, A2, c2, rfl, hs, h, h2⟩; exact ⟨_, rfl, _, rfl, _, rfl, hs, _, _, rfl, ⟨A, c, rfl, h⟩, A2, c2, rfl, h2⟩
theorem C_J_at {m : Nat} {w W : World} {A : Option Addr} {l : List J} (h : (tJ (m + 1)).C w A l) (hb : Below w.heap.size w W) (k : Nat) (hk : k < l.length) : ∃ ad A1 c1 A2 c2, A = some ad ∧ W.cell? (ad.add (k * 5)) = some (.int .i64 l[k].kind) ∧ W.cell? ⟨(ad.add (k * 5)).block, (ad.add (k * 5)).off + 1, none⟩ = some (.int .i64 l[k].n) ∧
  W.cell? ⟨(ad.add (k * 5)).block, (ad.add (k * 5)).off + 2, none⟩ = some (.string l[k].s) ∧ W.cell? ⟨(ad.add (k * 5)).block, (ad.add (k * 5)).off + 3, none⟩ = some (.slice A1 l[k].list.length c1) ∧ W.cell? ⟨(ad.add (k * 5)).block, (ad.add (k * 5)).off + 4, none⟩ = some (.slice A2 l[k].names.length c2) ∧
  l[k].s.size ≤ 9223372036854775807 ∧ (l[k].list.length ≤ c1 ∧ (tJ m).C W A1 l[k].list) ∧ l[k].names.length ≤ c2 ∧ str.C W A2 l[k].names := by
 obtain ⟨ad, cs, rfl, hK, h0, h1⟩ := C_at h hb k hk
 obtain ⟨A1, c1, A2, c2, rfl, hs, h2, h3⟩ := tJ_K.1 hK
 exact ⟨ad, A1, c1, A2, c2, rfl, h0 _ rfl, h1 0 _ rfl, h1 1 _ rfl, h1 2 _ rfl, h1 3 _ rfl, hs, h2, h3⟩
theorem tJ_O {m : Nat} {w : World} {S : Nat → Prop} {j : J} {cs : List Value} : (tJ (m + 1)).O w S j cs ↔ ∃ v v2, ∃ T0 T1 : Nat → Prop, cs = [.int .i64 j.kind, .int .i64 j.n, .string j.s, v, v2] ∧ j.s.size ≤ 9223372036854775807 ∧ (tJ m).R 27 w T0 v j.list ∧ str.R 9 w T1 v2 j.names ∧ (∀ k, T0 k → S k) ∧ (∀ k, T1 k → S k) ∧ (∀ k, T0 k → ¬ T1 k) := by
 simp only [tJ, iso_O]
 simp only [pr_int_O, pr_str_O]
 simp only [pr_O, sl_O]
 constructor
 ·rintro ⟨_, rfl, _, rfl, _, rfl, hs, _, _, T0, T1, rfl, ⟨v, rfl, h⟩, ⟨v2, rfl, h2⟩, h3⟩; exact ⟨v, v2, T0, T1, rfl, hs, h, h2, h3⟩
 ·rintro ⟨v, v2, T0, T1, rfl, hs, h, h2, h3⟩; exact ⟨_, rfl, _, rfl, _, rfl, hs, _, _, T0, T1, rfl, ⟨v, rfl, h⟩, ⟨v2, rfl, h2⟩, h3⟩
theorem tJ_le1 : ∀ m, Le (tJ m) (tJ (m + 1))
 | 0 => ⟨rfl, fun _ _ _ h => h.elim, fun _ _ _ _ h => h.elim⟩
 | m + 1 => ((Le.refl int).pr ((Le.refl int).pr ((Le.refl str).pr (((tJ_le1 m).sl _).pr (Le.refl _))))).iso _
theorem tJ_le {m k : Nat} (h : m ≤ k) : Le (tJ m) (tJ k) := by
 obtain ⟨i, rfl⟩ := Nat.exists_eq_add_of_le h
 clear h
 induction i with
 | zero => exact Le.refl _
 | succ i ih => exact ⟨ih.sz.trans (tJ_le1 _).sz, fun w x cs h => (tJ_le1 _).K _ _ _ (ih.K _ _ _ h), fun w S x cs h => (tJ_le1 _).O _ _ _ _ (ih.O _ _ _ _ h)⟩
def tOp (m : Nat) : Ty JOp := iso (pr int (pr (sl 9 str) (tJ m))) (fun o => (o.kind, o.way, o.value))
theorem tOp_sz (m : Nat) : (tOp m).sz = 7 := by show 1 + (1 + (tJ m).sz) = 7; rw [tJ_sz]
theorem tOp_K {m : Nat} {w : World} {o : JOp} {cs : List Value} : (tOp m).K w o cs ↔ ∃ A c c1, cs = .int .i64 o.kind :: .slice A o.way.length c :: c1 ∧ (o.way.length ≤ c ∧ str.C w A o.way) ∧ (tJ m).K w o.value c1 := by
 simp only [tOp, iso_K]
 simp only [pr_int_K, pr_str_K]
 simp only [pr_K, sl_K]
 constructor
 ·rintro ⟨_, rfl, _, c1, rfl, ⟨A, c, rfl, h⟩, h2⟩; exact ⟨A, c, c1, rfl, h, h2⟩
 ·rintro ⟨A, c, c1, rfl, h, h2⟩; exact ⟨_, rfl, _, c1, rfl, ⟨A, c, rfl, h⟩, h2⟩
theorem tOp_O {m : Nat} {w : World} {S : Nat → Prop} {o : JOp} {cs : List Value} : (tOp m).O w S o cs ↔ ∃ v c1, ∃ T0 T1 : Nat → Prop, cs = .int .i64 o.kind :: v :: c1 ∧ str.R 9 w T0 v o.way ∧ (tJ m).O w T1 o.value c1 ∧ (∀ k, T0 k → S k) ∧ (∀ k, T1 k → S k) ∧ (∀ k, T0 k → ¬ T1 k) := by
 simp only [tOp, iso_O]
 simp only [pr_int_O, pr_str_O]
 simp only [pr_O, sl_O]
 constructor
 ·rintro ⟨_, rfl, _, c1, T0, T1, rfl, ⟨v, rfl, h⟩, h2⟩; exact ⟨v, c1, T0, T1, rfl, h, h2⟩
 ·rintro ⟨v, c1, T0, T1, rfl, h, h2⟩; exact ⟨_, rfl, _, c1, T0, T1, rfl, ⟨v, rfl, h⟩, h2⟩
theorem tOp_le {m k : Nat} (h : m ≤ k) : Le (tOp m) (tOp k) := ((Le.refl int).pr ((Le.refl _).pr (tJ_le h))).iso _
end Go.Proofs.YtoaifagjdjgcbaaDoor.X
namespace Go.Proofs.YtoaifagjdjgcbaaDoor.X
open Go.RowKit Go.Sort
set_option linter.unusedVariables false
set_option linter.unusedSimpArgs false
open Ty
theorem info_int : (Tryd.prog.info? 3).map (fun i => (i.zero, i.size, i.bytes)) = some (some (.int .i64 0), 1, 8) := by kernel_rfl
theorem info_str : (Tryd.prog.info? 9).map (fun i => (i.zero, i.size, i.bytes)) = some (some (.string ByteArray.empty), 1, 16) := by kernel_rfl
theorem info_JsonS : (Tryd.prog.info? 27).map (fun i => (i.zero, i.size, i.bytes)) = some (some (.agg #[.int .i64 0, .int .i64 0, .string ByteArray.empty, .slice none 0 0, .slice none 0 0]), 5, 80) := by kernel_rfl
theorem info_OpS : (Tryd.prog.info? 44).map (fun i => (i.zero, i.size, i.bytes)) = some (some (.agg #[.int .i64 0, .slice none 0 0, .int .i64 0, .int .i64 0, .string ByteArray.empty, .slice none 0 0, .slice none 0 0]), 7, 112) := by kernel_rfl
def inB (n lo hi : Int) : Bool := decide (lo ≤ n) && decide (n ≤ hi)
theorem inB_iff {n lo hi : Int} : inB n lo hi = true ↔ lo ≤ n ∧ n ≤ hi := by simp [inB]
theorem impl_within (n lo hi : Int) (w : World) : Calls Tryd.prog 71 #[.int .i64 n, .int .i64 lo, .int .i64 hi] w fun e w' => e = .returned (.bool (inB n lo hi)) ∧ w = w' := by
 go_enter Tryd.func71, Tryd.ntmps71
 go_wp2
 all_goals (go_ret; exact ⟨by simp [inB, *] <;> omega, rfl⟩)
theorem spec_l1In (n lo hi : Int) (w : World) : Calls Tryd.prog 81 #[.int .i64 n, .int .i64 lo, .int .i64 hi] w fun e w' => e = .returned (.bool (inB n lo hi)) ∧ w = w' := by
 go_enter Tryd.func81, Tryd.ntmps81
 go_wp2
 all_goals (go_ret; exact ⟨by simp [inB, *] <;> omega, rfl⟩)
theorem impl_isNum (n : Int) (w : World) : Calls Tryd.prog 91 #[.int .i64 n] w fun e w' => e = .returned (.bool (inB n (-1000000000) 1000000000)) ∧ w = w' := by
 go_enter Tryd.func91, Tryd.ntmps91
 go_wp2_with (go_at_call 71; refine (impl_within _ _ _ _).mono ?_; rintro e w' ⟨rfl, rfl⟩)
 go_ret; exact ⟨rfl, rfl⟩
def szR (left : Int) (b : Nat) : Int := if (b : Int) ≤ left then left - b else -1
theorem szR_lt {left : Int} {b : Nat} : szR left b < 0 ↔ ¬ ((b : Int) ≤ left) := by unfold szR; split <;> omega
theorem szR_le {left : Int} {b : Nat} (h : 0 ≤ szR left b) (hl : left ≤ 1048576) : b ≤ 1048576 ∧ 0 ≤ szR left b ∧ szR left b ≤ 1048576 ∧ (b : Int) ≤ left ∧ szR left b = left - b := by
 have h' : (b : Int) ≤ left := by
  unfold szR at h
  split at h
  ·assumption
  ·omega
 unfold szR
 rw [if_pos h']
 omega
theorem szR_add {left : Int} {a b : Nat} (h : 0 ≤ szR left a) : szR (szR left a) b = szR left (a + b) := by
 have h' : (a : Int) ≤ left := by
  unfold szR at h
  split at h
  ·assumption
  ·omega
 unfold szR
 rw [if_pos h']
 split <;> split <;> omega
theorem szR_neg {left : Int} {a b : Nat} (h : szR left a < 0) : szR left (a + b) = -1 := by
 rw [szR_lt] at h
 unfold szR
 rw [if_neg (by omega)]
noncomputable def eqv {α : Type} (a b : α) : Bool := @decide (a = b) (Classical.propDecidable _)
theorem eqv_iff {α : Type} {a b : α} : eqv a b = true ↔ a = b := by simp [eqv]
theorem eqv_self {α : Type} (a : α) : eqv a a = true := eqv_iff.2 rfl
theorem eqv_no {α : Type} {a b : α} (h : a ≠ b) : eqv a b = false := by simp [eqv, h]
theorem eqv_len {α : Type} {a b : List α} (h : a.length ≠ b.length) : eqv a b = false := eqv_no (by rintro rfl; exact h rfl)
theorem eqv_at {α : Type} {a b : List α} (k : Nat) (h1 : k < a.length) (h2 : k < b.length) (h : a[k] ≠ b[k]) : eqv a b = false := eqv_no (by rintro rfl; exact h rfl)
theorem calls_gen {P : Program} {f : FuncId} {args : Array Value} {w : World} {Q : Ending → World → Prop} (h : ∀ W, W = w → Calls P f args W Q) : Calls P f args w Q := h w rfl
def schemaOk (cols : List Int) : Bool := cols.all (fun n => inB n 1 4) && inB cols.length 1 3
theorem all_take {α : Type} (p : α → Bool) (l : List α) (k : Nat) (hk : k < l.length) (h : (l.take k).all p = true) : (l.take (k + 1)).all p = p l[k] := by
 rw [List.take_succ_eq_append_getElem hk, List.all_append, h]
 simp
theorem all_false {α : Type} (p : α → Bool) (l : List α) (k : Nat) (h : (l.take k).all p = false) : l.all p = false := by
 rw [← List.take_append_drop k l, List.all_append, h]; rfl
end Go.Proofs.YtoaifagjdjgcbaaDoor.X
namespace Go.Proofs.YtoaifagjdjgcbaaDoor.X
open Go.RowKit Go.Sort Go.Proofs.YtoaifagjdjgcbaaDoorW.PrintLast
set_option linter.unusedVariables false
set_option linter.unusedSimpArgs false
open Ty
namespace Ty
def u8 : Ty Int := scal (Value.int .u8) (fun _ => rfl)
theorem C_u8_at {w W : World} {A : Option Addr} {l : List Int} (h : u8.C w A l) (hb : Below w.heap.size w W) (k : Nat) (hk : k < l.length) : ∃ ad, A = some ad ∧ ad.block < w.heap.size ∧ W.cell? (ad.add k) = some (.int .u8 l[k]) := by
 obtain ⟨ad, cs, rfl, _, h1, h2⟩ := C_get h 0 k hk
 have h1 : cs = [.int .u8 (l.getD k 0)] := h1
 have e : l.getD k 0 = l[k] := by simp [List.getD_eq_getElem?_getD, hk]
 rw [e] at h1
 have h3 : w.cell? (ad.add k) = some (.int .u8 l[k]) := by simpa [show u8.sz = 1 from rfl] using h2 0 (.int .u8 l[k]) (by rw [h1]; rfl)
 refine ⟨ad, rfl, ?_, cell_below hb h3⟩
 have h4 := World.block_lt_of_cell? w _ h3
 unfold Addr.add at h4
 split at h4 <;> exact h4
end Ty
theorem add_block_ (ad : Addr) (n : Nat) : (ad.add n).block = ad.block := by unfold Addr.add; split <;> rfl
theorem cell_far_ {w : World} {a p : Addr} (h : a.block ≠ p.block) (u : Value) : (w.setCell p u).cell? a = w.cell? a := by
 unfold World.cell?
 rw [Below.heap_setCell w p u a.block h]
theorem Fr.setg {w w1 : World} {g : Nat} (h : Fr w w1 (fun k => k = g)) (j : Nat) (u : Value) : Fr w (w1.setCell ⟨g, j, none⟩ u) (fun k => k = g) := h.setCell _ (fun _ => rfl) u
theorem and255 (x : Int) : 0 ≤ Go.bits .and .i64 x 255 ∧ Go.bits .and .i64 x 255 < 256 := by
 have h : (BitVec.ofInt IntKind.i64.bits x &&& BitVec.ofInt IntKind.i64.bits 255).toNat ≤ 255 := by
  rw [BitVec.toNat_and]
  exact Nat.le_trans Nat.and_le_right (by decide)
 unfold Go.bits
 simp only [IntKind.wrap_i64]
 omega
def Cur (W0 w : World) (g : Nat) : Prop := ∃ A c i h, ∃ bs : List Int, Blk w g #[.slice A bs.length c, .int .i64 i, .int .i64 h] 84 ∧ u8.C W0 A bs ∧ 0 ≤ i ∧ i ≤ bs.length ∧ bs.length ≤ 1048576 ∧ W0.heap.size ≤ g ∧ Below W0.heap.size W0 w
theorem Cur.lt {W0 w : World} {g : Nat} (h : Cur W0 w g) : g < w.heap.size := by obtain ⟨_, _, _, _, _, b, _⟩ := h; exact b.lt
theorem Cur.ge {W0 w : World} {g : Nat} (h : Cur W0 w g) : W0.heap.size ≤ g := by obtain ⟨_, _, _, _, _, _, _, _, _, _, h, _⟩ := h; exact h
theorem Cur.below {W0 w w1 : World} {g : Nat} (h : Cur W0 w g) (hb : Below w.heap.size w w1) : Cur W0 w1 g := by
 obtain ⟨A, c, i, h, bs, b, r⟩ := h
 exact ⟨A, c, i, h, bs, b.below hb, r.1, r.2.1, r.2.2.1, r.2.2.2.1, r.2.2.2.2.1, below_then r.2.2.2.2.2 hb⟩
theorem Cur.fr {W0 w w1 : World} {g : Nat} {S : Nat → Prop} (h : Cur W0 w g) (hf : Fr w w1 S) (hg : ¬ S g) (hs : ∀ k, S k → W0.heap.size ≤ k) : Cur W0 w1 g := by
 obtain ⟨A, c, i, h, bs, b, r⟩ := h
 refine ⟨A, c, i, h, bs, (hf.block g b.lt hg).trans b, r.1, r.2.1, r.2.2.1, r.2.2.2.1, r.2.2.2.2.1, ?_⟩
 exact ((Fr.of_below r.2.2.2.2.2 S).then_ hf (fun k hk _ => hk)).below hs
set_option maxHeartbeats 4000000 in
set_option maxRecDepth 100000 in
theorem spec_l1New (A : Option Addr) (c : Nat) (bs : List Int) (W0 w : World) (hr : u8.C W0 A bs) (hl : bs.length ≤ 1048576) (hW : Below W0.heap.size W0 w) :
  Calls Tryd.prog 39 #[.slice A bs.length c] w fun e w' => ∃ g : Nat, e = .returned (.pointer (some ⟨g, 0, none⟩)) ∧ w.heap.size ≤ g ∧ Cur W0 w' g ∧ Below w.heap.size w w' := by
 have HC := Hd.mk hr; clear hr
 have HW := Hd.mk hW; clear hW
 go_enter Tryd.func39, Tryd.ntmps39
 go_wp2_with fail
 go_loopw [3, 4] (fun v i wr => ∃ (k : Nat) (x : Int), k ≤ bs.length ∧ i = .int .i64 k ∧ v = .int .i64 x ∧ Hd (Below w.heap.size w wr)) (fun _ i _ => bs.length - (intOf i).toNat)
 case atStart => exact ⟨0, _, Nat.zero_le _, rfl, rfl, ⟨Below.refl _ _⟩⟩
 case round =>
  obtain ⟨k, x, hk, rfl, rfl, hB⟩ := hrel
  by_cases hlt : k < bs.length
  ·by_cases h4 : (k : Int) < 4000
   ·have h4b : decide ((k : Int) < 4000) = true := decide_eq_true h4
    obtain ⟨ad, rfl, _, x0⟩ := C_u8_at HC.out (below_then HW.out hB.out) k hlt
    go_wp2_with fail
    go_roundw
    case rel => exact ⟨k + 1, _, by omega, by go_num, rfl, hB⟩
    case measure => simp [intOf]; omega
   ·have h4b : decide ((k : Int) < 4000) = false := decide_eq_false h4
    have h0 : (0 : Int) ≤ bs.length := by omega
    go_wp2_with fail
    go_ret
    exact ⟨_, rfl, hB.out.size, ⟨A, c, 0, x, bs, Blk.new _ _ _, HC.out, Int.le_refl _, h0, hl, Nat.le_trans HW.out.size hB.out.size, below_alloc (below_then HW.out hB.out) _⟩, below_alloc hB.out _⟩
  ·have h0 : (0 : Int) ≤ bs.length := by omega
   obtain rfl : k = bs.length := by omega
   go_wp2_with fail
   go_ret
   exact ⟨_, rfl, hB.out.size, ⟨A, c, 0, x, bs, Blk.new _ _ _, HC.out, Int.le_refl _, h0, hl, Nat.le_trans HW.out.size hB.out.size, below_alloc (below_then HW.out hB.out) _⟩, below_alloc hB.out _⟩
set_option maxHeartbeats 4000000 in
set_option maxRecDepth 100000 in
theorem spec_l1Byte (W0 w : World) (g : Nat) (hc : Cur W0 w g) :
  Calls Tryd.prog 84 #[.pointer (some ⟨g, 0, none⟩)] w fun e w' => ∃ x : Int, e = .returned (.int .i64 x) ∧ 0 ≤ x ∧ x < 256 ∧ Cur W0 w' g ∧ Fr w w' (fun k => k = g) := by
 obtain ⟨A, c, i, h, bs, b, hb, h0, h1, h2, h3, hW⟩ := hc
 have HC := Hd.mk hb; clear hb
 have HW := Hd.mk hW; clear hW
 have B := Hd.mk b
 have f0 := b.cell 0 rfl
 have f1 := b.cell 1 rfl
 have f2 := b.cell 2 rfl
 have fz := b.frozen
 clear b
 by_cases hlt : i < bs.length
 ·obtain ⟨k, rfl⟩ := Int.eq_ofNat_of_zero_le h0
  have hk : k < bs.length := by omega
  obtain ⟨ad, rfl, hab, x0⟩ := C_u8_at HC.out HW.out k hk
  have x1 := fun u => (cell_far_ (w := w) (a := ad.add k) (p := ⟨g, 2, none⟩) (by rw [add_block_]; exact Nat.ne_of_lt (Nat.lt_of_lt_of_le hab h3)) u).trans x0
  clear x0
  go_enter Tryd.func84, Tryd.ntmps84
  go_wp2
  repeat (go_quiet (fail); try go_wp2)
  go_ret
  refine ⟨_, rfl, (and255 _).1, (and255 _).2, ⟨_, c, _, _, bs, (B.out.set 2 _).set 1 _, HC.out, ?_, ?_, h2, h3, ?_⟩, ?_⟩
  ·first | omega | (unfold wrap64; omega)
  ·first | omega | (unfold wrap64; omega)
  ·exact ((Fr.of_below HW.out (fun k => k = g)).then_ (by repeat (first | with_reducible exact Fr.refl _ _ | with_reducible refine Fr.setg ?_ _ _ | with_reducible refine Fr.drew ?_ | with_reducible refine Fr.drewN ?_ _)) (fun k hk _ => hk)).below (fun k hk => by (try simp only at hk); omega)
  ·exact Fr.setCell (S := fun k => k = g) (by repeat (first | with_reducible exact Fr.refl _ _ | with_reducible refine Fr.setg ?_ _ _ | with_reducible refine Fr.drew ?_ | with_reducible refine Fr.drewN ?_ _)) _ (fun _ => rfl) _
 ·go_enter Tryd.func84, Tryd.ntmps84
  go_wp2
  repeat (go_quiet (fail); try go_wp2)
  go_ret
  refine ⟨_, rfl, (and255 _).1, (and255 _).2, ⟨A, c, i, _, bs, B.out.set 2 _, HC.out, h0, h1, h2, h3, ?_⟩, ?_⟩
  ·exact ((Fr.of_below HW.out (fun k => k = g)).then_ (by repeat (first | with_reducible exact Fr.refl _ _ | with_reducible refine Fr.setg ?_ _ _ | with_reducible refine Fr.drew ?_ | with_reducible refine Fr.drewN ?_ _)) (fun k hk _ => hk)).below (fun k hk => by (try simp only at hk); omega)
  ·exact (by repeat (first | with_reducible exact Fr.refl _ _ | with_reducible refine Fr.setg ?_ _ _ | with_reducible refine Fr.drew ?_ | with_reducible refine Fr.drewN ?_ _))
set_option maxHeartbeats 4000000 in
set_option maxRecDepth 100000 in
theorem spec_l1Below (n : Int) (W0 w : World) (g : Nat) (hc : Cur W0 w g) :
  Calls Tryd.prog 63 #[.pointer (some ⟨g, 0, none⟩), .int .i64 n] w fun e w' => ∃ x : Int, e = .returned (.int .i64 x) ∧ 0 ≤ x ∧ (0 < n → x < n) ∧ (n ≤ 0 → x = 0) ∧ Cur W0 w' g ∧ Fr w w' (fun k => k = g) := by
 have HC := Hd.mk hc; clear hc
 go_enter Tryd.func63, Tryd.ntmps63
 by_cases h0 : n ≤ 0
 ·go_wp2_with fail
  go_ret
  exact ⟨0, rfl, Int.le_refl _, fun h => by omega, fun _ => rfl, HC.out, Fr.refl _ _⟩
 ·have HN := Hd.mk (show 0 < n by omega)
  by_cases h1 : n ≤ 256
  ·go_wp2_with fail
   refine (spec_l1Byte W0 w g HC.out).mono ?_
   rintro e w1 ⟨x, rfl, x0, x1, hC, hX⟩
   have HC1 := Hd.mk hC; have HX := Hd.mk hX; clear hC hX
   have hn0 : ¬ n = 0 := by omega
   go_wp2_with fail
   go_ret
   exact ⟨_, rfl, Int.emod_nonneg _ hn0, fun hp => Int.emod_lt_of_pos _ hp, fun h => by have := HN.out; omega, HC1.out, HX.out⟩
  ·go_wp2_with fail
   refine (spec_l1Byte W0 w g HC.out).mono ?_
   rintro e w1 ⟨x, rfl, x0, x1, hC, hX⟩
   have HC1 := Hd.mk hC; have HX := Hd.mk hX; clear hC hX
   go_wp2_with fail
   refine (spec_l1Byte W0 w1 g HC1.out).mono ?_
   rintro e w2 ⟨y, rfl, y0, y1, hC, hX⟩
   have HC2 := Hd.mk hC; have HX2 := Hd.mk (HX.out.trans hX); clear hC hX
   go_wp2_with fail
   refine (spec_l1Byte W0 w2 g HC2.out).mono ?_
   rintro e w3 ⟨z, rfl, z0, z1, hC, hX⟩
   have HC3 := Hd.mk hC; have HX3 := Hd.mk (HX2.out.trans hX); clear hC hX
   go_wp2_with fail
   refine (spec_l1Byte W0 w3 g HC3.out).mono ?_
   rintro e w4 ⟨u, rfl, u0, u1, hC, hX⟩
   have HC4 := Hd.mk hC; have HX4 := Hd.mk (HX3.out.trans hX); clear hC hX
   have hn0 : ¬ n = 0 := by omega
   go_wp2_with fail
   go_ret
   exact ⟨_, rfl, Int.emod_nonneg _ hn0, fun hp => Int.emod_lt_of_pos _ hp, fun h => by have := HN.out; omega, HC4.out, HX4.out⟩
set_option maxRecDepth 100000 in
theorem spec_l1Once (n : Int) (W0 w : World) (g : Nat) (hc : Cur W0 w g) :
  Calls Tryd.prog 69 #[.pointer (some ⟨g, 0, none⟩), .int .i64 n] w fun e w' => ∃ x : Bool, e = .returned (.bool x) ∧ Cur W0 w' g ∧ Fr w w' (fun k => k = g) := by
 have HC := Hd.mk hc; clear hc
 go_enter Tryd.func69, Tryd.ntmps69
 go_wp2_with fail
 refine (spec_l1Below n W0 w g HC.out).mono ?_
 rintro e w1 ⟨x, rfl, x0, x1, _, hC, hX⟩
 have HC1 := Hd.mk hC; have HX := Hd.mk hX; clear hC hX
 go_wp2_with fail
 go_ret
 exact ⟨_, rfl, HC1.out, HX.out⟩
section
variable {P : Program} {ops : Array Oper} {Q : Exit → Act → World → Prop} {C : World → Prop} {ts : List Nat}
theorem mixT_see {i : Nat} {o : Oper} {r : MO} {a : Act} {w : World} (hi : ops.toList[i]? = some o) (hs : Region.wanted o (yielded ops a.tmps) = true) (v : Value) (hv : ∀ w', C w' → (execOp a.eval o).run P w' = .ok (.value v) w') (hC : C w) (h : wpList P ops (mixQ (fun a' _ => wpMixT P ops C Q ts r a' w) Q) [o] a w) : wpMixT P ops C Q ts (.q i r) a w := by
 refine mixT_q hi ?_
 simp only [wpQuiet]
 rw [if_pos hs]
 refine ⟨v, fun w' hw' => ?_, ?_⟩
 ·unfold Oper.quietAt
  rw [hv w' hw']
  exact ⟨rfl, rfl⟩
 ·simp only [wpList, hs, if_true] at h
  have h2 : Oper.wp P o a w (fun a' w' => wpMixT P ops C Q ts r a' w) Q := by
   rcases h with h | h
   ·exact wp_of_mixQ (Oper.wp_mono (fun a' w' h' => h') h)
   ·obtain ⟨a', w', h'⟩ := h.2
    exact h'.elim
  unfold Oper.wp at h2
  rw [hv w hC] at h2
  exact h2
theorem mixT_seeP {i : Nat} {o : Oper} {r : MO} {a : Act} {w : World} (hi : ops.toList[i]? = some o) (hs : Region.wanted o (yielded ops a.tmps) = true) (v : Value) (hv : ∀ w', (execOp a.eval o).run P w' = .ok (.value v) w') (h : wpList P ops (mixQ (fun a' _ => wpMixT P ops C Q ts r a' w) Q) [o] a w) : wpMixT P ops C Q ts (.p i r) a w := by
 refine mixT_p hi ?_
 simp only [wpQuiet]
 rw [if_pos hs]
 refine ⟨v, fun w' hw' => ?_, ?_⟩
 ·unfold Oper.quietAt
  rw [hv w']
  exact ⟨rfl, rfl⟩
 ·simp only [wpList, hs, if_true] at h
  have h2 : Oper.wp P o a w (fun a' w' => wpMixT P ops C Q ts r a' w) Q := by
   rcases h with h | h
   ·exact wp_of_mixQ (Oper.wp_mono (fun a' w' h' => h') h)
   ·obtain ⟨a', w', h'⟩ := h.2
    exact h'.elim
  unfold Oper.wp at h2
  rw [hv w] at h2
  exact h2
theorem region_mixC (C : World → Prop) {id : Nat} {a : Act} {w : World} (order : MO) (ts : List Nat) (hm : P.follows .mixedOrders = true) (hC : C w.drew) (hc : (mixTB ops ts (Array.replicate ops.size false) order && decide (order.len ts.length ≤ ops.size)) = true)
  (hQ : ∀ c a n v w, Q (.panic c) (a.put (some n) v) w → Q (.panic c) a w) (h : wpMixT P ops C Q ts order a w.drew) : (Code.region id ops true).wp P Q a w := by
 simp only [Bool.and_eq_true, decide_eq_true_eq] at hc
 exact wp_region_last_drew (S := C) (ds := ts) hm hC (fun hS => mixT_last hQ order _ a w.drew _ hc.2 hc.1 hC h)
end
end Go.Proofs.YtoaifagjdjgcbaaDoor.X
namespace Go.Proofs.YtoaifagjdjgcbaaDoor.X
open Go.RowKit
set_option linter.unusedVariables false
set_option linter.unusedSimpArgs false
theorem Blk.new1 (w : World) (o : Obj) (cs : Array Value) (t : TypeId) : Blk ((w.alloc o).alloc (.cells cs t)) (w.heap.size + 1) cs t := by simpa using Blk.new (w.alloc o) cs t
theorem Blk.new2 (w : World) (o o2 : Obj) (cs : Array Value) (t : TypeId) : Blk (((w.alloc o).alloc o2).alloc (.cells cs t)) (w.heap.size + 1 + 1) cs t := by simpa using Blk.new ((w.alloc o).alloc o2) cs t
def setAll (w : World) (g i : Nat) : List Value → World
 | [] => w
 | u :: us => setAll (w.setCell ⟨g, i, none⟩ u) g (i + 1) us
theorem setAll_fr {S : Nat → Prop} {w0 : World} {g : Nat} (hg : g < w0.heap.size → S g) : ∀ (us : List Value) (i : Nat) (w : World), Fr w0 w S → Fr w0 (setAll w g i us) S
 | [], _, _, h => h
 | u :: us, i, w, h => setAll_fr hg us (i + 1) _ (h.setCell _ hg u)
theorem setAll_heap {g : Nat} : ∀ (us : List Value) (i : Nat) (w : World) (k : Nat), k ≠ g → (setAll w g i us).heap[k]? = w.heap[k]?
 | [], _, _, _, _ => rfl
 | u :: us, i, w, k, h => (setAll_heap us (i + 1) _ k h).trans (Below.heap_setCell w _ u k h)
theorem setAll_size {g : Nat} : ∀ (us : List Value) (i : Nat) (w : World), (setAll w g i us).heap.size = w.heap.size
 | [], _, _ => rfl
 | u :: us, i, w => (setAll_size us (i + 1) _).trans (by simp)
namespace Ty
variable {α : Type} {d : Ty α} {e : TypeId} {w w1 : World} {S S' Si T : Nat → Prop} {v : Value} {xs : List α} {i : Nat} {cs : List Value}
theorem H_all {g n cap : Nat} : ∀ (us pre suf : List Value) (w : World), us.length = suf.length → pre.length + suf.length = d.sz → (∀ u ∈ us, u.cells = #[u]) → d.H e w S (.slice (some ⟨g, 0, none⟩) n cap) xs i Si (pre ++ suf) → d.H e (setAll w g (i * d.sz + pre.length) us) S (.slice (some ⟨g, 0, none⟩) n cap) xs i Si (pre ++ us)
 | [], pre, suf, w, hl, hs, h1, h => by
  obtain rfl : suf = [] := List.eq_nil_of_length_eq_zero hl.symm
  exact h
 | u :: us, pre, [], w, hl, hs, h1, h => by simp at hl
 | u :: us, pre, v :: suf, w, hl, hs, h1, h => by
  have h2 := H_store h pre.length (by simp at hs; omega) u (h1 u (by simp))
  have he : (pre ++ v :: suf).set pre.length u = (pre ++ [u]) ++ suf := by
   rw [List.set_append_right _ _ (Nat.le_refl _), Nat.sub_self]
   simp
  rw [he] at h2
  have h3 := H_all us (pre ++ [u]) suf _ (by simpa using hl) (by simp at hs ⊢; omega) (fun x hx => h1 x (by simp [hx])) h2
  rw [List.append_assoc] at h3
  have hp : i * d.sz + (pre ++ [u]).length = i * d.sz + pre.length + 1 := by simp; omega
  rw [hp] at h3
  exact h3
theorem R_put {g n cap : Nat} (h : d.R e w S (.slice (some ⟨g, 0, none⟩) n cap) xs) (hi : i < xs.length) (hsz : 0 < d.sz) {x' : α} {cs' : List Value} (hO : d.O w T x' cs') (hT : ∀ k, T k → k < w.heap.size → ¬ S k) (hS : ∀ k, S k → S' k) (hT' : ∀ k, T k → S' k) :
  g < w.heap.size ∧ (∃ cur, d.K w xs[i] cur ∧ ∀ j u, cur[j]? = some u → w.cell? ⟨g, i * d.sz + j, none⟩ = some u) ∧ (∀ j, w.frozen? ⟨g, j, none⟩ = false) ∧ S g ∧ d.R e (setAll w g (i * d.sz) cs') S' (.slice (some ⟨g, 0, none⟩) n cap) (xs.set i x') := by
 obtain ⟨Si, cs, hH, hOi⟩ := R_H h (List.getElem?_eq_getElem hi)
 obtain ⟨g', cap', he, _, _, hg, hgl, _, hcell, hfz⟩ := H_cells hH hsz
 injection he with he _ _; injection he with he; injection he with he _ _; subst he
 refine ⟨hgl, ⟨cs, d.O_K hOi, hcell⟩, hfz, hg, ?_⟩
 have h2 := H_all cs' [] cs w (by rw [d.K_len (d.O_K hO), d.K_len (d.O_K hOi)]) (by simp [d.K_len (d.O_K hOi)]) (fun u hu => by
  have := d.K_one (d.O_K hO) u hu
  cases u <;> first | rfl | (exfalso; simp [Value.oneCell'] at this)) hH
 simp only [List.length_nil, Nat.add_zero, List.nil_append] at h2
 refine H_back h2 (T := fun k => T k ∧ k < w.heap.size) (d.O_move (fun k hk => setAll_heap _ _ _ _ (fun hk' => hT k hk.1 hk.2 (hk' ▸ hg))) (d.O_bound hO)) (fun k hk => .inr (hT k hk.1 hk.2)) hS (fun k hk => hT' k hk.1)
end Ty
end Go.Proofs.YtoaifagjdjgcbaaDoor.X
namespace Go.Proofs.YtoaifagjdjgcbaaDoor.X
open Go.RowKit Go.Sort
set_option linter.unusedVariables false
set_option linter.unusedSimpArgs false
open Ty
def bulkL {α : Type} (b : α → Nat) : List α → Nat
 | [] => 0
 | x :: l => b x + bulkL b l
theorem bulkL_append {α : Type} (b : α → Nat) (l m : List α) : bulkL b (l ++ m) = bulkL b l + bulkL b m := by
 induction l with
 | nil => simp [bulkL]
 | cons x l ih => simp only [List.cons_append, bulkL, ih]; omega
theorem bulkL_take {α : Type} (b : α → Nat) (l : List α) (k : Nat) (hk : k < l.length) : bulkL b (l.take (k + 1)) = bulkL b (l.take k) + b l[k] := by
 rw [List.take_succ_eq_append_getElem hk, bulkL_append]
 simp [bulkL]
theorem bulkL_take_le {α : Type} (b : α → Nat) (l : List α) (k : Nat) : bulkL b (l.take k) ≤ bulkL b l := by
 have := bulkL_append b (l.take k) (l.drop k)
 rw [List.take_append_drop] at this
 omega
theorem bulkL_mem {α : Type} (b : α → Nat) {l : List α} {x : α} (h : x ∈ l) : b x ≤ bulkL b l := by
 induction l with
 | nil => cases h
 | cons y l ih =>
  simp only [bulkL]
  rcases List.mem_cons.1 h with rfl | h
  ·omega
  ·have := ih h; omega
theorem szR_sub {left : Int} {a b : Nat} (h : 0 ≤ left - (a : Int)) : szR (left - (a : Int)) b = szR left (a + b) := by
 unfold szR
 split <;> split <;> omega
def bulkRow (r : Row) : Nat := r.cells.length
def bulkRowS (l : List Row) : Nat := l.length + bulkL bulkRow l
def bulkRowSS (l : List (List Row)) : Nat := l.length + bulkL bulkRowS l
def bulkMut (m : Mut) : Nat := bulkRow m.row
def bulkMutS (l : List Mut) : Nat := l.length + bulkL bulkMut l
def bulkChange (c : Change) : Nat := bulkRow c.old + bulkRow c.new
def bulkStore (s : Store) : Nat := s.cols.length + bulkRowSS s.tabs
theorem bodyPost_retW {P : Program} {fn : Func} {R : Ending → World → Prop} {a : Act} {w : World} {v : Value}
  (hr : (results fn a.tmps).run P w = .ok v w) (hd : a.defers = []) (hR : ∀ W, W = w → R (.returned v) W) : bodyPost P fn R .ret a w := bodyPost_ret hr hd (hR w rfl)
def markL {α : Type} (mk : Int → α → α) (cn : α → Nat) : Int → List α → List α
 | _, [] => []
 | k, x :: l => mk k x :: markL mk cn (k + cn x) l
section
variable {α : Type} {mk : Int → α → α} {cn : α → Nat}
theorem markL_length : ∀ (l : List α) (k : Int), (markL mk cn k l).length = l.length
 | [], _ => rfl
 | x :: l, k => by simp [markL, markL_length l]
theorem markL_append : ∀ (l m : List α) (k : Int), markL mk cn k (l ++ m) = markL mk cn k l ++ markL mk cn (k + bulkL cn l) m
 | [], m, k => by simp [markL, bulkL]
 | x :: l, m, k => by
  simp only [List.cons_append, markL, bulkL, markL_append l m]
  rw [show k + (cn x : Int) + (bulkL cn l : Int) = k + ((cn x + bulkL cn l : Nat) : Int) by omega]
theorem markL_at (l : List α) (k : Int) (i : Nat) (hi : i < l.length) : (markL mk cn k l)[i]'(by rw [markL_length]; exact hi) = mk (k + bulkL cn (l.take i)) l[i] := by
 have h : l = l.take i ++ (l[i] :: l.drop (i + 1)) := by rw [List.getElem_cons_drop, List.take_append_drop]
 have e : markL mk cn k l = markL mk cn k (l.take i) ++ (mk (k + bulkL cn (l.take i)) l[i] :: markL mk cn (k + bulkL cn (l.take i) + cn l[i]) (l.drop (i + 1))) := by
  conv => lhs; rw [h]
  rw [markL_append]; rfl
 have hl : (markL mk cn k (l.take i)).length = i := by rw [markL_length]; simp; omega
 simp only [e]
 rw [List.getElem_append_right (by omega)]
 simp [hl]
def midL (mk : Int → α → α) (cn : α → Nat) (k : Int) (l : List α) (i : Nat) : List α := markL mk cn k (l.take i) ++ l.drop i
theorem midL_length (l : List α) (k : Int) (i : Nat) : (midL mk cn k l i).length = l.length := by
 simp [midL, markL_length]; omega
theorem midL_at (l : List α) (k : Int) (i : Nat) (hi : i < l.length) : (midL mk cn k l i)[i]? = some l[i] := by
 have hl : (markL mk cn k (l.take i)).length = i := by rw [markL_length]; simp; omega
 rw [midL, List.getElem?_append_right (by omega), hl]
 simp [hi]
theorem midL_step (l : List α) (k : Int) (i : Nat) (hi : i < l.length) : (midL mk cn k l i).set i (mk (k + bulkL cn (l.take i)) l[i]) = midL mk cn k l (i + 1) := by
 have hl : (markL mk cn k (l.take i)).length = i := by rw [markL_length]; simp; omega
 rw [midL, List.set_append_right _ _ (by omega), hl, Nat.sub_self, midL, List.take_succ_eq_append_getElem hi, markL_append, List.append_assoc, ← List.getElem_cons_drop hi, List.set_cons_zero]
 rfl
theorem midL_end (l : List α) (k : Int) : midL mk cn k l l.length = markL mk cn k l := by simp [midL]
theorem midL_zero (l : List α) (k : Int) : midL mk cn k l 0 = l := by simp [midL, markL]
end
def mkInt (k : Int) (_ : Int) : Int := k
def one {α : Type} (_ : α) : Nat := 1
theorem bulk_one {α : Type} (l : List α) : bulkL one l = l.length := by
 induction l with
 | nil => rfl
 | cons x l ih => simp only [bulkL, ih, one, List.length_cons]; omega
theorem Blk.fr {w w1 : World} {g : Nat} {cs : Array Value} {t : TypeId} {S : Nat → Prop} (h : Blk w g cs t) (hf : Fr w w1 S) (hn : ¬ S g) : Blk w1 g cs t := (hf.block g h.lt hn).trans h
theorem Ty.H_sub {α : Type} {d : Ty α} {e : TypeId} {w : World} {S Si : Nat → Prop} {v : Value} {xs : List α} {i : Nat} {cs : List Value} (h : d.H e w S v xs i Si cs) : ∀ k, Si k → S k := by
 obtain ⟨hi, hl, inner, f, ho, hv, hc, hs, hE⟩ := h
 exact fun k hk => (hs k hk).1
theorem Ty.H_at {α : Type} {d : Ty α} {e : TypeId} {w : World} {S Si : Nat → Prop} {g n cap : Nat} {xs : List α} {i : Nat} {cs : List Value} (h : d.H e w S (.slice (some ⟨g, 0, none⟩) n cap) xs i Si cs) :
  g < w.heap.size ∧ (∀ j u, cs[j]? = some u → w.cell? ⟨g, i * d.sz + j, none⟩ = some u) ∧ ∀ j, w.frozen? ⟨g, j, none⟩ = false := by
 rcases Nat.eq_zero_or_pos d.sz with h0 | hsz
 ·obtain ⟨hi, hl, inner, f, ho, hv, hc, hs, hE⟩ := h
  obtain ⟨-, ho⟩ := ho
  rcases ho with ⟨he, _⟩ | ⟨g', cap', cur, he, _, hh, _⟩
  ·cases he
  ·injection he with he _ _; injection he with he; injection he with he _ _; subst he
   refine ⟨(Array.getElem?_eq_some_iff.1 hh).1, fun j u hu => ?_, fun j => by simp [World.frozen?, hh]⟩
   have : cs = [] := List.eq_nil_of_length_eq_zero (by rw [hl, h0])
   subst this
   simp at hu
 ·obtain ⟨g', cap', he, _, _, hg, hgl, _, hcell, hfz⟩ := H_cells h hsz
  injection he with he _ _; injection he with he; injection he with he _ _; subst he
  exact ⟨hgl, hcell, hfz⟩
def mkRow (k : Int) (r : Row) : Row := ⟨k, markL mkInt one (k + 1) r.cells⟩
def cnRow (r : Row) : Nat := 1 + r.cells.length
def mkRows (k : Int) (l : List Row) : List Row := markL mkRow cnRow k l
def cnRows (l : List Row) : Nat := bulkL cnRow l
theorem bytes_eq {a b : ByteArray} : (a.toList == b.toList) = true ↔ a = b := by
 rw [beq_iff_eq, ByteArray.toList_eq, ByteArray.toList_eq]
 exact ⟨fun h => Go.WideShapes.bytes_inj h, fun h => by rw [h]⟩
def bulkStringS (l : List ByteArray) : Nat := l.length + bulkL ByteArray.size l
def bulkJ : Nat → J → Nat
 | 0, _ => 0
 | m + 1, j => j.s.size + (j.list.length + bulkL (bulkJ m) j.list) + bulkStringS j.names
def bulkJS (m : Nat) (l : List J) : Nat := l.length + bulkL (bulkJ m) l
def bulkOp (m : Nat) (o : JOp) : Nat := bulkStringS o.way + bulkJ m o.value
def bulkOpS (m : Nat) (l : List JOp) : Nat := l.length + bulkL (bulkOp m) l
theorem ZJ : ∀ (m : Nat) (w : World) (S : Nat → Prop), (tJ (m + 1)).O w S J.null [.int .i64 0, .int .i64 0, .string ByteArray.empty, .slice none 0 0, .slice none 0 0] :=
 fun _ _ _ => tJ_O.2 ⟨_, _, fun _ => False, fun _ => False, rfl, Nat.zero_le _, R_nil, R_nil, fun _ h => h.elim, fun _ h => h.elim, fun _ h => h.elim⟩
theorem tJ_zero {m : Nat} {w : World} {A : Option Addr} {l : List J} (hr : (tJ m).C w A l) (h : 0 < l.length) (w' : World) (S : Nat → Prop) : (tJ m).O w' S J.null [.int .i64 0, .int .i64 0, .string ByteArray.empty, .slice none 0 0, .slice none 0 0] := by
 obtain ⟨ad, cs0, _, hK0, _⟩ := C_at hr (Below.refl _ _) 0 h
 cases m with
 | zero => exact hK0.elim
 | succ m => exact ZJ m w' S
def dg (n : Nat) : ByteArray := if h : n = 0 then ByteArray.empty else dg (n / 10) ++ ⟨#[UInt8.ofNat (48 + n % 10)]⟩
termination_by n
decreasing_by omega
theorem dg_zero : dg 0 = ByteArray.empty := by rw [dg]; rfl
theorem dg_pos {n : Nat} (h : 0 < n) : dg n = dg (n / 10) ++ ⟨#[UInt8.ofNat (48 + n % 10)]⟩ := by
 rw [dg]
 exact dif_neg (by omega)
theorem dg_le : ∀ n : Nat, (dg n).size ≤ n := by
 intro n
 induction n using Nat.strongRecOn with
 | _ n ih =>
  rcases Nat.eq_zero_or_pos n with rfl | h
  ·rw [dg_zero]; exact Nat.le_refl _
  ·rw [dg_pos h, ByteArray.size_append]
   have := ih (n / 10) (by omega)
   show (dg (n / 10)).size + 1 ≤ n
   omega
def markText (k : Int) : ByteArray := if k ≤ 0 then ⟨#[109, 48]⟩ else ⟨#[109]⟩ ++ dg k.toNat
theorem markText_le (k : Int) (h0 : 0 ≤ k) (h1 : k + 1 ≤ 4611686018427387904) : (markText k).size ≤ 4611686018427387906 := by
 unfold markText
 split
 ·show 2 ≤ _; omega
 ·rw [ByteArray.size_append]
  have := dg_le k.toNat
  show 1 + _ ≤ _
  omega
def mkStr (k : Int) (_ : ByteArray) : ByteArray := markText k
def cnJ : Nat → J → Nat
 | 0, _ => 0
 | m + 1, j => 3 + bulkL (cnJ m) j.list + j.names.length
def mkJ : Nat → Int → J → J
 | 0, _, j => j
 | m + 1, k, j => J.mk k (k + 1) (markText (k + 1 + 1)) (markL (mkJ m) (cnJ m) (k + 1 + 1 + 1) j.list) (markL mkStr one (k + 1 + 1 + 1 + (bulkL (cnJ m) j.list : Int)) j.names)
def cnOp (m : Nat) (o : JOp) : Nat := 1 + o.way.length + cnJ m o.value
def mkOp (m : Nat) (k : Int) (o : JOp) : JOp := ⟨k, markL mkStr one (k + 1) o.way, mkJ m (k + 1 + (o.way.length : Int)) o.value⟩
def rng (a b : Nat) : Nat → Prop := fun k => a ≤ k ∧ k < b
theorem rng_off {a b a' b' n : Nat} (h : b ≤ a' ∨ b' ≤ a) : ∀ k, rng a b k → k < n → ¬ rng a' b' k := fun k h1 _ h2 => by
 have := h1.1; have := h1.2; have := h2.1; have := h2.2
 omega
theorem rng_not {a a' b' : Nat} (h : a + 1 ≤ a' ∨ b' ≤ a) : ¬ rng a' b' a := fun h2 => by
 have := h2.1; have := h2.2
 omega
theorem below_rng {w w1 w2 : World} {a b : Nat} (h : Below w.heap.size w w1) (hf : Fr w1 w2 (rng a b)) (ha : w.heap.size ≤ a) : Below w.heap.size w w2 :=
 ((Fr.of_below h (rng a b)).trans hf).below (fun k hk => Nat.le_trans ha hk.1)
theorem R_Cv {α : Type} {d : Ty α} {e : TypeId} {w : World} {S : Nat → Prop} {A : Option Addr} {n c : Nat} {xs : List α} (h : d.R e w S (.slice A n c) xs) : d.C w A xs := by
 obtain ⟨A', c', he, _, hC⟩ := R_C h
 injection he with h1 h2 h3
 subst h1
 exact hC
theorem cnt_RowL (l : List Row) : bulkL cnRow l = bulkRowS l := by
 induction l with
 | nil => rfl
 | cons x l ih => simp only [bulkL, ih, cnRow, bulkRowS, bulkRow, List.length_cons]; omega
theorem cnt_Rows (l : List Row) : (bulkL cnRow l : Int) ≤ 4 * (bulkRowS l : Nat) := by rw [cnt_RowL]; omega
theorem cnt_RowsL (l : List (List Row)) : bulkL cnRows l ≤ bulkRowSS l := by
 induction l with
 | nil => exact Nat.zero_le _
 | cons x l ih =>
  have := cnt_RowL x
  simp only [bulkL, cnRows, bulkRowSS, List.length_cons] at ih ⊢; omega
theorem cnt_Schema (l : List Int) : (l.length : Int) ≤ 4 * (l.length : Nat) := by omega
theorem cnt_Row (r : Row) : (r.cells.length : Int) ≤ 4 * (bulkRow r : Nat) := by simp only [bulkRow]; omega
theorem cnt_Store (s : Store) : (s.cols.length : Int) + (bulkL cnRows s.tabs : Int) ≤ 4 * (bulkStore s : Nat) := by
 have := cnt_RowsL s.tabs
 simp only [bulkStore]; omega
theorem cnt_Change (s : Change) : (s.old.cells.length : Int) + (s.new.cells.length : Int) ≤ 4 * (bulkChange s : Nat) := by
 simp only [bulkChange, bulkRow]; omega
theorem bulkL_le3 {α : Type} (b c : α → Nat) (n : Nat) (h : ∀ x, b x ≤ n + n * c x) (l : List α) : bulkL b l ≤ n * (l.length + bulkL c l) := by
 induction l with
 | nil => exact Nat.zero_le _
 | cons x l ih =>
  have := h x
  simp only [bulkL, List.length_cons]
  have e : n * (l.length + 1 + (c x + bulkL c l)) = n * (l.length + bulkL c l) + (n + n * c x) := by
   rw [show l.length + 1 + (c x + bulkL c l) = (l.length + bulkL c l) + (1 + c x) by omega, Nat.mul_add n, Nat.mul_add n 1, Nat.mul_one]
  omega
theorem cnJ_le : ∀ (m : Nat) (j : J), cnJ m j ≤ 3 + 3 * bulkJ m j
 | 0, _ => Nat.zero_le _
 | m + 1, j => by
  have := bulkL_le3 (cnJ m) (bulkJ m) 3 (cnJ_le m) j.list
  simp only [cnJ, bulkJ, bulkStringS]
  omega
theorem cnt_Jsons (m : Nat) (l : List J) : bulkL (cnJ m) l ≤ 3 * bulkJS m l := bulkL_le3 (cnJ m) (bulkJ m) 3 (cnJ_le m) l
theorem cnt_Json (m : Nat) (j : J) : (bulkL (cnJ m) j.list : Int) + (j.names.length : Int) ≤ 4 * (bulkJ (m + 1) j : Nat) := by
 have := cnt_Jsons m j.list
 simp only [bulkJ, bulkJS, bulkStringS] at this ⊢
 omega
theorem cnOp_le (m : Nat) (o : JOp) : cnOp m o ≤ 4 + 4 * bulkOp m o := by
 have := cnJ_le m o.value
 simp only [cnOp, bulkOp, bulkStringS]
 omega
theorem cnt_Ops (m : Nat) (l : List JOp) : (bulkL (cnOp (m + 1)) l : Int) ≤ 4 * (bulkOpS (m + 1) l : Nat) := by
 have := bulkL_le3 (cnOp (m + 1)) (bulkOp (m + 1)) 4 (cnOp_le (m + 1)) l
 simp only [bulkOpS]
 omega
theorem cnt_Strs (l : List ByteArray) : (bulkL one l : Int) ≤ 4 * (bulkStringS l : Nat) := by
 rw [bulk_one]; simp only [bulkStringS]; omega
def hasTab (cols : List Int) (t : Int) : Bool := inB t 0 (cols.length - 1)
def isNumB (n : Int) : Bool := inB n (-1000000000) 1000000000
def rowOk (cols : List Int) (t : Int) (r : Row) : Bool := r.cells.all isNumB && (schemaOk cols && (hasTab cols t && ((r.cells.length : Int) == cols.getD t.toNat 0 && inB r.id 1 999)))
theorem hasTab_at {cols : List Int} {t : Int} (h : hasTab cols t = true) : ∃ k : Nat, t = k ∧ k < cols.length := by
 obtain ⟨h1, h2⟩ := inB_iff.1 h
 exact ⟨t.toNat, by omega, by omega⟩
theorem rowOk_at {cols : List Int} {k : Nat} (hk : k < cols.length) (r : Row) : rowOk cols k r = (r.cells.all isNumB && (schemaOk cols && (hasTab cols k && ((r.cells.length : Int) == cols[k] && inB r.id 1 999)))) := by
 unfold rowOk
 rw [Int.toNat_natCast, List.getD_eq_getElem?_getD, List.getElem?_eq_getElem hk]; rfl
def byteB (b : UInt8) : Bool := inB (b.toNat : Int) 32 126
def textB (s : ByteArray) : Bool := s.data.toList.all byteB && decide ((s.size : Int) ≤ 60)
theorem wrap64_byte (b : UInt8) : wrap64 ((b.toNat : Nat) : Int) = b.toNat := by
 have := b.toNat_lt
 unfold wrap64
 omega
set_option maxRecDepth 100000 in
theorem impl_textOk (s : ByteArray) (w : World) (hs : s.size ≤ 9223372036854775807) :
  Calls Tryd.prog 79 #[.string s] w fun e w' => e = .returned (.bool (textB s)) ∧ w = w' := by
 go_enter Tryd.func79, Tryd.ntmps79
 go_wp2
 go_loop [6] (fun i => ∃ k : Nat, k ≤ s.size ∧ i = .int .i64 k ∧ Hd ((s.data.toList.take k).all byteB = true)) (fun i => s.size - (intOf i).toNat)
 case atStart => exact ⟨0, Nat.zero_le _, rfl, ⟨rfl⟩⟩
 case round =>
  obtain ⟨k, hk, rfl, HA⟩ := hrel
  by_cases hlt : k < s.size
  ·have hw : wrap64 ((s[k].toNat : Nat) : Int) = s[k].toNat := wrap64_byte _
   have HA2 := Hd.mk (show (s.data.toList.take (k + 1)).all byteB = byteB s[k] from all_take byteB s.data.toList k (by simpa using hlt) HA.out)
   go_wp2_with fail
   refine (impl_within _ _ _ _).mono ?_
   rintro e w' ⟨rfl, rfl⟩
   cases hb : inB (s[k].toNat : Int) 32 126
   ·have HN := Hd.mk (show textB s = false by rw [textB, all_false byteB s.data.toList (k + 1) (by rw [HA2.out]; exact hb)]; rfl)
    go_wp2_with fail
    go_ret
    exact ⟨by rw [HN.out]; rfl, rfl⟩
   ·have HN := Hd.mk (show byteB s[k] = true from hb)
    go_wp2_with fail
    go_round
    case rel => exact ⟨k + 1, by omega, by go_num, ⟨by rw [HA2.out]; exact HN.out⟩⟩
    case measure => simp [intOf]; omega
  ·obtain rfl : k = s.size := by omega
   have HN := Hd.mk (show textB s = decide ((s.size : Int) ≤ 60) by
    have := HA.out
    rw [show s.size = s.data.toList.length by simp, List.take_length] at this
    rw [textB, this]; rfl)
   go_wp2_with fail
   go_ret
   exact ⟨by rw [HN.out]; rfl, rfl⟩
set_option maxRecDepth 100000 in
theorem spec_l1Text (s : ByteArray) (w : World) (hs : s.size ≤ 9223372036854775807) :
  Calls Tryd.prog 82 #[.string s] w fun e w' => e = .returned (.bool (textB s)) ∧ w = w' := by
 go_enter Tryd.func82, Tryd.ntmps82
 go_wp2
 go_loop [3] (fun i => ∃ k : Nat, k ≤ s.size ∧ i = .int .i64 k ∧ Hd ((s.data.toList.take k).all byteB = true)) (fun i => s.size - (intOf i).toNat)
 case atStart => exact ⟨0, Nat.zero_le _, rfl, ⟨rfl⟩⟩
 case round =>
  obtain ⟨k, hk, rfl, HA⟩ := hrel
  by_cases hlt : k < s.size
  ·have HA2 := Hd.mk (show (s.data.toList.take (k + 1)).all byteB = byteB s[k] from all_take byteB s.data.toList k (by simpa using hlt) HA.out)
   by_cases h1 : (s[k].toNat : Int) < 32
   ·have HN := Hd.mk (show textB s = false by rw [textB, all_false byteB s.data.toList (k + 1) (by rw [HA2.out]; simp [byteB, inB]; omega)]; rfl)
    go_wp2_with fail
    go_ret
    exact ⟨by rw [HN.out]; rfl, rfl⟩
   by_cases h2 : 126 < (s[k].toNat : Int)
   ·have HN := Hd.mk (show textB s = false by rw [textB, all_false byteB s.data.toList (k + 1) (by rw [HA2.out]; simp [byteB, inB]; omega)]; rfl)
    go_wp2_with fail
    go_ret
    exact ⟨by rw [HN.out]; rfl, rfl⟩
   ·have HN := Hd.mk (show byteB s[k] = true by simp [byteB, inB]; omega)
    go_wp2_with fail
    go_round
    case rel => exact ⟨k + 1, by omega, by go_num, ⟨by rw [HA2.out]; exact HN.out⟩⟩
    case measure => simp [intOf]; omega
  ·obtain rfl : k = s.size := by omega
   have HN := Hd.mk (show textB s = decide ((s.size : Int) ≤ 60) by
    have := HA.out
    rw [show s.size = s.data.toList.length by simp, List.take_length] at this
    rw [textB, this]; rfl)
   go_wp2_with fail
   go_ret
   exact ⟨by rw [HN.out]; rfl, rfl⟩
def ltB (a b : ByteArray) : Bool := Go.Op.bytesLess a.toList b.toList
theorem run_geq (a b : ByteArray) (w : World) : (Go.binOp .geq 9 (.string a) (.string b)).run Tryd.prog w = .ok (.bool (!ltB a b)) w := by
 rfl
def nameStep (l : List ByteArray) (k : Nat) : Bool := textB (l.getD k ByteArray.empty) && (k == 0 || ltB (l.getD (k - 1) ByteArray.empty) (l.getD k ByteArray.empty))
def namesB (l : List ByteArray) : Bool := (List.range l.length).all (nameStep l)
theorem all_range_ (p : Nat → Bool) (k : Nat) (h : (List.range k).all p = true) : (List.range (k + 1)).all p = p k := by
 rw [List.range_succ, List.all_append, h]; simp
theorem nameStep_at {l : List ByteArray} {k : Nat} (hk : k < l.length) : nameStep l k = (textB l[k] && (k == 0 || ltB (l.getD (k - 1) ByteArray.empty) l[k])) := by
 unfold nameStep
 rw [show l.getD k ByteArray.empty = l[k] by simp [List.getD_eq_getElem?_getD, hk]]
theorem namesB_no {l : List ByteArray} {k : Nat} (hk : k < l.length) (h : nameStep l k = false) : namesB l = false := by
 rw [namesB, List.all_eq_false]
 exact ⟨k, List.mem_range.2 hk, by simp [h]⟩
set_option maxRecDepth 100000 in
theorem impl_namesOk (A : Option Addr) (c : Nat) (l : List ByteArray) (w : World) (hr : str.C w A l) :
  Calls Tryd.prog 92 #[.slice A l.length c] w fun e w' => e = .returned (.bool (namesB l)) ∧ w = w' := by
 have hm := hr.1
 have HC := Hd.mk hr; clear hr
 go_enter Tryd.func92, Tryd.ntmps92
 go_wp2
 go_loop [7] (fun i => ∃ k : Nat, k ≤ l.length ∧ i = .int .i64 k ∧ Hd ((List.range k).all (nameStep l) = true)) (fun i => l.length - (intOf i).toNat)
 case atStart => exact ⟨0, Nat.zero_le _, rfl, ⟨rfl⟩⟩
 case round =>
  obtain ⟨k, hk, rfl, HA⟩ := hrel
  by_cases hlt : k < l.length
  ·obtain ⟨ad, rfl, hx, hsz⟩ := C_str_at HC.out (Below.refl _ _) k hlt
   have HP := Hd.mk (show ∀ j, k = j + 1 → ∃ hj : j < l.length, w.cell? (ad.add j) = some (.string l[j]) from fun j e => by
    obtain ⟨ad', e', h, _⟩ := C_str_at HC.out (Below.refl _ _) j (by omega)
    injection e' with e'; subst e'
    exact ⟨by omega, h⟩)
   have HA2 := Hd.mk (all_range_ (nameStep l) k HA.out)
   go_wp2_with fail
   refine (impl_textOk _ _ hsz).mono ?_
   rintro e w' ⟨rfl, rfl⟩
   cases hb : textB l[k]
   ·have HE := Hd.mk (show namesB l = false from namesB_no hlt (by rw [nameStep_at hlt, hb]; rfl))
    go_wp2_with fail
    go_ret
    exact ⟨by rw [HE.out]; rfl, rfl⟩
   have HE := Hd.mk (show nameStep l k = (k == 0 || ltB (l.getD (k - 1) ByteArray.empty) l[k]) by rw [nameStep_at hlt, hb]; rfl)
   clear hb
   cases k with
   | zero =>
    go_wp2_with fail
    go_round
    case rel => exact ⟨1, by omega, by go_num, ⟨by rw [HA2.out, HE.out]; rfl⟩⟩
    case measure => simp [intOf]; omega
   | succ j =>
    obtain ⟨hj, hx2⟩ := HP.out j rfl
    have HE2 := Hd.mk (show nameStep l (j + 1) = ltB l[j] l[j + 1] by rw [HE.out]; simp [List.getD_eq_getElem?_getD, hj])
    have hge := run_geq l[j] l[j + 1]
    cases h2 : ltB l[j] l[j + 1]
    all_goals rw [h2] at hge
    ·have HN := Hd.mk (show namesB l = false from namesB_no hlt (by rw [HE2.out, h2]))
     clear h2
     go_wp2_with fail
     go_ret
     exact ⟨by rw [HN.out]; rfl, rfl⟩
    ·have HN := Hd.mk (show nameStep l (j + 1) = true by rw [HE2.out, h2])
     clear h2
     go_wp2_with fail
     go_round
     case rel => exact ⟨j + 1 + 1, by omega, by go_num, ⟨by rw [HA2.out, HN.out]⟩⟩
     case measure => simp [intOf]; omega
  ·obtain rfl : k = l.length := by omega
   go_wp2_with fail
   go_ret
   exact ⟨by rw [namesB, HA.out]; rfl, rfl⟩
def ownB (j : J) : Bool :=
 if 0 < j.list.length && (j.kind != 4 && j.kind != 5) then false
 else if 0 < j.names.length && j.kind != 5 then false
 else if j.n != 0 && (j.kind != 1 && j.kind != 2) then false
 else if (!(j.s.toList == [])) && j.kind != 3 then false
 else if j.kind == 1 then inB j.n 0 1
 else if j.kind == 2 then isNumB j.n
 else if j.kind == 3 then textB j.s
 else if j.kind == 5 then ((j.names.length : Int) == j.list.length) && namesB j.names
 else j.kind == 0 || j.kind == 4
set_option maxHeartbeats 4000000 in
set_option maxRecDepth 100000 in
theorem impl_ownOk_0 {A1 A2 : Option Addr} {c1 c2 : Nat} {n : Int} {s : ByteArray} {list : List J} {names : List ByteArray} {w : World} (hs : s.size ≤ 9223372036854775807) (hm1 : list.length ≤ 9223372036854775807) (hr2 : str.C w A2 names) :
  Calls Tryd.prog 78 #[.agg #[.int .i64 0, .int .i64 n, .string s, .slice A1 list.length c1, .slice A2 names.length c2]] w fun e w' => e = .returned (.bool (ownB (J.mk 0 n s list names))) ∧ Below w.heap.size w w' := by
 have hm2 := hr2.1
 have HC2 := Hd.mk hr2; clear hr2
 have hB := Hd.mk (below_alloc (Below.refl w.heap.size w) (Obj.cells #[.int .i64 0, .int .i64 n, .string s, .slice A1 list.length c1, .slice A2 names.length c2] 27))
 go_enter Tryd.func78, Tryd.ntmps78
 by_cases h1 : 0 < list.length
 ·skip
  have HE := Hd.mk (show ownB (J.mk 0 n s list names) = false by simp_all [ownB, isNumB])
  go_wp2_with fail
  go_ret
  exact ⟨by rw [HE.out]; rfl, by exact hB.out⟩
 ·skip
  obtain rfl : list = [] := List.eq_nil_of_length_eq_zero (by omega)
  by_cases h2 : 0 < names.length
  ·skip
   have HE := Hd.mk (show ownB (J.mk 0 n s ([] : List J) names) = false by simp_all [ownB, isNumB])
   go_wp2_with fail
   go_ret
   exact ⟨by rw [HE.out]; rfl, by exact hB.out⟩
  ·skip
   obtain rfl : names = [] := List.eq_nil_of_length_eq_zero (by omega)
   cases h3 : (n != 0)
   case true =>
    have HE := Hd.mk (show ownB (J.mk 0 n s ([] : List J) ([] : List ByteArray)) = false by simp_all [ownB, isNumB])
    go_wp2_with fail
    go_ret
    exact ⟨by rw [HE.out]; rfl, by exact hB.out⟩
   case false =>
    cases h4 : (s.toList == [])
    case true =>
     have HE := Hd.mk (show ownB (J.mk 0 n s ([] : List J) ([] : List ByteArray)) = true by simp_all [ownB, isNumB])
     go_wp2_with fail
     go_ret
     exact ⟨by rw [HE.out]; rfl, by exact hB.out⟩
    case false =>
     have HE := Hd.mk (show ownB (J.mk 0 n s ([] : List J) ([] : List ByteArray)) = false by simp_all [ownB, isNumB])
     go_wp2_with fail
     go_ret
     exact ⟨by rw [HE.out]; rfl, by exact hB.out⟩
set_option maxHeartbeats 4000000 in
set_option maxRecDepth 100000 in
theorem impl_ownOk_1 {A1 A2 : Option Addr} {c1 c2 : Nat} {n : Int} {s : ByteArray} {list : List J} {names : List ByteArray} {w : World} (hs : s.size ≤ 9223372036854775807) (hm1 : list.length ≤ 9223372036854775807) (hr2 : str.C w A2 names) :
  Calls Tryd.prog 78 #[.agg #[.int .i64 1, .int .i64 n, .string s, .slice A1 list.length c1, .slice A2 names.length c2]] w fun e w' => e = .returned (.bool (ownB (J.mk 1 n s list names))) ∧ Below w.heap.size w w' := by
 have hm2 := hr2.1
 have HC2 := Hd.mk hr2; clear hr2
 have hB := Hd.mk (below_alloc (Below.refl w.heap.size w) (Obj.cells #[.int .i64 1, .int .i64 n, .string s, .slice A1 list.length c1, .slice A2 names.length c2] 27))
 go_enter Tryd.func78, Tryd.ntmps78
 by_cases h1 : 0 < list.length
 ·skip
  have HE := Hd.mk (show ownB (J.mk 1 n s list names) = false by simp_all [ownB, isNumB])
  go_wp2_with fail
  go_ret
  exact ⟨by rw [HE.out]; rfl, by exact hB.out⟩
 ·skip
  obtain rfl : list = [] := List.eq_nil_of_length_eq_zero (by omega)
  by_cases h2 : 0 < names.length
  ·skip
   have HE := Hd.mk (show ownB (J.mk 1 n s ([] : List J) names) = false by simp_all [ownB, isNumB])
   go_wp2_with fail
   go_ret
   exact ⟨by rw [HE.out]; rfl, by exact hB.out⟩
  ·skip
   obtain rfl : names = [] := List.eq_nil_of_length_eq_zero (by omega)
   cases h3 : (n != 0)
   case true =>
    cases h4 : (s.toList == [])
    case true =>
     have HE := Hd.mk (show ownB (J.mk 1 n s ([] : List J) ([] : List ByteArray)) = inB n 0 1 by simp_all [ownB, isNumB])
     go_wp2_with (go_at_call 71; refine (impl_within _ _ _ _).mono ?_; rintro e w' ⟨rfl, rfl⟩)
     go_ret
     exact ⟨by rw [HE.out]; rfl, by exact hB.out⟩
    case false =>
     have HE := Hd.mk (show ownB (J.mk 1 n s ([] : List J) ([] : List ByteArray)) = false by simp_all [ownB, isNumB])
     go_wp2_with fail
     go_ret
     exact ⟨by rw [HE.out]; rfl, by exact hB.out⟩
   case false =>
    cases h4 : (s.toList == [])
    case true =>
     have HE := Hd.mk (show ownB (J.mk 1 n s ([] : List J) ([] : List ByteArray)) = inB n 0 1 by simp_all [ownB, isNumB])
     go_wp2_with (go_at_call 71; refine (impl_within _ _ _ _).mono ?_; rintro e w' ⟨rfl, rfl⟩)
     go_ret
     exact ⟨by rw [HE.out]; rfl, by exact hB.out⟩
    case false =>
     have HE := Hd.mk (show ownB (J.mk 1 n s ([] : List J) ([] : List ByteArray)) = false by simp_all [ownB, isNumB])
     go_wp2_with fail
     go_ret
     exact ⟨by rw [HE.out]; rfl, by exact hB.out⟩
set_option maxHeartbeats 4000000 in
set_option maxRecDepth 100000 in
theorem impl_ownOk_2 {A1 A2 : Option Addr} {c1 c2 : Nat} {n : Int} {s : ByteArray} {list : List J} {names : List ByteArray} {w : World} (hs : s.size ≤ 9223372036854775807) (hm1 : list.length ≤ 9223372036854775807) (hr2 : str.C w A2 names) :
  Calls Tryd.prog 78 #[.agg #[.int .i64 2, .int .i64 n, .string s, .slice A1 list.length c1, .slice A2 names.length c2]] w fun e w' => e = .returned (.bool (ownB (J.mk 2 n s list names))) ∧ Below w.heap.size w w' := by
 have hm2 := hr2.1
 have HC2 := Hd.mk hr2; clear hr2
 have hB := Hd.mk (below_alloc (Below.refl w.heap.size w) (Obj.cells #[.int .i64 2, .int .i64 n, .string s, .slice A1 list.length c1, .slice A2 names.length c2] 27))
 go_enter Tryd.func78, Tryd.ntmps78
 by_cases h1 : 0 < list.length
 ·skip
  have HE := Hd.mk (show ownB (J.mk 2 n s list names) = false by simp_all [ownB, isNumB])
  go_wp2_with fail
  go_ret
  exact ⟨by rw [HE.out]; rfl, by exact hB.out⟩
 ·skip
  obtain rfl : list = [] := List.eq_nil_of_length_eq_zero (by omega)
  by_cases h2 : 0 < names.length
  ·skip
   have HE := Hd.mk (show ownB (J.mk 2 n s ([] : List J) names) = false by simp_all [ownB, isNumB])
   go_wp2_with fail
   go_ret
   exact ⟨by rw [HE.out]; rfl, by exact hB.out⟩
  ·skip
   obtain rfl : names = [] := List.eq_nil_of_length_eq_zero (by omega)
   cases h3 : (n != 0)
   case true =>
    cases h4 : (s.toList == [])
    case true =>
     have HE := Hd.mk (show ownB (J.mk 2 n s ([] : List J) ([] : List ByteArray)) = inB n (-1000000000) 1000000000 by simp_all [ownB, isNumB])
     go_wp2_with (go_at_call 91; refine (impl_isNum _ _).mono ?_; rintro e w' ⟨rfl, rfl⟩)
     go_ret
     exact ⟨by rw [HE.out]; rfl, by exact hB.out⟩
    case false =>
     have HE := Hd.mk (show ownB (J.mk 2 n s ([] : List J) ([] : List ByteArray)) = false by simp_all [ownB, isNumB])
     go_wp2_with fail
     go_ret
     exact ⟨by rw [HE.out]; rfl, by exact hB.out⟩
   case false =>
    cases h4 : (s.toList == [])
    case true =>
     have HE := Hd.mk (show ownB (J.mk 2 n s ([] : List J) ([] : List ByteArray)) = inB n (-1000000000) 1000000000 by simp_all [ownB, isNumB])
     go_wp2_with (go_at_call 91; refine (impl_isNum _ _).mono ?_; rintro e w' ⟨rfl, rfl⟩)
     go_ret
     exact ⟨by rw [HE.out]; rfl, by exact hB.out⟩
    case false =>
     have HE := Hd.mk (show ownB (J.mk 2 n s ([] : List J) ([] : List ByteArray)) = false by simp_all [ownB, isNumB])
     go_wp2_with fail
     go_ret
     exact ⟨by rw [HE.out]; rfl, by exact hB.out⟩
set_option maxHeartbeats 4000000 in
set_option maxRecDepth 100000 in
theorem impl_ownOk_3 {A1 A2 : Option Addr} {c1 c2 : Nat} {n : Int} {s : ByteArray} {list : List J} {names : List ByteArray} {w : World} (hs : s.size ≤ 9223372036854775807) (hm1 : list.length ≤ 9223372036854775807) (hr2 : str.C w A2 names) :
  Calls Tryd.prog 78 #[.agg #[.int .i64 3, .int .i64 n, .string s, .slice A1 list.length c1, .slice A2 names.length c2]] w fun e w' => e = .returned (.bool (ownB (J.mk 3 n s list names))) ∧ Below w.heap.size w w' := by
 have hm2 := hr2.1
 have HC2 := Hd.mk hr2; clear hr2
 have hB := Hd.mk (below_alloc (Below.refl w.heap.size w) (Obj.cells #[.int .i64 3, .int .i64 n, .string s, .slice A1 list.length c1, .slice A2 names.length c2] 27))
 go_enter Tryd.func78, Tryd.ntmps78
 by_cases h1 : 0 < list.length
 ·skip
  have HE := Hd.mk (show ownB (J.mk 3 n s list names) = false by simp_all [ownB, isNumB])
  go_wp2_with fail
  go_ret
  exact ⟨by rw [HE.out]; rfl, by exact hB.out⟩
 ·skip
  obtain rfl : list = [] := List.eq_nil_of_length_eq_zero (by omega)
  by_cases h2 : 0 < names.length
  ·skip
   have HE := Hd.mk (show ownB (J.mk 3 n s ([] : List J) names) = false by simp_all [ownB, isNumB])
   go_wp2_with fail
   go_ret
   exact ⟨by rw [HE.out]; rfl, by exact hB.out⟩
  ·skip
   obtain rfl : names = [] := List.eq_nil_of_length_eq_zero (by omega)
   cases h3 : (n != 0)
   case true =>
    have HE := Hd.mk (show ownB (J.mk 3 n s ([] : List J) ([] : List ByteArray)) = false by simp_all [ownB, isNumB])
    go_wp2_with fail
    go_ret
    exact ⟨by rw [HE.out]; rfl, by exact hB.out⟩
   case false =>
    cases h4 : (s.toList == [])
    case true =>
     have HE := Hd.mk (show ownB (J.mk 3 n s ([] : List J) ([] : List ByteArray)) = textB s by simp_all [ownB, isNumB])
     go_wp2_with (go_at_call 79; refine (impl_textOk _ _ hs).mono ?_; rintro e w' ⟨rfl, rfl⟩)
     go_ret
     exact ⟨by rw [HE.out]; rfl, by exact hB.out⟩
    case false =>
     have HE := Hd.mk (show ownB (J.mk 3 n s ([] : List J) ([] : List ByteArray)) = textB s by simp_all [ownB, isNumB])
     go_wp2_with (go_at_call 79; refine (impl_textOk _ _ hs).mono ?_; rintro e w' ⟨rfl, rfl⟩)
     go_ret
     exact ⟨by rw [HE.out]; rfl, by exact hB.out⟩
set_option maxHeartbeats 4000000 in
set_option maxRecDepth 100000 in
theorem impl_ownOk_4a {A1 A2 : Option Addr} {c1 c2 : Nat} {n : Int} {s : ByteArray} {list : List J} {names : List ByteArray} {w : World} (hs : s.size ≤ 9223372036854775807) (hm1 : list.length ≤ 9223372036854775807) (hr2 : str.C w A2 names) (h1 : 0 < list.length) :
  Calls Tryd.prog 78 #[.agg #[.int .i64 4, .int .i64 n, .string s, .slice A1 list.length c1, .slice A2 names.length c2]] w fun e w' => e = .returned (.bool (ownB (J.mk 4 n s list names))) ∧ Below w.heap.size w w' := by
 have hm2 := hr2.1
 have HC2 := Hd.mk hr2; clear hr2
 have hB := Hd.mk (below_alloc (Below.refl w.heap.size w) (Obj.cells #[.int .i64 4, .int .i64 n, .string s, .slice A1 list.length c1, .slice A2 names.length c2] 27))
 go_enter Tryd.func78, Tryd.ntmps78
 by_cases h2 : 0 < names.length
 ·skip
  have HE := Hd.mk (show ownB (J.mk 4 n s list names) = false by simp_all [ownB, isNumB])
  go_wp2_with fail
  go_ret
  exact ⟨by rw [HE.out]; rfl, by exact hB.out⟩
 ·skip
  obtain rfl : names = [] := List.eq_nil_of_length_eq_zero (by omega)
  cases h3 : (n != 0)
  case true =>
   have HE := Hd.mk (show ownB (J.mk 4 n s list ([] : List ByteArray)) = false by simp_all [ownB, isNumB])
   go_wp2_with fail
   go_ret
   exact ⟨by rw [HE.out]; rfl, by exact hB.out⟩
  case false =>
   cases h4 : (s.toList == [])
   case true =>
    have HE := Hd.mk (show ownB (J.mk 4 n s list ([] : List ByteArray)) = true by simp_all [ownB, isNumB])
    go_wp2_with fail
    go_ret
    exact ⟨by rw [HE.out]; rfl, by exact hB.out⟩
   case false =>
    have HE := Hd.mk (show ownB (J.mk 4 n s list ([] : List ByteArray)) = false by simp_all [ownB, isNumB])
    go_wp2_with fail
    go_ret
    exact ⟨by rw [HE.out]; rfl, by exact hB.out⟩
set_option maxHeartbeats 4000000 in
set_option maxRecDepth 100000 in
theorem impl_ownOk_4b {A1 A2 : Option Addr} {c1 c2 : Nat} {n : Int} {s : ByteArray} {list : List J} {names : List ByteArray} {w : World} (hs : s.size ≤ 9223372036854775807) (hm1 : list.length ≤ 9223372036854775807) (hr2 : str.C w A2 names) (h1 : ¬ 0 < list.length) :
  Calls Tryd.prog 78 #[.agg #[.int .i64 4, .int .i64 n, .string s, .slice A1 list.length c1, .slice A2 names.length c2]] w fun e w' => e = .returned (.bool (ownB (J.mk 4 n s list names))) ∧ Below w.heap.size w w' := by
 have hm2 := hr2.1
 have HC2 := Hd.mk hr2; clear hr2
 have hB := Hd.mk (below_alloc (Below.refl w.heap.size w) (Obj.cells #[.int .i64 4, .int .i64 n, .string s, .slice A1 list.length c1, .slice A2 names.length c2] 27))
 go_enter Tryd.func78, Tryd.ntmps78
 obtain rfl : list = [] := List.eq_nil_of_length_eq_zero (by omega)
 by_cases h2 : 0 < names.length
 ·skip
  have HE := Hd.mk (show ownB (J.mk 4 n s ([] : List J) names) = false by simp_all [ownB, isNumB])
  go_wp2_with fail
  go_ret
  exact ⟨by rw [HE.out]; rfl, by exact hB.out⟩
 ·skip
  obtain rfl : names = [] := List.eq_nil_of_length_eq_zero (by omega)
  cases h3 : (n != 0)
  case true =>
   have HE := Hd.mk (show ownB (J.mk 4 n s ([] : List J) ([] : List ByteArray)) = false by simp_all [ownB, isNumB])
   go_wp2_with fail
   go_ret
   exact ⟨by rw [HE.out]; rfl, by exact hB.out⟩
  case false =>
   cases h4 : (s.toList == [])
   case true =>
    have HE := Hd.mk (show ownB (J.mk 4 n s ([] : List J) ([] : List ByteArray)) = true by simp_all [ownB, isNumB])
    go_wp2_with fail
    go_ret
    exact ⟨by rw [HE.out]; rfl, by exact hB.out⟩
   case false =>
    have HE := Hd.mk (show ownB (J.mk 4 n s ([] : List J) ([] : List ByteArray)) = false by simp_all [ownB, isNumB])
    go_wp2_with fail
    go_ret
    exact ⟨by rw [HE.out]; rfl, by exact hB.out⟩
set_option maxHeartbeats 4000000 in
set_option maxRecDepth 100000 in
theorem impl_ownOk_5a {A1 A2 : Option Addr} {c1 c2 : Nat} {n : Int} {s : ByteArray} {list : List J} {names : List ByteArray} {w : World} (hs : s.size ≤ 9223372036854775807) (hm1 : list.length ≤ 9223372036854775807) (hr2 : str.C w A2 names) (h1 : 0 < list.length) :
  Calls Tryd.prog 78 #[.agg #[.int .i64 5, .int .i64 n, .string s, .slice A1 list.length c1, .slice A2 names.length c2]] w fun e w' => e = .returned (.bool (ownB (J.mk 5 n s list names))) ∧ Below w.heap.size w w' := by
 have hm2 := hr2.1
 have HC2 := Hd.mk hr2; clear hr2
 have hB := Hd.mk (below_alloc (Below.refl w.heap.size w) (Obj.cells #[.int .i64 5, .int .i64 n, .string s, .slice A1 list.length c1, .slice A2 names.length c2] 27))
 go_enter Tryd.func78, Tryd.ntmps78
 by_cases h2 : 0 < names.length
 ·skip
  cases h3 : (n != 0)
  case true =>
   have HE := Hd.mk (show ownB (J.mk 5 n s list names) = false by simp_all [ownB, isNumB])
   go_wp2_with fail
   go_ret
   exact ⟨by rw [HE.out]; rfl, by exact hB.out⟩
  case false =>
   cases h4 : (s.toList == [])
   case true =>
    cases hq : ((names.length : Int) == list.length)
    ·skip
     have HE := Hd.mk (show ownB (J.mk 5 n s list names) = false by simp_all [ownB, isNumB])
     go_wp2_with fail
     go_ret
     exact ⟨by rw [HE.out]; rfl, by exact hB.out⟩
    ·skip
     have HE := Hd.mk (show ownB (J.mk 5 n s list names) = namesB names by simp_all [ownB, isNumB])
     go_wp2_with (go_at_call 92; refine (impl_namesOk A2 c2 names _ (C_below HC2.out hB.out)).mono ?_; rintro e w' ⟨rfl, rfl⟩)
     go_ret
     exact ⟨by rw [HE.out]; rfl, by exact hB.out⟩
   case false =>
    have HE := Hd.mk (show ownB (J.mk 5 n s list names) = false by simp_all [ownB, isNumB])
    go_wp2_with fail
    go_ret
    exact ⟨by rw [HE.out]; rfl, by exact hB.out⟩
 ·skip
  obtain rfl : names = [] := List.eq_nil_of_length_eq_zero (by omega)
  cases h3 : (n != 0)
  case true =>
   have HE := Hd.mk (show ownB (J.mk 5 n s list ([] : List ByteArray)) = false by simp_all [ownB, isNumB])
   go_wp2_with fail
   go_ret
   exact ⟨by rw [HE.out]; rfl, by exact hB.out⟩
  case false =>
   cases h4 : (s.toList == [])
   case true =>
    have hq : (((([] : List ByteArray)).length : Int) == (list).length) = false := by rw [beq_eq_false_iff_ne]; simp only [List.length_nil]; omega
    have HE := Hd.mk (show ownB (J.mk 5 n s list ([] : List ByteArray)) = false by simp_all [ownB, isNumB])
    go_wp2_with fail
    go_ret
    exact ⟨by rw [HE.out]; rfl, by exact hB.out⟩
   case false =>
    have HE := Hd.mk (show ownB (J.mk 5 n s list ([] : List ByteArray)) = false by simp_all [ownB, isNumB])
    go_wp2_with fail
    go_ret
    exact ⟨by rw [HE.out]; rfl, by exact hB.out⟩
set_option maxHeartbeats 4000000 in
set_option maxRecDepth 100000 in
theorem impl_ownOk_5b {A1 A2 : Option Addr} {c1 c2 : Nat} {n : Int} {s : ByteArray} {list : List J} {names : List ByteArray} {w : World} (hs : s.size ≤ 9223372036854775807) (hm1 : list.length ≤ 9223372036854775807) (hr2 : str.C w A2 names) (h1 : ¬ 0 < list.length) :
  Calls Tryd.prog 78 #[.agg #[.int .i64 5, .int .i64 n, .string s, .slice A1 list.length c1, .slice A2 names.length c2]] w fun e w' => e = .returned (.bool (ownB (J.mk 5 n s list names))) ∧ Below w.heap.size w w' := by
 have hm2 := hr2.1
 have HC2 := Hd.mk hr2; clear hr2
 have hB := Hd.mk (below_alloc (Below.refl w.heap.size w) (Obj.cells #[.int .i64 5, .int .i64 n, .string s, .slice A1 list.length c1, .slice A2 names.length c2] 27))
 go_enter Tryd.func78, Tryd.ntmps78
 obtain rfl : list = [] := List.eq_nil_of_length_eq_zero (by omega)
 by_cases h2 : 0 < names.length
 ·skip
  cases h3 : (n != 0)
  case true =>
   have HE := Hd.mk (show ownB (J.mk 5 n s ([] : List J) names) = false by simp_all [ownB, isNumB])
   go_wp2_with fail
   go_ret
   exact ⟨by rw [HE.out]; rfl, by exact hB.out⟩
  case false =>
   cases h4 : (s.toList == [])
   case true =>
    have hq : (((names).length : Int) == (([] : List J)).length) = false := by rw [beq_eq_false_iff_ne]; simp only [List.length_nil]; omega
    have hq2 : ((names.length : Int) == 0) = false := by rw [beq_eq_false_iff_ne]; omega
    have HE := Hd.mk (show ownB (J.mk 5 n s ([] : List J) names) = false by simp_all [ownB, isNumB])
    go_wp2_with fail
    go_ret
    exact ⟨by rw [HE.out]; rfl, by exact hB.out⟩
   case false =>
    have HE := Hd.mk (show ownB (J.mk 5 n s ([] : List J) names) = false by simp_all [ownB, isNumB])
    go_wp2_with fail
    go_ret
    exact ⟨by rw [HE.out]; rfl, by exact hB.out⟩
 ·skip
  obtain rfl : names = [] := List.eq_nil_of_length_eq_zero (by omega)
  cases h3 : (n != 0)
  case true =>
   have HE := Hd.mk (show ownB (J.mk 5 n s ([] : List J) ([] : List ByteArray)) = false by simp_all [ownB, isNumB])
   go_wp2_with fail
   go_ret
   exact ⟨by rw [HE.out]; rfl, by exact hB.out⟩
  case false =>
   cases h4 : (s.toList == [])
   case true =>
    have HE := Hd.mk (show ownB (J.mk 5 n s ([] : List J) ([] : List ByteArray)) = namesB ([] : List ByteArray) by simp_all [ownB, isNumB])
    go_wp2_with (go_at_call 92; refine (impl_namesOk A2 c2 ([] : List ByteArray) _ (C_below HC2.out hB.out)).mono ?_; rintro e w' ⟨rfl, rfl⟩)
    go_ret
    exact ⟨by rw [HE.out]; rfl, by exact hB.out⟩
   case false =>
    have HE := Hd.mk (show ownB (J.mk 5 n s ([] : List J) ([] : List ByteArray)) = false by simp_all [ownB, isNumB])
    go_wp2_with fail
    go_ret
    exact ⟨by rw [HE.out]; rfl, by exact hB.out⟩
set_option maxHeartbeats 4000000 in
set_option maxRecDepth 100000 in
theorem impl_ownOk_o {A1 A2 : Option Addr} {c1 c2 : Nat} {kind n : Int} {s : ByteArray} {list : List J} {names : List ByteArray} {w : World} (hs : s.size ≤ 9223372036854775807) (hm1 : list.length ≤ 9223372036854775807) (hr2 : str.C w A2 names) (e0 : (kind == 0) = false) (f0 : (kind != 0) = true) (e1 : (kind == 1) = false) (f1 : (kind != 1) = true) (e2 : (kind == 2) = false) (f2 : (kind != 2) = true) (e3 : (kind == 3) = false) (f3 : (kind != 3) = true) (e4 : (kind == 4) = false) (f4 : (kind != 4) = true) (e5 : (kind == 5) = false) (f5 : (kind != 5) = true) :
  Calls Tryd.prog 78 #[.agg #[.int .i64 kind, .int .i64 n, .string s, .slice A1 list.length c1, .slice A2 names.length c2]] w fun e w' => e = .returned (.bool (ownB (J.mk kind n s list names))) ∧ Below w.heap.size w w' := by
 have hm2 := hr2.1
 have HC2 := Hd.mk hr2; clear hr2
 have hB := Hd.mk (below_alloc (Below.refl w.heap.size w) (Obj.cells #[.int .i64 kind, .int .i64 n, .string s, .slice A1 list.length c1, .slice A2 names.length c2] 27))
 go_enter Tryd.func78, Tryd.ntmps78
 by_cases h1 : 0 < list.length
 ·skip
  have HE := Hd.mk (show ownB (J.mk kind n s list names) = false by simp_all [ownB, isNumB])
  go_wp2_with fail
  go_ret
  exact ⟨by rw [HE.out]; rfl, by exact hB.out⟩
 ·skip
  obtain rfl : list = [] := List.eq_nil_of_length_eq_zero (by omega)
  by_cases h2 : 0 < names.length
  ·skip
   have HE := Hd.mk (show ownB (J.mk kind n s ([] : List J) names) = false by simp_all [ownB, isNumB])
   go_wp2_with fail
   go_ret
   exact ⟨by rw [HE.out]; rfl, by exact hB.out⟩
  ·skip
   obtain rfl : names = [] := List.eq_nil_of_length_eq_zero (by omega)
   cases h3 : (n != 0)
   case true =>
    have HE := Hd.mk (show ownB (J.mk kind n s ([] : List J) ([] : List ByteArray)) = false by simp_all [ownB, isNumB])
    go_wp2_with fail
    go_ret
    exact ⟨by rw [HE.out]; rfl, by exact hB.out⟩
   case false =>
    cases h4 : (s.toList == [])
    case true =>
     have HE := Hd.mk (show ownB (J.mk kind n s ([] : List J) ([] : List ByteArray)) = false by simp_all [ownB, isNumB])
     go_wp2_with fail
     go_ret
     exact ⟨by rw [HE.out]; rfl, by exact hB.out⟩
    case false =>
     have HE := Hd.mk (show ownB (J.mk kind n s ([] : List J) ([] : List ByteArray)) = false by simp_all [ownB, isNumB])
     go_wp2_with fail
     go_ret
     exact ⟨by rw [HE.out]; rfl, by exact hB.out⟩
theorem impl_ownOk {m : Nat} (x : J) (cs : List Value) (w : World) (hk : (tJ (m + 1)).K w x cs) :
  Calls Tryd.prog 78 #[.agg cs.toArray] w fun e w' => e = .returned (.bool (ownB x)) ∧ Below w.heap.size w w' := by
 obtain ⟨A1, c1, A2, c2, rfl, hs, ⟨hc1, hr1⟩, hc2, hr2⟩ := tJ_K.1 hk
 clear hk
 obtain ⟨kind, n, s, list, names⟩ := x
 have hm1 := hr1.1
 by_cases k0 : kind = 0
 ·subst k0
  exact impl_ownOk_0 hs hm1 hr2
 by_cases k1 : kind = 1
 ·subst k1
  exact impl_ownOk_1 hs hm1 hr2
 by_cases k2 : kind = 2
 ·subst k2
  exact impl_ownOk_2 hs hm1 hr2
 by_cases k3 : kind = 3
 ·subst k3
  exact impl_ownOk_3 hs hm1 hr2
 by_cases k4 : kind = 4
 ·subst k4
  by_cases h1 : 0 < list.length
  ·exact impl_ownOk_4a hs hm1 hr2 h1
  ·exact impl_ownOk_4b hs hm1 hr2 h1
 by_cases k5 : kind = 5
 ·subst k5
  by_cases h1 : 0 < list.length
  ·exact impl_ownOk_5a hs hm1 hr2 h1
  ·exact impl_ownOk_5b hs hm1 hr2 h1
 exact impl_ownOk_o hs hm1 hr2 (by simpa using k0) (by simpa using k0) (by simpa using k1) (by simpa using k1) (by simpa using k2) (by simpa using k2) (by simpa using k3) (by simpa using k3) (by simpa using k4) (by simpa using k4) (by simpa using k5) (by simpa using k5)
def sumZ {α : Type} (f : α → Int) : List α → Int
 | [] => 0
 | x :: l => f x + sumZ f l
theorem sumZ_append {α : Type} (f : α → Int) (l m : List α) : sumZ f (l ++ m) = sumZ f l + sumZ f m := by
 induction l with
 | nil => simp [sumZ]
 | cons x l ih => simp only [List.cons_append, sumZ, ih]; omega
theorem sumZ_take {α : Type} (f : α → Int) (l : List α) (k : Nat) (hk : k < l.length) : sumZ f (l.take (k + 1)) = sumZ f (l.take k) + f l[k] := by
 rw [List.take_succ_eq_append_getElem hk, sumZ_append]; simp [sumZ]
theorem sumZ_pos {α : Type} (f : α → Int) (h : ∀ x, 0 ≤ f x) : ∀ l : List α, 0 ≤ sumZ f l
 | [] => Int.le_refl 0
 | x :: l => by have := h x; have := sumZ_pos f h l; simp only [sumZ]; omega
theorem sumZ_le {α : Type} (f : α → Int) (h : ∀ x, 0 ≤ f x) (l : List α) (k : Nat) : sumZ f (l.take k) ≤ sumZ f l := by
 have h1 := sumZ_append f (l.take k) (l.drop k)
 have h2 := sumZ_pos f h (l.drop k)
 rw [List.take_append_drop] at h1
 omega
def sizeN : Nat → J → Int
 | 0, _ => 401
 | d + 1, j => if ownB j = true ∧ 1 + sumZ (sizeN d) j.list ≤ 400 then 1 + sumZ (sizeN d) j.list else 401
theorem sizeN_bound : ∀ (d : Nat) (j : J), 1 ≤ sizeN d j ∧ sizeN d j ≤ 401
 | 0, j => by simp [sizeN]
 | d + 1, j => by
  have := sumZ_pos (sizeN d) (fun x => by have := (sizeN_bound d x).1; omega) j.list
  unfold sizeN
  split <;> omega
theorem sizeN_pos (d : Nat) (x : J) : 0 ≤ sizeN d x := by have := (sizeN_bound d x).1; omega
def SizeC (m : Nat) : Prop := ∀ (x : J) (cs : List Value) (d : Nat) (w : World), d ≤ 6 → (tJ m).K w x cs →
 Calls Tryd.prog 52 #[.agg cs.toArray, .int .i64 d] w fun e w' => e = .returned (.int .i64 (sizeN d x)) ∧ Below w.heap.size w w'
set_option maxRecDepth 100000 in
theorem impl_sizeIn_of {m : Nat} (ih : SizeC m) : SizeC (m + 1) := by
 intro x cs d w hd hk
 have HK := Hd.mk hk
 obtain ⟨A1, c1, A2, c2, rfl, hs, ⟨hc1, hr1⟩, hc2, hr2⟩ := tJ_K.1 hk
 clear hk
 have hm1 := hr1.1
 have HC := Hd.mk hr1; clear hr1 hr2
 have hB := Hd.mk (below_alloc (Below.refl w.heap.size w) (Obj.cells #[.int .i64 x.kind, .int .i64 x.n, .string x.s, .slice A1 x.list.length c1, .slice A2 x.names.length c2] 27))
 have b0 := Blk.new w #[.int .i64 x.kind, .int .i64 x.n, .string x.s, .slice A1 x.list.length c1, .slice A2 x.names.length c2] 27
 go_enter Tryd.func52, Tryd.ntmps52
 cases d with
 | zero =>
  go_wp2_with fail
  go_ret
  exact ⟨rfl, by exact hB.out⟩
 | succ d =>
  go_wp2_with fail
  generalize w.alloc (Obj.cells #[Value.int IntKind.i64 x.kind, Value.int IntKind.i64 x.n, Value.string x.s, Value.slice A1 x.list.length c1, Value.slice A2 x.names.length c2] 27) = W0 at hB b0 ⊢
  refine (impl_ownOk x _ _ ((tJ (m + 1)).K_below hB.out HK.out)).mono ?_
  rintro e w1 ⟨rfl, hX⟩
  replace b0 := b0.below hX
  replace hB := Hd.mk (below_then hB.out hX)
  clear hX
  have f3 : w1.cell? ⟨w.heap.size, 3, none⟩ = some (.slice A1 x.list.length c1) := b0.cell 3 rfl
  cases h1 : ownB x
  ·have HE := Hd.mk (show sizeN (d + 1) x = 401 by simp [sizeN, h1])
   go_wp2_with fail
   go_ret
   exact ⟨by rw [HE.out]; rfl, hB.out⟩
  have HE := Hd.mk (show sizeN (d + 1) x = if 1 + sumZ (sizeN d) x.list ≤ 400 then 1 + sumZ (sizeN d) x.list else 401 by simp [sizeN, h1])
  clear h1
  go_wp2_with fail
  clear f3
  have hB := Hd.mk hB
  go_loopw [5, 18] (fun v i wr => ∃ k : Nat, k ≤ x.list.length ∧ i = .int .i64 k ∧ v = .int .i64 (1 + sumZ (sizeN d) (x.list.take k)) ∧ Hd (1 + sumZ (sizeN d) (x.list.take k) ≤ 400) ∧ Hd (Below w.heap.size w wr)) (fun _ i _ => x.list.length - (intOf i).toNat)
  case atStart => exact ⟨0, Nat.zero_le _, rfl, rfl, ⟨by simp [sumZ]⟩, hB.out⟩
  case round =>
   clear hB b0
   obtain ⟨k, hk, rfl, rfl, HZ, hB⟩ := hrel
   have hz0 := sumZ_pos (sizeN d) (sizeN_pos d) (x.list.take k)
   have hz1 := HZ.out
   by_cases hlt : k < x.list.length
   ·obtain ⟨m, rfl⟩ : ∃ m1 : Nat, m = m1 + 1 := by
     cases m with
     | zero => obtain ⟨_, _, _, h, _⟩ := C_at HC.out (Below.refl _ _) k hlt; exact h.elim
     | succ m => exact ⟨m, rfl⟩
    obtain ⟨ad, A3, c3, A4, c4, rfl, x0, x1, x2, x3, x4, hs4, hr3, hr4⟩ := C_J_at HC.out hB.out k hlt
    have HK4 := Hd.mk (tJ_K.2 ⟨A3, c3, A4, c4, rfl, hs4, hr3, hr4⟩ : (tJ (m + 1)).K wr x.list[k] _)
    clear hr3 hr4
    have hb := sizeN_bound d x.list[k]
    have hb1 := hb.1
    have hb2 := hb.2
    clear hb
    have HT := Hd.mk (sumZ_take (sizeN d) x.list k hlt)
    go_wp2_with fail
    apply calls_gen; intro W hW
    have hX : Below wr.heap.size wr W := by rw [hW]; exact below_alloc (Below.refl _ _) _
    clear hW
    refine (ih x.list[k] _ d _ (by omega) ((tJ (m + 1)).K_below hX HK4.out)).mono ?_
    rintro e w2 ⟨rfl, hX2⟩
    have hB2 := Hd.mk (below_then hB.out (below_then hX hX2))
    clear hX hX2
    by_cases hz : 400 < 1 + sumZ (sizeN d) (x.list.take k) + sizeN d x.list[k]
    ·have HN := Hd.mk (show sizeN (d + 1) x = 401 by
      have h4 := sumZ_le (sizeN d) (sizeN_pos d) x.list (k + 1)
      rw [HE.out, if_neg (by rw [HT.out] at h4; omega)])
     go_wp2_with fail
     go_ret
     exact ⟨by rw [HN.out]; rfl, hB2.out⟩
    ·have HN := Hd.mk (show 1 + sumZ (sizeN d) (x.list.take (k + 1)) ≤ 400 by rw [HT.out]; omega)
     go_wp2_with fail
     go_roundw
     case rel => exact ⟨k + 1, by omega, by go_num, by rw [HT.out, Int.add_assoc], HN, hB2⟩
     case measure => simp [intOf]; omega
   ·obtain rfl : k = x.list.length := by omega
    have HN := Hd.mk (show sizeN (d + 1) x = 1 + sumZ (sizeN d) (x.list.take x.list.length) by
     have := HZ.out
     rw [HE.out, List.take_length] at *
     rw [if_pos this])
    go_wp2_with fail
    go_ret
    exact ⟨by rw [HN.out]; rfl, hB.out⟩
theorem sizeIn_all : ∀ m, SizeC m
 | 0 => fun _ _ _ _ _ hk => hk.elim
 | m + 1 => impl_sizeIn_of (sizeIn_all m)
def jsonOk (x : J) : Bool := decide (sizeN 6 x ≤ 400)
def jsonSize (x : J) : Int := if sizeN 6 x ≤ 400 then sizeN 6 x else 0
set_option maxRecDepth 100000 in
theorem impl_JsonOk {m : Nat} (x : J) (cs : List Value) (w : World) (hk : (tJ (m + 1)).K w x cs) :
  Calls Tryd.prog 17 #[.agg cs.toArray] w fun e w' => e = .returned (.bool (jsonOk x)) ∧ Below w.heap.size w w' := by
 have HK := Hd.mk hk
 obtain ⟨A1, c1, A2, c2, rfl, hs, ⟨hc1, hr1⟩, hc2, hr2⟩ := tJ_K.1 hk
 clear hk hr1 hr2
 have hb := sizeN_bound 6 x
 have hb1 := hb.1
 have hb2 := hb.2
 clear hb
 go_enter Tryd.func17, Tryd.ntmps17
 go_wp2_with fail
 apply calls_gen; intro W hW
 have hX : Below w.heap.size w W := by rw [hW]; exact below_alloc (Below.refl _ _) _
 clear hW
 refine (sizeIn_all (m + 1) x _ 6 W (by omega) ((tJ (m + 1)).K_below hX HK.out)).mono ?_
 rintro e w1 ⟨rfl, hX1⟩
 have hB := Hd.mk (below_then hX hX1); clear hX hX1
 by_cases h : sizeN 6 x ≤ 400
 ·have HE := Hd.mk (show jsonOk x = true by simp [jsonOk, h])
  go_wp2_with fail
  go_ret
  exact ⟨by first | (rw [HE.out]; rfl) | rfl, hB.out⟩
 ·have HE := Hd.mk (show jsonOk x = false by simp [jsonOk, h])
  go_wp2_with fail
  go_ret
  exact ⟨by first | (rw [HE.out]; rfl) | rfl, hB.out⟩
set_option maxRecDepth 100000 in
theorem impl_JsonSize {m : Nat} (x : J) (cs : List Value) (w : World) (hk : (tJ (m + 1)).K w x cs) :
  Calls Tryd.prog 21 #[.agg cs.toArray] w fun e w' => e = .returned (.int .i64 (jsonSize x)) ∧ Below w.heap.size w w' := by
 have HK := Hd.mk hk
 obtain ⟨A1, c1, A2, c2, rfl, hs, ⟨hc1, hr1⟩, hc2, hr2⟩ := tJ_K.1 hk
 clear hk hr1 hr2
 have hb := sizeN_bound 6 x
 have hb1 := hb.1
 have hb2 := hb.2
 clear hb
 go_enter Tryd.func21, Tryd.ntmps21
 go_wp2_with fail
 apply calls_gen; intro W hW
 have hX : Below w.heap.size w W := by rw [hW]; exact below_alloc (Below.refl _ _) _
 clear hW
 refine (sizeIn_all (m + 1) x _ 6 W (by omega) ((tJ (m + 1)).K_below hX HK.out)).mono ?_
 rintro e w1 ⟨rfl, hX1⟩
 have hB := Hd.mk (below_then hX hX1); clear hX hX1
 by_cases h : sizeN 6 x ≤ 400
 ·have HE := Hd.mk (show jsonSize x = sizeN 6 x by simp [jsonSize, h])
  go_wp2_with fail
  go_ret
  exact ⟨by first | (rw [HE.out]; rfl) | rfl, hB.out⟩
 ·have HE := Hd.mk (show jsonSize x = 0 by simp [jsonSize, h])
  go_wp2_with fail
  go_ret
  exact ⟨by first | (rw [HE.out]; rfl) | rfl, hB.out⟩
def namesOkB (x : J) : Bool := if x.kind == 5 then namesB x.names && ((x.names.length : Int) == x.list.length) else ((x.names.length : Int) == 0)
set_option maxRecDepth 100000 in
theorem spec_l1Names {m : Nat} (x : J) (cs : List Value) (w : World) (hk : (tJ (m + 1)).K w x cs) :
  Calls Tryd.prog 90 #[.agg cs.toArray] w fun e w' => e = .returned (.bool (namesOkB x)) ∧ Below w.heap.size w w' := by
 obtain ⟨A1, c1, A2, c2, rfl, hs, ⟨hc1, hr1⟩, hc2, hr2⟩ := tJ_K.1 hk
 clear hk
 have hm1 := hr1.1
 have hm2 := hr2.1
 have HC := Hd.mk hr2; clear hr1 hr2
 have hB := Hd.mk (below_alloc (Below.refl w.heap.size w) (Obj.cells #[.int .i64 x.kind, .int .i64 x.n, .string x.s, .slice A1 x.list.length c1, .slice A2 x.names.length c2] 27))
 have b0 := Blk.new w #[.int .i64 x.kind, .int .i64 x.n, .string x.s, .slice A1 x.list.length c1, .slice A2 x.names.length c2] 27
 go_enter Tryd.func90, Tryd.ntmps90
 cases h5 : (x.kind != 5)
 case true =>
  have HE := Hd.mk (show namesOkB x = ((x.names.length : Int) == 0) by
   have : (x.kind == 5) = false := by simpa using h5
   rw [namesOkB, this]; rfl)
  go_wp2_with fail
  go_ret
  exact ⟨by rw [HE.out]; rfl, hB.out⟩
 have HE := Hd.mk (show namesOkB x = (namesB x.names && ((x.names.length : Int) == x.list.length)) by
  have : (x.kind == 5) = true := by simpa using h5
  rw [namesOkB, this]; rfl)
 go_wp2_with fail
 go_loopw [3] (fun i wr => ∃ k : Nat, k ≤ x.names.length ∧ i = .int .i64 k ∧ Hd ((List.range k).all (nameStep x.names) = true) ∧ Hd (Below w.heap.size w wr) ∧ Blk wr w.heap.size #[.int .i64 x.kind, .int .i64 x.n, .string x.s, .slice A1 x.list.length c1, .slice A2 x.names.length c2] 27) (fun i _ => x.names.length - (intOf i).toNat)
 case atStart => exact ⟨0, Nat.zero_le _, rfl, ⟨rfl⟩, hB, b0⟩
 case round =>
  clear hB b0
  obtain ⟨k, hk, rfl, HA, hB, b0⟩ := hrel
  have f4 : wr.cell? ⟨w.heap.size, 4, none⟩ = some (.slice A2 x.names.length c2) := b0.cell 4 rfl
  have f3 : wr.cell? ⟨w.heap.size, 3, none⟩ = some (.slice A1 x.list.length c1) := b0.cell 3 rfl
  by_cases hlt : k < x.names.length
  ·obtain ⟨ad, rfl, hx, hsz⟩ := C_str_at HC.out hB.out k hlt
   have HP := Hd.mk (show ∀ j, k = j + 1 → ∃ hj : j < x.names.length, wr.cell? (ad.add j) = some (.string x.names[j]) from fun j e => by
    obtain ⟨ad', e', h, _⟩ := C_str_at HC.out hB.out j (by omega)
    injection e' with e'; subst e'
    exact ⟨by omega, h⟩)
   have HA2 := Hd.mk (all_range_ (nameStep x.names) k HA.out)
   have y4 := cell_regrown f4
   have y0 := cell_regrown hx
   go_wp2_with fail
   refine region_mix [(true, 0), (true, 1), (true, 2), (true, 3), (true, 4), (false, 5), (true, 6), (true, 7), (true, 8), (true, 9), (true, 10), (true, 11), (true, 12), (true, 13), (true, 14), (true, 15), (true, 16), (true, 17), (true, 18), (true, 19), (true, 20), (true, 21), (true, 22), (true, 23), (true, 24)] (by kernel_rfl) (by kernel_rfl) (fun _ _ _ _ _ h => h) ?_
   (repeat (first | (refine mix_z rfl (by rfl) ?_; go_big_quiet_skip; refine wpQuiet_nil ?_) | (refine mix_q rfl ?_; first | (go_big_quiet_skip; refine wpQuiet_nil ?_) | (go_big_quiet_want; go_big_quiet_op; go_big_quiet_on; refine wpQuiet_nil ?_))))
   refine mix_b rfl ?_ (by rfl)
   go_wp2_with fail
   apply calls_gen; intro W1 hW
   have hS : Below wr.heap.size wr W1 := by rw [hW]; exact below_drew (Below.refl _ _)
   clear hW
   refine (spec_l1Text _ _ hsz).mono ?_
   rintro e w1 ⟨rfl, rfl⟩
   have hS1 := Hd.mk hS
   have hB1 := Hd.mk (below_then hB.out hS)
   have b01 := b0.below hS
   clear hS
   cases hb : textB x.names[k]
   ·have HN := Hd.mk (show namesOkB x = false by rw [HE.out, namesB_no hlt (by rw [nameStep_at hlt, hb]; rfl)]; rfl)
    go_wp2_with fail
    refine ⟨cls_below hS1.out, ?_⟩
    (repeat (first | (refine mix_z rfl (by rfl) ?_; go_big_quiet_skip; refine wpQuiet_nil ?_) | (refine mix_q rfl ?_; first | (go_big_quiet_skip; refine wpQuiet_nil ?_) | (go_big_quiet_want; go_big_quiet_op; go_big_quiet_on; refine wpQuiet_nil ?_))))
    refine mix_nil ?_
    go_wp2_with fail
    go_ret
    exact ⟨by rw [HN.out]; rfl, hB1.out⟩
   have HE1 := Hd.mk (show nameStep x.names k = (k == 0 || ltB (x.names.getD (k - 1) ByteArray.empty) x.names[k]) by rw [nameStep_at hlt, hb]; rfl)
   clear hb
   cases k with
   | zero =>
    go_wp2_with fail
    refine ⟨cls_below hS1.out, ?_⟩
    (repeat (first | (refine mix_z rfl (by rfl) ?_; go_big_quiet_skip; refine wpQuiet_nil ?_) | (refine mix_q rfl ?_; first | (go_big_quiet_skip; refine wpQuiet_nil ?_) | (go_big_quiet_want; go_big_quiet_op; go_big_quiet_on; refine wpQuiet_nil ?_))))
    refine mix_nil ?_
    clear y4 y0
    go_wp2_with fail
    go_roundw
    case rel => exact ⟨1, by omega, by go_num, ⟨by rw [HA2.out, HE1.out]; rfl⟩, hB1, b01⟩
    case measure => simp [intOf]; omega
   | succ j =>
    obtain ⟨hj, hx2⟩ := HP.out j rfl
    have y3 := cell_regrown hx2
    have y5 := cell_regrown (show wr.cell? ⟨ad.block, ad.off + (j + 1), none⟩ = some (.string x.names[j + 1]) by have := hx; unfold Addr.add at this; simpa using this)
    have HE2 := Hd.mk (show nameStep x.names (j + 1) = ltB x.names[j] x.names[j + 1] by rw [HE1.out]; simp [List.getD_eq_getElem?_getD, hj])
    have hge := run_geq x.names[j] x.names[j + 1]
    cases h2 : ltB x.names[j] x.names[j + 1]
    all_goals rw [h2] at hge
    ·have HN := Hd.mk (show namesOkB x = false by rw [HE.out, namesB_no hlt (by rw [HE2.out, h2])]; rfl)
     clear h2
     go_wp2_with fail
     refine ⟨cls_below hS1.out, ?_⟩
     (repeat (first | (refine mix_z rfl (by rfl) ?_; go_big_quiet_skip; refine wpQuiet_nil ?_) | (refine mix_q rfl ?_; first | (go_big_quiet_skip; refine wpQuiet_nil ?_) | (go_big_quiet_want; go_big_quiet_op; go_big_quiet_on; refine wpQuiet_nil ?_))))
     refine mix_nil ?_
     go_wp2_with fail
     go_ret
     exact ⟨by rw [HN.out]; rfl, hB1.out⟩
    ·have HN := Hd.mk (show nameStep x.names (j + 1) = true by rw [HE2.out, h2])
     clear h2
     go_wp2_with fail
     refine ⟨cls_below hS1.out, ?_⟩
     (repeat (first | (refine mix_z rfl (by rfl) ?_; go_big_quiet_skip; refine wpQuiet_nil ?_) | (refine mix_q rfl ?_; first | (go_big_quiet_skip; refine wpQuiet_nil ?_) | (go_big_quiet_want; go_big_quiet_op; go_big_quiet_on; refine wpQuiet_nil ?_))))
     refine mix_nil ?_
     clear y4 y0 y3 y5
     go_wp2_with fail
     go_roundw
     case rel => exact ⟨j + 1 + 1, by omega, by go_num, ⟨by rw [HA2.out, HN.out]⟩, hB1, b01⟩
     case measure => simp [intOf]; omega
  ·obtain rfl : k = x.names.length := by omega
   have HN := Hd.mk (show namesOkB x = ((x.names.length : Int) == x.list.length) by rw [HE.out, namesB, HA.out]; rfl)
   go_wp2_with fail
   go_ret
   exact ⟨by rw [HN.out]; rfl, hB.out⟩
theorem sizeN_bad {d : Nat} {x : J} (h : ownB x = false) : sizeN (d + 1) x = 401 := by simp [sizeN, h]
theorem sizeN_ok {d : Nat} {x : J} (h : ownB x = true) : sizeN (d + 1) x = if 1 + sumZ (sizeN d) x.list ≤ 400 then 1 + sumZ (sizeN d) x.list else 401 := by simp [sizeN, h]
def GreatMid (d : Nat) (l : List J) (k : Nat) (g : Int) : Prop := 1 ≤ g ∧ g ≤ 401 + 400 * ((d : Int) + 1) ∧ (g ≤ 400 → g = 1 + sumZ (sizeN d) (l.take k)) ∧ (400 < g → 400 < 1 + sumZ (sizeN d) l)
theorem greatMid_start {d : Nat} {l : List J} : GreatMid d l 0 1 := ⟨by omega, by omega, fun _ => rfl, fun h => by omega⟩
theorem greatMid_step {d : Nat} {l : List J} {k : Nat} {g g2 : Int} (hk : k < l.length) (h : GreatMid d l k g) (hg : g ≤ 400) (h2 : (if g2 ≤ 400 then g2 else 401) = sizeN d l[k]) (h3 : 1 ≤ g2) (h4 : g2 ≤ 401 + 400 * (d : Int)) : GreatMid d l (k + 1) (g + g2) := by
 obtain ⟨a, b, c, e⟩ := h
 have c := c hg
 have h5 := sumZ_take (sizeN d) l k hk
 have h6 := sumZ_le (sizeN d) (sizeN_pos d) l (k + 1)
 refine ⟨by omega, by omega, fun h => ?_, fun h => ?_⟩
 ·rw [if_pos (by omega)] at h2; omega
 ·split at h2 <;> omega
theorem greatMid_end {d : Nat} {l : List J} {k : Nat} {g : Int} (h : GreatMid d l k g) (he : k = l.length ∨ 400 < g) : (if g ≤ 400 then g else 401) = if 1 + sumZ (sizeN d) l ≤ 400 then 1 + sumZ (sizeN d) l else 401 := by
 obtain ⟨a, b, c, e⟩ := h
 by_cases hg : g ≤ 400
 ·have hk : k = l.length := by omega
  have := c hg
  rw [hk, List.take_length] at this
  rw [if_pos hg, if_pos (by omega), this]
 ·have := e (by omega)
  rw [if_neg hg, if_neg (by omega)]
def GreatPost (d : Nat) (x : J) (w : World) : Ending → World → Prop := fun e w' => ∃ g : Int, e = .returned (.int .i64 g) ∧ (if g ≤ 400 then g else 401) = sizeN d x ∧ 1 ≤ g ∧ g ≤ 401 + 400 * (d : Int) ∧ Below w.heap.size w w'
def GreatC (m : Nat) : Prop := ∀ (x : J) (cs : List Value) (d : Nat) (w : World), d ≤ 6 → (tJ m).K w x cs → Calls Tryd.prog 75 #[.agg cs.toArray, .int .i64 d] w (GreatPost d x w)
theorem ownx_0 {kind n : Int} {s : ByteArray} {list : List J} {names : List ByteArray} (h3 : (n != 0) = true) : ownB (J.mk 0 n s list names) = false := by
 simp_all [ownB, isNumB, namesOkB, List.length_pos_iff] <;> (cases h : namesB names <;> simp_all)
theorem ownx_1 {kind n : Int} {s : ByteArray} {list : List J} {names : List ByteArray} (h3 : (n != 0) = false) (h4 : (s.toList == []) = false) : ownB (J.mk 0 n s list names) = false := by
 simp_all [ownB, isNumB, namesOkB, List.length_pos_iff] <;> (cases h : namesB names <;> simp_all)
theorem ownx_2 {kind n : Int} {s : ByteArray} {list : List J} {names : List ByteArray} (h3 : (n != 0) = false) (h4 : (s.toList == []) = true) (h1 : 0 < list.length) : ownB (J.mk 0 n s list names) = false := by
 simp_all [ownB, isNumB, namesOkB, List.length_pos_iff] <;> (cases h : namesB names <;> simp_all)
theorem ownx_3 {kind n : Int} {s : ByteArray} {list : List J} {names : List ByteArray} (h3 : (n != 0) = false) (h4 : (s.toList == []) = true) (hq : namesOkB (J.mk 0 n s ([] : List J) names) = false) : ownB (J.mk 0 n s ([] : List J) names) = false := by
 simp_all [ownB, isNumB, namesOkB, List.length_pos_iff] <;> (cases h : namesB names <;> simp_all)
theorem ownx_4 {kind n : Int} {s : ByteArray} {list : List J} {names : List ByteArray} (h3 : (n != 0) = false) (h4 : (s.toList == []) = true) (hq : namesOkB (J.mk 0 n s ([] : List J) names) = true) : ownB (J.mk 0 n s ([] : List J) names) = true := by
 simp_all [ownB, isNumB, namesOkB, List.length_pos_iff] <;> (cases h : namesB names <;> simp_all)
theorem ownx_5 {kind n : Int} {s : ByteArray} {list : List J} {names : List ByteArray} (h6 : inB n 0 1 = false) : ownB (J.mk 1 n s list names) = false := by
 simp_all [ownB, isNumB, namesOkB, List.length_pos_iff] <;> (cases h : namesB names <;> simp_all)
theorem ownx_6 {kind n : Int} {s : ByteArray} {list : List J} {names : List ByteArray} (h6 : inB n 0 1 = true) (h4 : (s.toList == []) = false) : ownB (J.mk 1 n s list names) = false := by
 simp_all [ownB, isNumB, namesOkB, List.length_pos_iff] <;> (cases h : namesB names <;> simp_all)
theorem ownx_7 {kind n : Int} {s : ByteArray} {list : List J} {names : List ByteArray} (h6 : inB n 0 1 = true) (h4 : (s.toList == []) = true) (h1 : 0 < list.length) : ownB (J.mk 1 n s list names) = false := by
 simp_all [ownB, isNumB, namesOkB, List.length_pos_iff] <;> (cases h : namesB names <;> simp_all)
theorem ownx_8 {kind n : Int} {s : ByteArray} {list : List J} {names : List ByteArray} (h6 : inB n 0 1 = true) (h4 : (s.toList == []) = true) (hq : namesOkB (J.mk 1 n s ([] : List J) names) = false) : ownB (J.mk 1 n s ([] : List J) names) = false := by
 simp_all [ownB, isNumB, namesOkB, List.length_pos_iff] <;> (cases h : namesB names <;> simp_all)
theorem ownx_9 {kind n : Int} {s : ByteArray} {list : List J} {names : List ByteArray} (h6 : inB n 0 1 = true) (h4 : (s.toList == []) = true) (hq : namesOkB (J.mk 1 n s ([] : List J) names) = true) : ownB (J.mk 1 n s ([] : List J) names) = true := by
 simp_all [ownB, isNumB, namesOkB, List.length_pos_iff] <;> (cases h : namesB names <;> simp_all)
theorem ownx_10 {kind n : Int} {s : ByteArray} {list : List J} {names : List ByteArray} (h6 : inB n (-1000000000) 1000000000 = false) : ownB (J.mk 2 n s list names) = false := by
 simp_all [ownB, isNumB, namesOkB, List.length_pos_iff] <;> (cases h : namesB names <;> simp_all)
theorem ownx_11 {kind n : Int} {s : ByteArray} {list : List J} {names : List ByteArray} (h6 : inB n (-1000000000) 1000000000 = true) (h4 : (s.toList == []) = false) : ownB (J.mk 2 n s list names) = false := by
 simp_all [ownB, isNumB, namesOkB, List.length_pos_iff] <;> (cases h : namesB names <;> simp_all)
theorem ownx_12 {kind n : Int} {s : ByteArray} {list : List J} {names : List ByteArray} (h6 : inB n (-1000000000) 1000000000 = true) (h4 : (s.toList == []) = true) (h1 : 0 < list.length) : ownB (J.mk 2 n s list names) = false := by
 simp_all [ownB, isNumB, namesOkB, List.length_pos_iff] <;> (cases h : namesB names <;> simp_all)
theorem ownx_13 {kind n : Int} {s : ByteArray} {list : List J} {names : List ByteArray} (h6 : inB n (-1000000000) 1000000000 = true) (h4 : (s.toList == []) = true) (hq : namesOkB (J.mk 2 n s ([] : List J) names) = false) : ownB (J.mk 2 n s ([] : List J) names) = false := by
 simp_all [ownB, isNumB, namesOkB, List.length_pos_iff] <;> (cases h : namesB names <;> simp_all)
theorem ownx_14 {kind n : Int} {s : ByteArray} {list : List J} {names : List ByteArray} (h6 : inB n (-1000000000) 1000000000 = true) (h4 : (s.toList == []) = true) (hq : namesOkB (J.mk 2 n s ([] : List J) names) = true) : ownB (J.mk 2 n s ([] : List J) names) = true := by
 simp_all [ownB, isNumB, namesOkB, List.length_pos_iff] <;> (cases h : namesB names <;> simp_all)
theorem ownx_15 {kind n : Int} {s : ByteArray} {list : List J} {names : List ByteArray} (h6 : textB s = false) : ownB (J.mk 3 n s list names) = false := by
 simp_all [ownB, isNumB, namesOkB, List.length_pos_iff] <;> (cases h : namesB names <;> simp_all)
theorem ownx_16 {kind n : Int} {s : ByteArray} {list : List J} {names : List ByteArray} (h6 : textB s = true) (h3 : (n != 0) = true) : ownB (J.mk 3 n s list names) = false := by
 simp_all [ownB, isNumB, namesOkB, List.length_pos_iff] <;> (cases h : namesB names <;> simp_all)
theorem ownx_17 {kind n : Int} {s : ByteArray} {list : List J} {names : List ByteArray} (h6 : textB s = true) (h3 : (n != 0) = false) (h1 : 0 < list.length) : ownB (J.mk 3 n s list names) = false := by
 simp_all [ownB, isNumB, namesOkB, List.length_pos_iff] <;> (cases h : namesB names <;> simp_all)
theorem ownx_18 {kind n : Int} {s : ByteArray} {list : List J} {names : List ByteArray} (h6 : textB s = true) (h3 : (n != 0) = false) (hq : namesOkB (J.mk 3 n s ([] : List J) names) = false) : ownB (J.mk 3 n s ([] : List J) names) = false := by
 simp_all [ownB, isNumB, namesOkB, List.length_pos_iff] <;> (cases h : namesB names <;> simp_all)
theorem ownx_19 {kind n : Int} {s : ByteArray} {list : List J} {names : List ByteArray} (h6 : textB s = true) (h3 : (n != 0) = false) (hq : namesOkB (J.mk 3 n s ([] : List J) names) = true) : ownB (J.mk 3 n s ([] : List J) names) = true := by
 simp_all [ownB, isNumB, namesOkB, List.length_pos_iff] <;> (cases h : namesB names <;> simp_all)
theorem ownx_20 {kind n : Int} {s : ByteArray} {list : List J} {names : List ByteArray} (h4 : (s.toList == []) = false) : ownB (J.mk 4 n s list names) = false := by
 simp_all [ownB, isNumB, namesOkB, List.length_pos_iff] <;> (cases h : namesB names <;> simp_all)
theorem ownx_21 {kind n : Int} {s : ByteArray} {list : List J} {names : List ByteArray} (h4 : (s.toList == []) = true) (h3 : (n != 0) = true) : ownB (J.mk 4 n s list names) = false := by
 simp_all [ownB, isNumB, namesOkB, List.length_pos_iff] <;> (cases h : namesB names <;> simp_all)
theorem ownx_22 {kind n : Int} {s : ByteArray} {list : List J} {names : List ByteArray} (h4 : (s.toList == []) = true) (h3 : (n != 0) = false) (hq : namesOkB (J.mk 4 n s list names) = false) : ownB (J.mk 4 n s list names) = false := by
 simp_all [ownB, isNumB, namesOkB, List.length_pos_iff] <;> (cases h : namesB names <;> simp_all)
theorem ownx_23 {kind n : Int} {s : ByteArray} {list : List J} {names : List ByteArray} (h4 : (s.toList == []) = true) (h3 : (n != 0) = false) (hq : namesOkB (J.mk 4 n s list names) = true) : ownB (J.mk 4 n s list names) = true := by
 simp_all [ownB, isNumB, namesOkB, List.length_pos_iff] <;> (cases h : namesB names <;> simp_all)
theorem ownx_24 {kind n : Int} {s : ByteArray} {list : List J} {names : List ByteArray} (h4 : (s.toList == []) = false) : ownB (J.mk 4 n s list names) = false := by
 simp_all [ownB, isNumB, namesOkB, List.length_pos_iff] <;> (cases h : namesB names <;> simp_all)
theorem ownx_25 {kind n : Int} {s : ByteArray} {list : List J} {names : List ByteArray} (h4 : (s.toList == []) = true) (h3 : (n != 0) = true) : ownB (J.mk 4 n s list names) = false := by
 simp_all [ownB, isNumB, namesOkB, List.length_pos_iff] <;> (cases h : namesB names <;> simp_all)
theorem ownx_26 {kind n : Int} {s : ByteArray} {list : List J} {names : List ByteArray} (h4 : (s.toList == []) = true) (h3 : (n != 0) = false) (hq : namesOkB (J.mk 4 n s list names) = false) : ownB (J.mk 4 n s list names) = false := by
 simp_all [ownB, isNumB, namesOkB, List.length_pos_iff] <;> (cases h : namesB names <;> simp_all)
theorem ownx_27 {kind n : Int} {s : ByteArray} {list : List J} {names : List ByteArray} (h4 : (s.toList == []) = true) (h3 : (n != 0) = false) (hq : namesOkB (J.mk 4 n s list names) = true) : ownB (J.mk 4 n s list names) = true := by
 simp_all [ownB, isNumB, namesOkB, List.length_pos_iff] <;> (cases h : namesB names <;> simp_all)
theorem ownx_28 {kind n : Int} {s : ByteArray} {list : List J} {names : List ByteArray} (h4 : (s.toList == []) = false) : ownB (J.mk 4 n s list names) = false := by
 simp_all [ownB, isNumB, namesOkB, List.length_pos_iff] <;> (cases h : namesB names <;> simp_all)
theorem ownx_29 {kind n : Int} {s : ByteArray} {list : List J} {names : List ByteArray} (h4 : (s.toList == []) = true) (h3 : (n != 0) = true) : ownB (J.mk 4 n s list names) = false := by
 simp_all [ownB, isNumB, namesOkB, List.length_pos_iff] <;> (cases h : namesB names <;> simp_all)
theorem ownx_30 {kind n : Int} {s : ByteArray} {list : List J} {names : List ByteArray} (h4 : (s.toList == []) = true) (h3 : (n != 0) = false) (hq : namesOkB (J.mk 4 n s list names) = false) : ownB (J.mk 4 n s list names) = false := by
 simp_all [ownB, isNumB, namesOkB, List.length_pos_iff] <;> (cases h : namesB names <;> simp_all)
theorem ownx_31 {kind n : Int} {s : ByteArray} {list : List J} {names : List ByteArray} (h4 : (s.toList == []) = true) (h3 : (n != 0) = false) (hq : namesOkB (J.mk 4 n s list names) = true) : ownB (J.mk 4 n s list names) = true := by
 simp_all [ownB, isNumB, namesOkB, List.length_pos_iff] <;> (cases h : namesB names <;> simp_all)
theorem ownx_32 {kind n : Int} {s : ByteArray} {list : List J} {names : List ByteArray} (h4 : (s.toList == []) = false) : ownB (J.mk 5 n s list names) = false := by
 simp_all [ownB, isNumB, namesOkB, List.length_pos_iff] <;> (cases h : namesB names <;> simp_all)
theorem ownx_33 {kind n : Int} {s : ByteArray} {list : List J} {names : List ByteArray} (h4 : (s.toList == []) = true) (h3 : (n != 0) = true) : ownB (J.mk 5 n s list names) = false := by
 simp_all [ownB, isNumB, namesOkB, List.length_pos_iff] <;> (cases h : namesB names <;> simp_all)
theorem ownx_34 {kind n : Int} {s : ByteArray} {list : List J} {names : List ByteArray} (h4 : (s.toList == []) = true) (h3 : (n != 0) = false) (hq : namesOkB (J.mk 5 n s list names) = false) : ownB (J.mk 5 n s list names) = false := by
 simp_all [ownB, isNumB, namesOkB, List.length_pos_iff] <;> (cases h : namesB names <;> simp_all)
theorem ownx_35 {kind n : Int} {s : ByteArray} {list : List J} {names : List ByteArray} (h4 : (s.toList == []) = true) (h3 : (n != 0) = false) (hq : namesOkB (J.mk 5 n s list names) = true) : ownB (J.mk 5 n s list names) = true := by
 simp_all [ownB, isNumB, namesOkB, List.length_pos_iff] <;> (cases h : namesB names <;> simp_all)
theorem ownx_36 {kind n : Int} {s : ByteArray} {list : List J} {names : List ByteArray} (h4 : (s.toList == []) = false) : ownB (J.mk 5 n s list names) = false := by
 simp_all [ownB, isNumB, namesOkB, List.length_pos_iff] <;> (cases h : namesB names <;> simp_all)
theorem ownx_37 {kind n : Int} {s : ByteArray} {list : List J} {names : List ByteArray} (h4 : (s.toList == []) = true) (h3 : (n != 0) = true) : ownB (J.mk 5 n s list names) = false := by
 simp_all [ownB, isNumB, namesOkB, List.length_pos_iff] <;> (cases h : namesB names <;> simp_all)
theorem ownx_38 {kind n : Int} {s : ByteArray} {list : List J} {names : List ByteArray} (h4 : (s.toList == []) = true) (h3 : (n != 0) = false) (hq : namesOkB (J.mk 5 n s list names) = false) : ownB (J.mk 5 n s list names) = false := by
 simp_all [ownB, isNumB, namesOkB, List.length_pos_iff] <;> (cases h : namesB names <;> simp_all)
theorem ownx_39 {kind n : Int} {s : ByteArray} {list : List J} {names : List ByteArray} (h4 : (s.toList == []) = true) (h3 : (n != 0) = false) (hq : namesOkB (J.mk 5 n s list names) = true) : ownB (J.mk 5 n s list names) = true := by
 simp_all [ownB, isNumB, namesOkB, List.length_pos_iff] <;> (cases h : namesB names <;> simp_all)
theorem ownx_40 {kind n : Int} {s : ByteArray} {list : List J} {names : List ByteArray} (h4 : (s.toList == []) = false) : ownB (J.mk 5 n s list names) = false := by
 simp_all [ownB, isNumB, namesOkB, List.length_pos_iff] <;> (cases h : namesB names <;> simp_all)
theorem ownx_41 {kind n : Int} {s : ByteArray} {list : List J} {names : List ByteArray} (h4 : (s.toList == []) = true) (h3 : (n != 0) = true) : ownB (J.mk 5 n s list names) = false := by
 simp_all [ownB, isNumB, namesOkB, List.length_pos_iff] <;> (cases h : namesB names <;> simp_all)
theorem ownx_42 {kind n : Int} {s : ByteArray} {list : List J} {names : List ByteArray} (h4 : (s.toList == []) = true) (h3 : (n != 0) = false) (hq : namesOkB (J.mk 5 n s list names) = false) : ownB (J.mk 5 n s list names) = false := by
 simp_all [ownB, isNumB, namesOkB, List.length_pos_iff] <;> (cases h : namesB names <;> simp_all)
theorem ownx_43 {kind n : Int} {s : ByteArray} {list : List J} {names : List ByteArray} (h4 : (s.toList == []) = true) (h3 : (n != 0) = false) (hq : namesOkB (J.mk 5 n s list names) = true) : ownB (J.mk 5 n s list names) = true := by
 simp_all [ownB, isNumB, namesOkB, List.length_pos_iff] <;> (cases h : namesB names <;> simp_all)
theorem ownx_44 {kind n : Int} {s : ByteArray} {list : List J} {names : List ByteArray} (e0 : (kind == 0) = false) (e1 : (kind == 1) = false) (e2 : (kind == 2) = false) (e3 : (kind == 3) = false) (e4 : (kind == 4) = false) (e5 : (kind == 5) = false) : ownB (J.mk kind n s list names) = false := by
 simp_all [ownB, isNumB, namesOkB, List.length_pos_iff] <;> (cases h : namesB names <;> simp_all)
set_option maxHeartbeats 4000000 in
set_option maxRecDepth 100000 in
theorem great_0 {m d : Nat} {A1 A2 : Option Addr} {c1 c2 : Nat} {n : Int} {s : ByteArray} {list : List J} {names : List ByteArray} {w : World} (hd : d + 1 ≤ 6) (hk : (tJ (m + 1)).K w (J.mk 0 n s list names) [.int .i64 0, .int .i64 n, .string s, .slice A1 list.length c1, .slice A2 names.length c2]) :
  Calls Tryd.prog 75 #[.agg #[.int .i64 0, .int .i64 n, .string s, .slice A1 list.length c1, .slice A2 names.length c2], .int .i64 ((d : Int) + 1)] w (GreatPost (d + 1) (J.mk 0 n s list names) w) := by
 have hs : s.size ≤ 9223372036854775807 := by obtain ⟨_, _, _, _, _, h, _⟩ := tJ_K.1 hk; exact h
 have hm1 : list.length ≤ 9223372036854775807 := by obtain ⟨_, _, _, _, _, _, h, _⟩ := tJ_K.1 hk; exact h.2.1
 have hm2 : names.length ≤ 9223372036854775807 := by obtain ⟨_, _, _, _, _, _, _, _, h⟩ := tJ_K.1 hk; exact h.1
 have HK := Hd.mk hk; clear hk
 have hd0 : ((d : Int) + 1 == 0) = false := by rw [beq_eq_false_iff_ne]; omega
 have hB := Hd.mk (below_alloc (Below.refl w.heap.size w) (Obj.cells #[.int .i64 0, .int .i64 n, .string s, .slice A1 list.length c1, .slice A2 names.length c2] 27))
 have b0 := Blk.new w #[.int .i64 0, .int .i64 n, .string s, .slice A1 list.length c1, .slice A2 names.length c2] 27
 go_enter Tryd.func75, Tryd.ntmps75
 cases h3 : (n != 0)
 case true =>
  have HE := Hd.mk (show sizeN (d + 1) (J.mk 0 n s list names) = 401 from sizeN_bad (ownx_0 (kind := 0) h3))
  go_wp2_with fail
  go_ret
  exact ⟨_, rfl, by rw [HE.out]; rfl, by omega, by omega, by exact hB.out⟩
 case false =>
  cases h4 : (s.toList == [])
  case false =>
   have HE := Hd.mk (show sizeN (d + 1) (J.mk 0 n s list names) = 401 from sizeN_bad (ownx_1 (kind := 0) h3 h4))
   go_wp2_with fail
   go_ret
   exact ⟨_, rfl, by rw [HE.out]; rfl, by omega, by omega, by exact hB.out⟩
  case true =>
   by_cases h1 : 0 < list.length
   ·skip
    have HE := Hd.mk (show sizeN (d + 1) (J.mk 0 n s list names) = 401 from sizeN_bad (ownx_2 (kind := 0) h3 h4 h1))
    go_wp2_with fail
    go_ret
    exact ⟨_, rfl, by rw [HE.out]; rfl, by omega, by omega, by exact hB.out⟩
   ·obtain rfl : list = [] := List.eq_nil_of_length_eq_zero (by omega)
    go_wp2_with fail
    refine (spec_l1Names (J.mk 0 n s ([] : List J) names) _ _ ((tJ (m + 1)).K_below hB.out HK.out)).mono ?_
    rintro e w2 ⟨rfl, hX⟩
    replace hB := Hd.mk (below_then hB.out hX)
    clear hX
    cases hq : namesOkB (J.mk 0 n s ([] : List J) names)
    case false =>
     have HE := Hd.mk (show sizeN (d + 1) (J.mk 0 n s ([] : List J) names) = 401 from sizeN_bad (ownx_3 (kind := 0) (list := []) h3 h4 hq))
     go_wp2_with fail
     go_ret
     exact ⟨_, rfl, by rw [HE.out]; rfl, by omega, by omega, by exact hB.out⟩
    case true =>
     have HE := Hd.mk (show sizeN (d + 1) (J.mk 0 n s ([] : List J) names) = 1 by
      rw [sizeN_ok (ownx_4 (kind := 0) (list := []) h3 h4 hq)]
      rfl)
     go_wp2_with fail
     go_ret
     exact ⟨_, rfl, by rw [HE.out]; rfl, by omega, by omega, by exact hB.out⟩
set_option maxHeartbeats 4000000 in
set_option maxRecDepth 100000 in
theorem great_1 {m d : Nat} {A1 A2 : Option Addr} {c1 c2 : Nat} {n : Int} {s : ByteArray} {list : List J} {names : List ByteArray} {w : World} (hd : d + 1 ≤ 6) (hk : (tJ (m + 1)).K w (J.mk 1 n s list names) [.int .i64 1, .int .i64 n, .string s, .slice A1 list.length c1, .slice A2 names.length c2]) :
  Calls Tryd.prog 75 #[.agg #[.int .i64 1, .int .i64 n, .string s, .slice A1 list.length c1, .slice A2 names.length c2], .int .i64 ((d : Int) + 1)] w (GreatPost (d + 1) (J.mk 1 n s list names) w) := by
 have hs : s.size ≤ 9223372036854775807 := by obtain ⟨_, _, _, _, _, h, _⟩ := tJ_K.1 hk; exact h
 have hm1 : list.length ≤ 9223372036854775807 := by obtain ⟨_, _, _, _, _, _, h, _⟩ := tJ_K.1 hk; exact h.2.1
 have hm2 : names.length ≤ 9223372036854775807 := by obtain ⟨_, _, _, _, _, _, _, _, h⟩ := tJ_K.1 hk; exact h.1
 have HK := Hd.mk hk; clear hk
 have hd0 : ((d : Int) + 1 == 0) = false := by rw [beq_eq_false_iff_ne]; omega
 have hB := Hd.mk (below_alloc (Below.refl w.heap.size w) (Obj.cells #[.int .i64 1, .int .i64 n, .string s, .slice A1 list.length c1, .slice A2 names.length c2] 27))
 have b0 := Blk.new w #[.int .i64 1, .int .i64 n, .string s, .slice A1 list.length c1, .slice A2 names.length c2] 27
 go_enter Tryd.func75, Tryd.ntmps75
 go_wp2_with fail
 refine (spec_l1In _ _ _ _).mono ?_
 rintro e w' ⟨rfl, rfl⟩
 cases h6 : inB n 0 1
 case false =>
  have HE := Hd.mk (show sizeN (d + 1) (J.mk 1 n s list names) = 401 from sizeN_bad (ownx_5 (kind := 0) h6))
  go_wp2_with fail
  go_ret
  exact ⟨_, rfl, by rw [HE.out]; rfl, by omega, by omega, by exact hB.out⟩
 case true =>
  cases h4 : (s.toList == [])
  case false =>
   have HE := Hd.mk (show sizeN (d + 1) (J.mk 1 n s list names) = 401 from sizeN_bad (ownx_6 (kind := 0) h6 h4))
   go_wp2_with fail
   go_ret
   exact ⟨_, rfl, by rw [HE.out]; rfl, by omega, by omega, by exact hB.out⟩
  case true =>
   by_cases h1 : 0 < list.length
   ·skip
    have HE := Hd.mk (show sizeN (d + 1) (J.mk 1 n s list names) = 401 from sizeN_bad (ownx_7 (kind := 0) h6 h4 h1))
    go_wp2_with fail
    go_ret
    exact ⟨_, rfl, by rw [HE.out]; rfl, by omega, by omega, by exact hB.out⟩
   ·obtain rfl : list = [] := List.eq_nil_of_length_eq_zero (by omega)
    go_wp2_with fail
    refine (spec_l1Names (J.mk 1 n s ([] : List J) names) _ _ ((tJ (m + 1)).K_below hB.out HK.out)).mono ?_
    rintro e w2 ⟨rfl, hX⟩
    replace hB := Hd.mk (below_then hB.out hX)
    clear hX
    cases hq : namesOkB (J.mk 1 n s ([] : List J) names)
    case false =>
     have HE := Hd.mk (show sizeN (d + 1) (J.mk 1 n s ([] : List J) names) = 401 from sizeN_bad (ownx_8 (kind := 0) (list := []) h6 h4 hq))
     go_wp2_with fail
     go_ret
     exact ⟨_, rfl, by rw [HE.out]; rfl, by omega, by omega, by exact hB.out⟩
    case true =>
     have HE := Hd.mk (show sizeN (d + 1) (J.mk 1 n s ([] : List J) names) = 1 by
      rw [sizeN_ok (ownx_9 (kind := 0) (list := []) h6 h4 hq)]
      rfl)
     go_wp2_with fail
     go_ret
     exact ⟨_, rfl, by rw [HE.out]; rfl, by omega, by omega, by exact hB.out⟩
set_option maxHeartbeats 4000000 in
set_option maxRecDepth 100000 in
theorem great_2 {m d : Nat} {A1 A2 : Option Addr} {c1 c2 : Nat} {n : Int} {s : ByteArray} {list : List J} {names : List ByteArray} {w : World} (hd : d + 1 ≤ 6) (hk : (tJ (m + 1)).K w (J.mk 2 n s list names) [.int .i64 2, .int .i64 n, .string s, .slice A1 list.length c1, .slice A2 names.length c2]) :
  Calls Tryd.prog 75 #[.agg #[.int .i64 2, .int .i64 n, .string s, .slice A1 list.length c1, .slice A2 names.length c2], .int .i64 ((d : Int) + 1)] w (GreatPost (d + 1) (J.mk 2 n s list names) w) := by
 have hs : s.size ≤ 9223372036854775807 := by obtain ⟨_, _, _, _, _, h, _⟩ := tJ_K.1 hk; exact h
 have hm1 : list.length ≤ 9223372036854775807 := by obtain ⟨_, _, _, _, _, _, h, _⟩ := tJ_K.1 hk; exact h.2.1
 have hm2 : names.length ≤ 9223372036854775807 := by obtain ⟨_, _, _, _, _, _, _, _, h⟩ := tJ_K.1 hk; exact h.1
 have HK := Hd.mk hk; clear hk
 have hd0 : ((d : Int) + 1 == 0) = false := by rw [beq_eq_false_iff_ne]; omega
 have hB := Hd.mk (below_alloc (Below.refl w.heap.size w) (Obj.cells #[.int .i64 2, .int .i64 n, .string s, .slice A1 list.length c1, .slice A2 names.length c2] 27))
 have b0 := Blk.new w #[.int .i64 2, .int .i64 n, .string s, .slice A1 list.length c1, .slice A2 names.length c2] 27
 go_enter Tryd.func75, Tryd.ntmps75
 go_wp2_with fail
 refine (spec_l1In _ _ _ _).mono ?_
 rintro e w' ⟨rfl, rfl⟩
 cases h6 : inB n (-1000000000) 1000000000
 case false =>
  have HE := Hd.mk (show sizeN (d + 1) (J.mk 2 n s list names) = 401 from sizeN_bad (ownx_10 (kind := 0) h6))
  go_wp2_with fail
  go_ret
  exact ⟨_, rfl, by rw [HE.out]; rfl, by omega, by omega, by exact hB.out⟩
 case true =>
  cases h4 : (s.toList == [])
  case false =>
   have HE := Hd.mk (show sizeN (d + 1) (J.mk 2 n s list names) = 401 from sizeN_bad (ownx_11 (kind := 0) h6 h4))
   go_wp2_with fail
   go_ret
   exact ⟨_, rfl, by rw [HE.out]; rfl, by omega, by omega, by exact hB.out⟩
  case true =>
   by_cases h1 : 0 < list.length
   ·skip
    have HE := Hd.mk (show sizeN (d + 1) (J.mk 2 n s list names) = 401 from sizeN_bad (ownx_12 (kind := 0) h6 h4 h1))
    go_wp2_with fail
    go_ret
    exact ⟨_, rfl, by rw [HE.out]; rfl, by omega, by omega, by exact hB.out⟩
   ·obtain rfl : list = [] := List.eq_nil_of_length_eq_zero (by omega)
    go_wp2_with fail
    refine (spec_l1Names (J.mk 2 n s ([] : List J) names) _ _ ((tJ (m + 1)).K_below hB.out HK.out)).mono ?_
    rintro e w2 ⟨rfl, hX⟩
    replace hB := Hd.mk (below_then hB.out hX)
    clear hX
    cases hq : namesOkB (J.mk 2 n s ([] : List J) names)
    case false =>
     have HE := Hd.mk (show sizeN (d + 1) (J.mk 2 n s ([] : List J) names) = 401 from sizeN_bad (ownx_13 (kind := 0) (list := []) h6 h4 hq))
     go_wp2_with fail
     go_ret
     exact ⟨_, rfl, by rw [HE.out]; rfl, by omega, by omega, by exact hB.out⟩
    case true =>
     have HE := Hd.mk (show sizeN (d + 1) (J.mk 2 n s ([] : List J) names) = 1 by
      rw [sizeN_ok (ownx_14 (kind := 0) (list := []) h6 h4 hq)]
      rfl)
     go_wp2_with fail
     go_ret
     exact ⟨_, rfl, by rw [HE.out]; rfl, by omega, by omega, by exact hB.out⟩
set_option maxHeartbeats 4000000 in
set_option maxRecDepth 100000 in
theorem great_3 {m d : Nat} {A1 A2 : Option Addr} {c1 c2 : Nat} {n : Int} {s : ByteArray} {list : List J} {names : List ByteArray} {w : World} (hd : d + 1 ≤ 6) (hk : (tJ (m + 1)).K w (J.mk 3 n s list names) [.int .i64 3, .int .i64 n, .string s, .slice A1 list.length c1, .slice A2 names.length c2]) :
  Calls Tryd.prog 75 #[.agg #[.int .i64 3, .int .i64 n, .string s, .slice A1 list.length c1, .slice A2 names.length c2], .int .i64 ((d : Int) + 1)] w (GreatPost (d + 1) (J.mk 3 n s list names) w) := by
 have hs : s.size ≤ 9223372036854775807 := by obtain ⟨_, _, _, _, _, h, _⟩ := tJ_K.1 hk; exact h
 have hm1 : list.length ≤ 9223372036854775807 := by obtain ⟨_, _, _, _, _, _, h, _⟩ := tJ_K.1 hk; exact h.2.1
 have hm2 : names.length ≤ 9223372036854775807 := by obtain ⟨_, _, _, _, _, _, _, _, h⟩ := tJ_K.1 hk; exact h.1
 have HK := Hd.mk hk; clear hk
 have hd0 : ((d : Int) + 1 == 0) = false := by rw [beq_eq_false_iff_ne]; omega
 have hB := Hd.mk (below_alloc (Below.refl w.heap.size w) (Obj.cells #[.int .i64 3, .int .i64 n, .string s, .slice A1 list.length c1, .slice A2 names.length c2] 27))
 have b0 := Blk.new w #[.int .i64 3, .int .i64 n, .string s, .slice A1 list.length c1, .slice A2 names.length c2] 27
 go_enter Tryd.func75, Tryd.ntmps75
 go_wp2_with fail
 refine (spec_l1Text _ _ hs).mono ?_
 rintro e w' ⟨rfl, rfl⟩
 cases h6 : textB s
 case false =>
  have HE := Hd.mk (show sizeN (d + 1) (J.mk 3 n s list names) = 401 from sizeN_bad (ownx_15 (kind := 0) h6))
  go_wp2_with fail
  go_ret
  exact ⟨_, rfl, by rw [HE.out]; rfl, by omega, by omega, by exact hB.out⟩
 case true =>
  cases h3 : (n != 0)
  case true =>
   have HE := Hd.mk (show sizeN (d + 1) (J.mk 3 n s list names) = 401 from sizeN_bad (ownx_16 (kind := 0) h6 h3))
   go_wp2_with fail
   go_ret
   exact ⟨_, rfl, by rw [HE.out]; rfl, by omega, by omega, by exact hB.out⟩
  case false =>
   by_cases h1 : 0 < list.length
   ·skip
    have HE := Hd.mk (show sizeN (d + 1) (J.mk 3 n s list names) = 401 from sizeN_bad (ownx_17 (kind := 0) h6 h3 h1))
    go_wp2_with fail
    go_ret
    exact ⟨_, rfl, by rw [HE.out]; rfl, by omega, by omega, by exact hB.out⟩
   ·obtain rfl : list = [] := List.eq_nil_of_length_eq_zero (by omega)
    go_wp2_with fail
    refine (spec_l1Names (J.mk 3 n s ([] : List J) names) _ _ ((tJ (m + 1)).K_below hB.out HK.out)).mono ?_
    rintro e w2 ⟨rfl, hX⟩
    replace hB := Hd.mk (below_then hB.out hX)
    clear hX
    cases hq : namesOkB (J.mk 3 n s ([] : List J) names)
    case false =>
     have HE := Hd.mk (show sizeN (d + 1) (J.mk 3 n s ([] : List J) names) = 401 from sizeN_bad (ownx_18 (kind := 0) (list := []) h6 h3 hq))
     go_wp2_with fail
     go_ret
     exact ⟨_, rfl, by rw [HE.out]; rfl, by omega, by omega, by exact hB.out⟩
    case true =>
     have HE := Hd.mk (show sizeN (d + 1) (J.mk 3 n s ([] : List J) names) = 1 by
      rw [sizeN_ok (ownx_19 (kind := 0) (list := []) h6 h3 hq)]
      rfl)
     go_wp2_with fail
     go_ret
     exact ⟨_, rfl, by rw [HE.out]; rfl, by omega, by omega, by exact hB.out⟩
set_option maxHeartbeats 4000000 in
set_option maxRecDepth 100000 in
theorem great_4 {m d : Nat} (ih : GreatC m) {A1 A2 : Option Addr} {c1 c2 : Nat} {n : Int} {s : ByteArray} {list : List J} {names : List ByteArray} {w : World} (hd : d + 1 ≤ 6) (hk : (tJ (m + 1)).K w (J.mk 4 n s list names) [.int .i64 4, .int .i64 n, .string s, .slice A1 list.length c1, .slice A2 names.length c2]) :
  Calls Tryd.prog 75 #[.agg #[.int .i64 4, .int .i64 n, .string s, .slice A1 list.length c1, .slice A2 names.length c2], .int .i64 ((d : Int) + 1)] w (GreatPost (d + 1) (J.mk 4 n s list names) w) := by
 have hs : s.size ≤ 9223372036854775807 := by obtain ⟨_, _, _, _, _, h, _⟩ := tJ_K.1 hk; exact h
 have hm1 : list.length ≤ 9223372036854775807 := by obtain ⟨_, _, _, _, _, _, h, _⟩ := tJ_K.1 hk; exact h.2.1
 have hm2 : names.length ≤ 9223372036854775807 := by obtain ⟨_, _, _, _, _, _, _, _, h⟩ := tJ_K.1 hk; exact h.1
 have HK := Hd.mk hk; clear hk
 have hd0 : ((d : Int) + 1 == 0) = false := by rw [beq_eq_false_iff_ne]; omega
 have hB := Hd.mk (below_alloc (Below.refl w.heap.size w) (Obj.cells #[.int .i64 4, .int .i64 n, .string s, .slice A1 list.length c1, .slice A2 names.length c2] 27))
 have b0 := Blk.new w #[.int .i64 4, .int .i64 n, .string s, .slice A1 list.length c1, .slice A2 names.length c2] 27
 go_enter Tryd.func75, Tryd.ntmps75
 go_wp2_with fail
 go_loopw [6, 7] (fun v i wr => ∃ (k : Nat) (g : Int), k ≤ list.length ∧ i = .int .i64 k ∧ v = .int .i64 g ∧ Hd (GreatMid d list k g) ∧ Hd (Below w.heap.size w wr) ∧ Blk wr w.heap.size #[.int .i64 4, .int .i64 n, .string s, .slice A1 list.length c1, .slice A2 names.length c2] 27) (fun _ i _ => list.length - (intOf i).toNat)
 case atStart => exact ⟨0, 1, Nat.zero_le _, rfl, rfl, ⟨greatMid_start⟩, hB, b0⟩
 case round =>
  clear hB b0
  obtain ⟨k, g, hk, rfl, rfl, HG, hB, b0⟩ := hrel
  have hg1 := HG.out.1
  have hg2 := HG.out.2.1
  have f0 : wr.cell? ⟨w.heap.size, 0, none⟩ = some (.int .i64 4) := b0.cell 0 rfl
  have f1 : wr.cell? ⟨w.heap.size, 1, none⟩ = some (.int .i64 n) := b0.cell 1 rfl
  have f2 : wr.cell? ⟨w.heap.size, 2, none⟩ = some (.string s) := b0.cell 2 rfl
  have f3 : wr.cell? ⟨w.heap.size, 3, none⟩ = some (.slice A1 list.length c1) := b0.cell 3 rfl
  have f4 : wr.cell? ⟨w.heap.size, 4, none⟩ = some (.slice A2 names.length c2) := b0.cell 4 rfl
  by_cases hv : g ≤ 400
  ·by_cases hlt : k < list.length
   ·obtain ⟨_, _, _, _, he, _, ⟨_, hr1⟩, _⟩ := tJ_K.1 HK.out
    simp only [List.cons.injEq, Value.slice.injEq, and_true, true_and, J.kind_mk, J.n_mk, J.s_mk, J.list_mk, J.names_mk] at he
    obtain ⟨⟨rfl, rfl⟩, rfl, rfl⟩ := he
    obtain ⟨m, rfl⟩ : ∃ m1 : Nat, m = m1 + 1 := by
     cases m with
     | zero => obtain ⟨_, _, _, h, _⟩ := C_at hr1 (Below.refl _ _) k hlt; exact h.elim
     | succ m => exact ⟨m, rfl⟩
    obtain ⟨ad, A3, c3, A4, c4, rfl, x0, x1, x2, x3, x4, hs4, hr3, hr4⟩ := C_J_at hr1 hB.out k hlt
    simp only [J.list_mk] at x0 x1 x2 x3 x4
    have HK4 := Hd.mk (tJ_K.2 ⟨A3, c3, A4, c4, rfl, hs4, hr3, hr4⟩ : (tJ (m + 1)).K wr list[k] _)
    clear hr3 hr4 hr1
    go_wp2_with fail
    refine (ih list[k] _ d _ (by omega) HK4.out).mono ?_
    rintro e w2 ⟨g2, rfl, hg3, hg4, hg5, hX⟩
    have b02 := b0.below hX
    have hB2 := Hd.mk (below_then hB.out hX)
    have HN := Hd.mk (greatMid_step hlt HG.out hv hg3 hg4 hg5)
    have HG3 := Hd.mk hg3
    clear hX hg3
    go_wp2_with fail
    go_roundw
    case rel => exact ⟨k + 1, g + g2, by omega, by go_num, rfl, HN, hB2, b02⟩
    case measure => simp [intOf]; omega
   ·obtain rfl : k = list.length := by omega
    have HF := Hd.mk (greatMid_end HG.out (.inl rfl))
    cases h4 : (s.toList == [])
    case false =>
     have HE := Hd.mk (show sizeN (d + 1) (J.mk 4 n s list names) = 401 from sizeN_bad (ownx_20 (kind := 0) h4))
     go_wp2_with fail
     go_ret
     exact ⟨_, rfl, by rw [HE.out]; rfl, by omega, by omega, by exact hB.out⟩
    case true =>
     cases h3 : (n != 0)
     case true =>
      have HE := Hd.mk (show sizeN (d + 1) (J.mk 4 n s list names) = 401 from sizeN_bad (ownx_21 (kind := 0) h4 h3))
      go_wp2_with fail
      go_ret
      exact ⟨_, rfl, by rw [HE.out]; rfl, by omega, by omega, by exact hB.out⟩
     case false =>
      go_wp2_with fail
      refine (spec_l1Names (J.mk 4 n s list names) _ _ ((tJ (m + 1)).K_below hB.out HK.out)).mono ?_
      rintro e w2 ⟨rfl, hX⟩
      replace hB := Hd.mk (below_then hB.out hX)
      clear hX
      cases hq : namesOkB (J.mk 4 n s list names)
      case false =>
       have HE := Hd.mk (show sizeN (d + 1) (J.mk 4 n s list names) = 401 from sizeN_bad (ownx_22 (kind := 0) h4 h3 hq))
       go_wp2_with fail
       go_ret
       exact ⟨_, rfl, by rw [HE.out]; rfl, by omega, by omega, by exact hB.out⟩
      case true =>
       have HE := Hd.mk (show sizeN (d + 1) (J.mk 4 n s list names) = _ from sizeN_ok (ownx_23 (kind := 0) h4 h3 hq))
       go_wp2_with fail
       go_ret
       exact ⟨_, rfl, by rw [HE.out]; exact HF.out, by omega, by omega, by exact hB.out⟩
  ·have HF := Hd.mk (greatMid_end HG.out (.inr (by omega)))
   by_cases hlt : k < list.length
   ·skip
    cases h4 : (s.toList == [])
    case false =>
     have HE := Hd.mk (show sizeN (d + 1) (J.mk 4 n s list names) = 401 from sizeN_bad (ownx_24 (kind := 0) h4))
     go_wp2_with fail
     go_ret
     exact ⟨_, rfl, by rw [HE.out]; rfl, by omega, by omega, by exact hB.out⟩
    case true =>
     cases h3 : (n != 0)
     case true =>
      have HE := Hd.mk (show sizeN (d + 1) (J.mk 4 n s list names) = 401 from sizeN_bad (ownx_25 (kind := 0) h4 h3))
      go_wp2_with fail
      go_ret
      exact ⟨_, rfl, by rw [HE.out]; rfl, by omega, by omega, by exact hB.out⟩
     case false =>
      go_wp2_with fail
      refine (spec_l1Names (J.mk 4 n s list names) _ _ ((tJ (m + 1)).K_below hB.out HK.out)).mono ?_
      rintro e w2 ⟨rfl, hX⟩
      replace hB := Hd.mk (below_then hB.out hX)
      clear hX
      cases hq : namesOkB (J.mk 4 n s list names)
      case false =>
       have HE := Hd.mk (show sizeN (d + 1) (J.mk 4 n s list names) = 401 from sizeN_bad (ownx_26 (kind := 0) h4 h3 hq))
       go_wp2_with fail
       go_ret
       exact ⟨_, rfl, by rw [HE.out]; rfl, by omega, by omega, by exact hB.out⟩
      case true =>
       have HE := Hd.mk (show sizeN (d + 1) (J.mk 4 n s list names) = _ from sizeN_ok (ownx_27 (kind := 0) h4 h3 hq))
       go_wp2_with fail
       go_ret
       exact ⟨_, rfl, by rw [HE.out]; exact HF.out, by omega, by omega, by exact hB.out⟩
   ·obtain rfl : k = list.length := by omega
    cases h4 : (s.toList == [])
    case false =>
     have HE := Hd.mk (show sizeN (d + 1) (J.mk 4 n s list names) = 401 from sizeN_bad (ownx_28 (kind := 0) h4))
     go_wp2_with fail
     go_ret
     exact ⟨_, rfl, by rw [HE.out]; rfl, by omega, by omega, by exact hB.out⟩
    case true =>
     cases h3 : (n != 0)
     case true =>
      have HE := Hd.mk (show sizeN (d + 1) (J.mk 4 n s list names) = 401 from sizeN_bad (ownx_29 (kind := 0) h4 h3))
      go_wp2_with fail
      go_ret
      exact ⟨_, rfl, by rw [HE.out]; rfl, by omega, by omega, by exact hB.out⟩
     case false =>
      go_wp2_with fail
      refine (spec_l1Names (J.mk 4 n s list names) _ _ ((tJ (m + 1)).K_below hB.out HK.out)).mono ?_
      rintro e w2 ⟨rfl, hX⟩
      replace hB := Hd.mk (below_then hB.out hX)
      clear hX
      cases hq : namesOkB (J.mk 4 n s list names)
      case false =>
       have HE := Hd.mk (show sizeN (d + 1) (J.mk 4 n s list names) = 401 from sizeN_bad (ownx_30 (kind := 0) h4 h3 hq))
       go_wp2_with fail
       go_ret
       exact ⟨_, rfl, by rw [HE.out]; rfl, by omega, by omega, by exact hB.out⟩
      case true =>
       have HE := Hd.mk (show sizeN (d + 1) (J.mk 4 n s list names) = _ from sizeN_ok (ownx_31 (kind := 0) h4 h3 hq))
       go_wp2_with fail
       go_ret
       exact ⟨_, rfl, by rw [HE.out]; exact HF.out, by omega, by omega, by exact hB.out⟩
set_option maxHeartbeats 4000000 in
set_option maxRecDepth 100000 in
theorem great_5 {m d : Nat} (ih : GreatC m) {A1 A2 : Option Addr} {c1 c2 : Nat} {n : Int} {s : ByteArray} {list : List J} {names : List ByteArray} {w : World} (hd : d + 1 ≤ 6) (hk : (tJ (m + 1)).K w (J.mk 5 n s list names) [.int .i64 5, .int .i64 n, .string s, .slice A1 list.length c1, .slice A2 names.length c2]) :
  Calls Tryd.prog 75 #[.agg #[.int .i64 5, .int .i64 n, .string s, .slice A1 list.length c1, .slice A2 names.length c2], .int .i64 ((d : Int) + 1)] w (GreatPost (d + 1) (J.mk 5 n s list names) w) := by
 have hs : s.size ≤ 9223372036854775807 := by obtain ⟨_, _, _, _, _, h, _⟩ := tJ_K.1 hk; exact h
 have hm1 : list.length ≤ 9223372036854775807 := by obtain ⟨_, _, _, _, _, _, h, _⟩ := tJ_K.1 hk; exact h.2.1
 have hm2 : names.length ≤ 9223372036854775807 := by obtain ⟨_, _, _, _, _, _, _, _, h⟩ := tJ_K.1 hk; exact h.1
 have HK := Hd.mk hk; clear hk
 have hd0 : ((d : Int) + 1 == 0) = false := by rw [beq_eq_false_iff_ne]; omega
 have hB := Hd.mk (below_alloc (Below.refl w.heap.size w) (Obj.cells #[.int .i64 5, .int .i64 n, .string s, .slice A1 list.length c1, .slice A2 names.length c2] 27))
 have b0 := Blk.new w #[.int .i64 5, .int .i64 n, .string s, .slice A1 list.length c1, .slice A2 names.length c2] 27
 go_enter Tryd.func75, Tryd.ntmps75
 go_wp2_with fail
 go_loopw [6, 7] (fun v i wr => ∃ (k : Nat) (g : Int), k ≤ list.length ∧ i = .int .i64 k ∧ v = .int .i64 g ∧ Hd (GreatMid d list k g) ∧ Hd (Below w.heap.size w wr) ∧ Blk wr w.heap.size #[.int .i64 5, .int .i64 n, .string s, .slice A1 list.length c1, .slice A2 names.length c2] 27) (fun _ i _ => list.length - (intOf i).toNat)
 case atStart => exact ⟨0, 1, Nat.zero_le _, rfl, rfl, ⟨greatMid_start⟩, hB, b0⟩
 case round =>
  clear hB b0
  obtain ⟨k, g, hk, rfl, rfl, HG, hB, b0⟩ := hrel
  have hg1 := HG.out.1
  have hg2 := HG.out.2.1
  have f0 : wr.cell? ⟨w.heap.size, 0, none⟩ = some (.int .i64 5) := b0.cell 0 rfl
  have f1 : wr.cell? ⟨w.heap.size, 1, none⟩ = some (.int .i64 n) := b0.cell 1 rfl
  have f2 : wr.cell? ⟨w.heap.size, 2, none⟩ = some (.string s) := b0.cell 2 rfl
  have f3 : wr.cell? ⟨w.heap.size, 3, none⟩ = some (.slice A1 list.length c1) := b0.cell 3 rfl
  have f4 : wr.cell? ⟨w.heap.size, 4, none⟩ = some (.slice A2 names.length c2) := b0.cell 4 rfl
  by_cases hv : g ≤ 400
  ·by_cases hlt : k < list.length
   ·obtain ⟨_, _, _, _, he, _, ⟨_, hr1⟩, _⟩ := tJ_K.1 HK.out
    simp only [List.cons.injEq, Value.slice.injEq, and_true, true_and, J.kind_mk, J.n_mk, J.s_mk, J.list_mk, J.names_mk] at he
    obtain ⟨⟨rfl, rfl⟩, rfl, rfl⟩ := he
    obtain ⟨m, rfl⟩ : ∃ m1 : Nat, m = m1 + 1 := by
     cases m with
     | zero => obtain ⟨_, _, _, h, _⟩ := C_at hr1 (Below.refl _ _) k hlt; exact h.elim
     | succ m => exact ⟨m, rfl⟩
    obtain ⟨ad, A3, c3, A4, c4, rfl, x0, x1, x2, x3, x4, hs4, hr3, hr4⟩ := C_J_at hr1 hB.out k hlt
    simp only [J.list_mk] at x0 x1 x2 x3 x4
    have HK4 := Hd.mk (tJ_K.2 ⟨A3, c3, A4, c4, rfl, hs4, hr3, hr4⟩ : (tJ (m + 1)).K wr list[k] _)
    clear hr3 hr4 hr1
    go_wp2_with fail
    refine (ih list[k] _ d _ (by omega) HK4.out).mono ?_
    rintro e w2 ⟨g2, rfl, hg3, hg4, hg5, hX⟩
    have b02 := b0.below hX
    have hB2 := Hd.mk (below_then hB.out hX)
    have HN := Hd.mk (greatMid_step hlt HG.out hv hg3 hg4 hg5)
    have HG3 := Hd.mk hg3
    clear hX hg3
    go_wp2_with fail
    go_roundw
    case rel => exact ⟨k + 1, g + g2, by omega, by go_num, rfl, HN, hB2, b02⟩
    case measure => simp [intOf]; omega
   ·obtain rfl : k = list.length := by omega
    have HF := Hd.mk (greatMid_end HG.out (.inl rfl))
    cases h4 : (s.toList == [])
    case false =>
     have HE := Hd.mk (show sizeN (d + 1) (J.mk 5 n s list names) = 401 from sizeN_bad (ownx_32 (kind := 0) h4))
     go_wp2_with fail
     go_ret
     exact ⟨_, rfl, by rw [HE.out]; rfl, by omega, by omega, by exact hB.out⟩
    case true =>
     cases h3 : (n != 0)
     case true =>
      have HE := Hd.mk (show sizeN (d + 1) (J.mk 5 n s list names) = 401 from sizeN_bad (ownx_33 (kind := 0) h4 h3))
      go_wp2_with fail
      go_ret
      exact ⟨_, rfl, by rw [HE.out]; rfl, by omega, by omega, by exact hB.out⟩
     case false =>
      go_wp2_with fail
      refine (spec_l1Names (J.mk 5 n s list names) _ _ ((tJ (m + 1)).K_below hB.out HK.out)).mono ?_
      rintro e w2 ⟨rfl, hX⟩
      replace hB := Hd.mk (below_then hB.out hX)
      clear hX
      cases hq : namesOkB (J.mk 5 n s list names)
      case false =>
       have HE := Hd.mk (show sizeN (d + 1) (J.mk 5 n s list names) = 401 from sizeN_bad (ownx_34 (kind := 0) h4 h3 hq))
       go_wp2_with fail
       go_ret
       exact ⟨_, rfl, by rw [HE.out]; rfl, by omega, by omega, by exact hB.out⟩
      case true =>
       have HE := Hd.mk (show sizeN (d + 1) (J.mk 5 n s list names) = _ from sizeN_ok (ownx_35 (kind := 0) h4 h3 hq))
       go_wp2_with fail
       go_ret
       exact ⟨_, rfl, by rw [HE.out]; exact HF.out, by omega, by omega, by exact hB.out⟩
  ·have HF := Hd.mk (greatMid_end HG.out (.inr (by omega)))
   by_cases hlt : k < list.length
   ·skip
    cases h4 : (s.toList == [])
    case false =>
     have HE := Hd.mk (show sizeN (d + 1) (J.mk 5 n s list names) = 401 from sizeN_bad (ownx_36 (kind := 0) h4))
     go_wp2_with fail
     go_ret
     exact ⟨_, rfl, by rw [HE.out]; rfl, by omega, by omega, by exact hB.out⟩
    case true =>
     cases h3 : (n != 0)
     case true =>
      have HE := Hd.mk (show sizeN (d + 1) (J.mk 5 n s list names) = 401 from sizeN_bad (ownx_37 (kind := 0) h4 h3))
      go_wp2_with fail
      go_ret
      exact ⟨_, rfl, by rw [HE.out]; rfl, by omega, by omega, by exact hB.out⟩
     case false =>
      go_wp2_with fail
      refine (spec_l1Names (J.mk 5 n s list names) _ _ ((tJ (m + 1)).K_below hB.out HK.out)).mono ?_
      rintro e w2 ⟨rfl, hX⟩
      replace hB := Hd.mk (below_then hB.out hX)
      clear hX
      cases hq : namesOkB (J.mk 5 n s list names)
      case false =>
       have HE := Hd.mk (show sizeN (d + 1) (J.mk 5 n s list names) = 401 from sizeN_bad (ownx_38 (kind := 0) h4 h3 hq))
       go_wp2_with fail
       go_ret
       exact ⟨_, rfl, by rw [HE.out]; rfl, by omega, by omega, by exact hB.out⟩
      case true =>
       have HE := Hd.mk (show sizeN (d + 1) (J.mk 5 n s list names) = _ from sizeN_ok (ownx_39 (kind := 0) h4 h3 hq))
       go_wp2_with fail
       go_ret
       exact ⟨_, rfl, by rw [HE.out]; exact HF.out, by omega, by omega, by exact hB.out⟩
   ·obtain rfl : k = list.length := by omega
    cases h4 : (s.toList == [])
    case false =>
     have HE := Hd.mk (show sizeN (d + 1) (J.mk 5 n s list names) = 401 from sizeN_bad (ownx_40 (kind := 0) h4))
     go_wp2_with fail
     go_ret
     exact ⟨_, rfl, by rw [HE.out]; rfl, by omega, by omega, by exact hB.out⟩
    case true =>
     cases h3 : (n != 0)
     case true =>
      have HE := Hd.mk (show sizeN (d + 1) (J.mk 5 n s list names) = 401 from sizeN_bad (ownx_41 (kind := 0) h4 h3))
      go_wp2_with fail
      go_ret
      exact ⟨_, rfl, by rw [HE.out]; rfl, by omega, by omega, by exact hB.out⟩
     case false =>
      go_wp2_with fail
      refine (spec_l1Names (J.mk 5 n s list names) _ _ ((tJ (m + 1)).K_below hB.out HK.out)).mono ?_
      rintro e w2 ⟨rfl, hX⟩
      replace hB := Hd.mk (below_then hB.out hX)
      clear hX
      cases hq : namesOkB (J.mk 5 n s list names)
      case false =>
       have HE := Hd.mk (show sizeN (d + 1) (J.mk 5 n s list names) = 401 from sizeN_bad (ownx_42 (kind := 0) h4 h3 hq))
       go_wp2_with fail
       go_ret
       exact ⟨_, rfl, by rw [HE.out]; rfl, by omega, by omega, by exact hB.out⟩
      case true =>
       have HE := Hd.mk (show sizeN (d + 1) (J.mk 5 n s list names) = _ from sizeN_ok (ownx_43 (kind := 0) h4 h3 hq))
       go_wp2_with fail
       go_ret
       exact ⟨_, rfl, by rw [HE.out]; exact HF.out, by omega, by omega, by exact hB.out⟩
set_option maxHeartbeats 4000000 in
set_option maxRecDepth 100000 in
theorem great_o {m d : Nat} {A1 A2 : Option Addr} {c1 c2 : Nat} {kind n : Int} {s : ByteArray} {list : List J} {names : List ByteArray} {w : World} (hd : d + 1 ≤ 6) (hk : (tJ (m + 1)).K w (J.mk kind n s list names) [.int .i64 kind, .int .i64 n, .string s, .slice A1 list.length c1, .slice A2 names.length c2]) (e0 : (kind == 0) = false) (e1 : (kind == 1) = false) (e2 : (kind == 2) = false) (e3 : (kind == 3) = false) (e4 : (kind == 4) = false) (e5 : (kind == 5) = false) :
  Calls Tryd.prog 75 #[.agg #[.int .i64 kind, .int .i64 n, .string s, .slice A1 list.length c1, .slice A2 names.length c2], .int .i64 ((d : Int) + 1)] w (GreatPost (d + 1) (J.mk kind n s list names) w) := by
 have hs : s.size ≤ 9223372036854775807 := by obtain ⟨_, _, _, _, _, h, _⟩ := tJ_K.1 hk; exact h
 have hm1 : list.length ≤ 9223372036854775807 := by obtain ⟨_, _, _, _, _, _, h, _⟩ := tJ_K.1 hk; exact h.2.1
 have hm2 : names.length ≤ 9223372036854775807 := by obtain ⟨_, _, _, _, _, _, _, _, h⟩ := tJ_K.1 hk; exact h.1
 have HK := Hd.mk hk; clear hk
 have hd0 : ((d : Int) + 1 == 0) = false := by rw [beq_eq_false_iff_ne]; omega
 have hB := Hd.mk (below_alloc (Below.refl w.heap.size w) (Obj.cells #[.int .i64 kind, .int .i64 n, .string s, .slice A1 list.length c1, .slice A2 names.length c2] 27))
 have b0 := Blk.new w #[.int .i64 kind, .int .i64 n, .string s, .slice A1 list.length c1, .slice A2 names.length c2] 27
 go_enter Tryd.func75, Tryd.ntmps75
 have HE := Hd.mk (show sizeN (d + 1) (J.mk kind n s list names) = 401 from sizeN_bad (ownx_44 e0 e1 e2 e3 e4 e5))
 go_wp2_with fail
 go_ret
 exact ⟨_, rfl, by rw [HE.out]; rfl, by omega, by omega, by exact hB.out⟩
theorem great_of {m : Nat} (ih : GreatC m) : GreatC (m + 1) := by
 intro x cs d w hd hk
 obtain ⟨A1, c1, A2, c2, rfl, hs, ⟨hc1, hr1⟩, hc2, hr2⟩ := tJ_K.1 hk
 clear hr1 hr2
 obtain ⟨kind, n, s, list, names⟩ := x
 cases d with
 | zero =>
  clear hk
  have hB := Hd.mk (below_alloc (Below.refl w.heap.size w) (Obj.cells #[.int .i64 kind, .int .i64 n, .string s, .slice A1 list.length c1, .slice A2 names.length c2] 27))
  go_enter Tryd.func75, Tryd.ntmps75
  go_wp2_with fail
  go_ret
  exact ⟨_, rfl, rfl, by omega, by omega, by exact hB.out⟩
 | succ d =>
  by_cases k0 : kind = 0
  ·subst k0; exact great_0 hd hk
  by_cases k1 : kind = 1
  ·subst k1; exact great_1 hd hk
  by_cases k2 : kind = 2
  ·subst k2; exact great_2 hd hk
  by_cases k3 : kind = 3
  ·subst k3; exact great_3 hd hk
  by_cases k4 : kind = 4
  ·subst k4; exact great_4 ih hd hk
  by_cases k5 : kind = 5
  ·subst k5; exact great_5 ih hd hk
  exact great_o hd hk (by simpa using k0) (by simpa using k1) (by simpa using k2) (by simpa using k3) (by simpa using k4) (by simpa using k5)
theorem great_all : ∀ m, GreatC m
 | 0 => fun _ _ _ _ _ hk => hk.elim
 | m + 1 => great_of (great_all m)
set_option maxRecDepth 100000 in
theorem spec_JsonOk {m : Nat} (x : J) (cs : List Value) (w : World) (hk : (tJ (m + 1)).K w x cs) :
  Calls Tryd.prog 45 #[.agg cs.toArray] w fun e w' => e = .returned (.bool (jsonOk x)) ∧ Below w.heap.size w w' := by
 have HK := Hd.mk hk
 obtain ⟨A1, c1, A2, c2, rfl, hs, ⟨hc1, hr1⟩, hc2, hr2⟩ := tJ_K.1 hk
 clear hk hr1 hr2
 have b0 := Blk.new w #[.int .i64 x.kind, .int .i64 x.n, .string x.s, .slice A1 x.list.length c1, .slice A2 x.names.length c2] 27
 have hB0 := Hd.mk (below_alloc (Below.refl w.heap.size w) (Obj.cells #[.int .i64 x.kind, .int .i64 x.n, .string x.s, .slice A1 x.list.length c1, .slice A2 x.names.length c2] 27))
 go_enter Tryd.func45, Tryd.ntmps45
 go_wp2_with fail
 apply calls_gen; intro W hW
 have hX : Below w.heap.size w W := by rw [hW]; exact hB0.out
 clear hW
 refine (great_all (m + 1) x _ 6 W (by omega) ((tJ (m + 1)).K_below hX HK.out)).mono ?_
 rintro e w1 ⟨g, rfl, h1, h2, h3, hX1⟩
 have hB := Hd.mk (below_then hX hX1); clear hX hX1
 have HE := Hd.mk (show jsonOk x = decide (g ≤ 400) by
  rw [jsonOk, ← h1]
  by_cases hg : g ≤ 400
  ·rw [if_pos hg]
  ·rw [if_neg hg]; simp [hg])
 clear h1
 go_wp2_with fail
 go_ret
 exact ⟨by rw [HE.out]; rfl, hB.out⟩
theorem Blk.new3 (w : World) (o o2 o3 : Obj) (cs : Array Value) (t : TypeId) : Blk ((((w.alloc o).alloc o2).alloc o3).alloc (.cells cs t)) (w.heap.size + 1 + 1 + 1) cs t := by simpa using Blk.new (((w.alloc o).alloc o2).alloc o3) cs t
theorem setAll_blk {g : Nat} {t : TypeId} : ∀ (us pre suf : List Value) (w : World), us.length = suf.length → Blk w g (pre ++ suf).toArray t → Blk (setAll w g pre.length us) g (pre ++ us).toArray t
 | [], pre, suf, w, hl, h => by
  obtain rfl : suf = [] := List.eq_nil_of_length_eq_zero hl.symm
  exact h
 | u :: us, pre, [], w, hl, h => by simp at hl
 | u :: us, pre, v :: suf, w, hl, h => by
  have h2 := h.set pre.length u
  have he : (pre ++ v :: suf).toArray.setIfInBounds pre.length u = ((pre ++ [u]) ++ suf).toArray := by simp
  rw [he] at h2
  have h3 := setAll_blk us (pre ++ [u]) suf _ (by simpa using hl) h2
  have e1 : (pre ++ [u]).length = pre.length + 1 := by simp
  have e2 : (pre ++ [u]) ++ us = pre ++ u :: us := by simp
  rw [e1, e2] at h3
  exact h3
theorem Blk.all {w : World} {g : Nat} {cs : Array Value} {t : TypeId} (h : Blk w g cs t) (us : List Value) (hl : us.length = cs.size) : Blk (setAll w g 0 us) g us.toArray t :=
 setAll_blk us [] cs.toList w (by simpa using hl) (by simpa using h)
def nullA : Array Value := #[.int .i64 0, .int .i64 0, .string ⟨#[]⟩, .slice none 0 0, .slice none 0 0]
def pick {α : Type} (b : Bool) (x y : α) : α := if b then x else y
def numOf (n : Int) : J := if jsonOk (J.mk 2 n ByteArray.empty [] []) then J.mk 2 n ByteArray.empty [] [] else J.null
def textOf (s : ByteArray) : J := if jsonOk (J.mk 3 0 s [] []) then J.mk 3 0 s [] [] else J.null
theorem cnt_numOf (m : Nat) (n : Int) : (bulkL (cnJ m) (numOf n).list : Int) + ((numOf n).names.length : Int) = 0 := by
 unfold numOf; split <;> rfl
theorem cnt_textOf (m : Nat) (s : ByteArray) : (bulkL (cnJ m) (textOf s).list : Int) + ((textOf s).names.length : Int) = 0 := by
 unfold textOf; split <;> rfl
theorem K_flat (m : Nat) (w : World) (k n : Int) (s : ByteArray) (hs : s.size ≤ 9223372036854775807) : (tJ (m + 1)).K w (J.mk k n s [] []) [.int .i64 k, .int .i64 n, .string s, .slice none 0 0, .slice none 0 0] :=
 tJ_K.2 ⟨_, _, _, _, rfl, hs, ⟨Nat.le_refl _, C_nil _⟩, Nat.le_refl _, C_nil _⟩
theorem O_flat (m : Nat) (w : World) (S : Nat → Prop) (k n : Int) (s : ByteArray) (hs : s.size ≤ 9223372036854775807) : (tJ (m + 1)).O w S (J.mk k n s [] []) [.int .i64 k, .int .i64 n, .string s, .slice none 0 0, .slice none 0 0] :=
 tJ_O.2 ⟨_, _, fun _ => False, fun _ => False, rfl, hs, R_nil, R_nil, fun _ h => h.elim, fun _ h => h.elim, fun _ h => h.elim⟩
end Go.Proofs.YtoaifagjdjgcbaaDoor.X
namespace Go.Proofs.YtoaifagjdjgcbaaDoor.X
open Go.RowKit
set_option linter.unusedVariables false
set_option linter.unusedSimpArgs false
open Ty
namespace Ty
variable {α : Type} {d : Ty α} {e : TypeId} {w w1 : World} {S S' : Nat → Prop} {xs : List α} {g n cap : Nat}
theorem R_of_parts {cur : Array Value} (hb : w.heap[g]? = some (.cells cur e (0, 0))) (hg : S g) (hn : xs.length ≤ cap) (hm : cap ≤ 9223372036854775807) (hc : cur.size = cap * d.sz) (T : Nat → Nat → Prop)
  (hT : ∀ i b, T i b → S b ∧ b ≠ g) (hd : ∀ i j b, T i b → T j b → i = j) (hO : ∀ i x, xs[i]? = some x → d.O w (T i) x ((cur.toList.drop (i * d.sz)).take d.sz)) : d.R e w S (.slice (some ⟨g, 0, none⟩) xs.length cap) xs := by
 classical
 refine R_block hb hg hn hm hc (fun b => Classical.epsilon (fun i => T i b)) (fun i x hx => d.O_mono (fun b hb => ⟨(hT i b hb).1, (hT i b hb).2, ?_⟩) (hO i x hx))
 exact hd _ _ b (Classical.epsilon_spec (p := fun i => T i b) ⟨i, hb⟩) hb
theorem R_parts (h : d.R e w S (.slice (some ⟨g, 0, none⟩) n cap) xs) : ∃ (cur : Array Value) (T : Nat → Nat → Prop), w.heap[g]? = some (.cells cur e (0, 0)) ∧ S g ∧ n = xs.length ∧ xs.length ≤ cap ∧ cap ≤ 9223372036854775807 ∧ cur.size = cap * d.sz ∧
  (∀ i b, T i b → S b ∧ b ≠ g ∧ b < w.heap.size) ∧ (∀ i j b, T i b → T j b → i = j) ∧ ∀ i x, xs[i]? = some x → d.O w (T i) x ((cur.toList.drop (i * d.sz)).take d.sz) := by
 obtain ⟨inner, f, ⟨hl, ho⟩, hv, hE⟩ := h
 rcases ho with ⟨he, _⟩ | ⟨g', cap', cur, he, _, hh, h1, h2, h3, h4⟩
 ·cases he
 ·injection he with e1 e2 e3
  injection e1 with e1
  injection e1 with e1 _ _
  subst e1; subst e2; subst e3
  simp only [maxLen] at h2
  refine ⟨cur, fun i b => S b ∧ b ≠ g ∧ f b = i ∧ b < w.heap.size, hh, hv g (by simp [Value.ownBlock]), rfl, h1, by omega, h3, fun i b hb => ⟨hb.1, hb.2.1, hb.2.2.2⟩, fun i j b hi hj => hi.2.2.1.symm.trans hj.2.2.1, fun i x hx => ?_⟩
  have hin : i < xs.length := (List.getElem?_eq_some_iff.1 hx).1
  have hle : i * d.sz + d.sz ≤ xs.length * d.sz := by
   have := Nat.mul_le_mul_right d.sz (show i + 1 ≤ xs.length by omega)
   rw [Nat.add_mul] at this
   omega
  have he : (inner.drop (i * d.sz)).take d.sz = (cur.toList.drop (i * d.sz)).take d.sz := by
   rw [← h4, List.drop_take, List.take_take, Nat.min_eq_left (by omega)]
  have := d.O_bound (hE i x hx)
  rw [he] at this
  exact d.O_mono (fun k hk => ⟨hk.1.1, fun e => hk.1.2.1 (by simp [Value.ownBlock, e]), hk.1.2.2, hk.2⟩) this
end Ty
def over {α : Type} (l : List α) (o : Nat) (vs : List α) : List α := l.take o ++ vs ++ l.drop (o + vs.length)
theorem over_length {α : Type} (l : List α) (o : Nat) (vs : List α) (h : o + vs.length ≤ l.length) : (over l o vs).length = l.length := by
 simp [over]; omega
theorem over_cons {α : Type} (l : List α) (o : Nat) (v : α) (vs : List α) (h : o < l.length) : over (l.set o v) (o + 1) vs = over l o (v :: vs) := by
 unfold over
 rw [List.take_set, List.drop_set]
 rw [if_pos (by omega)]
 rw [List.take_succ_eq_append_getElem h, List.set_append_right _ _ (by simp; omega)]
 have : o - (l.take o).length = 0 := by simp; omega
 rw [this]
 simp [List.length_cons, Nat.add_assoc, Nat.add_comm 1]
theorem heap_setCells {g : Nat} {e : TypeId} {fr : Nat × Nat} : ∀ (vs : List Value) (o : Nat) (w : World) (cur : Array Value), w.heap[g]? = some (.cells cur e fr) → o + vs.length ≤ cur.size →
  ∃ cur' : Array Value, (w.setCells g o vs).heap[g]? = some (.cells cur' e fr) ∧ cur'.toList = over cur.toList o vs
 | [], o, w, cur, h, hl => ⟨cur, h, by simp [over]⟩
 | v :: vs, o, w, cur, h, hl => by
  simp only [List.length_cons] at hl
  have h1 := heap_setCell_ h o v
  obtain ⟨cur', h2, h3⟩ := heap_setCells vs (o + 1) _ _ h1 (by simp; omega)
  refine ⟨cur', h2, ?_⟩
  rw [h3, Array.toList_setIfInBounds, over_cons _ _ _ _ (by simp; omega)]
theorem heap_setCells_ne {g : Nat} : ∀ (vs : List Value) (o : Nat) (w : World) (k : Nat), k ≠ g → (w.setCells g o vs).heap[k]? = w.heap[k]?
 | [], _, _, _, _ => rfl
 | v :: vs, o, w, k, h => (heap_setCells_ne vs (o + 1) _ k h).trans (Below.heap_setCell w _ v k h)
theorem setCells_size {g : Nat} : ∀ (vs : List Value) (o : Nat) (w : World), (w.setCells g o vs).heap.size = w.heap.size
 | [], _, _ => rfl
 | v :: vs, o, w => (setCells_size vs (o + 1) _).trans (by simp)
theorem setCells_fr {S : Nat → Prop} {w0 : World} {g : Nat} (hg : g < w0.heap.size → S g) : ∀ (us : List Value) (i : Nat) (w : World), Fr w0 w S → Fr w0 (w.setCells g i us) S
 | [], _, _, h => h
 | u :: us, i, w, h => setCells_fr hg us (i + 1) _ (h.setCell _ hg u)
theorem run_copy_wide {P : Program} (w : World) (dT sT ty elem : TypeId) (sz b o dLen dCap : Nat) (a : Addr) (sLen sCap : Nat) (cs : List Value)
  (hu : P.underlying dT = some (.slice elem)) (hs : (P.info? elem).map (·.size) = some sz) (hn : cs.length = Nat.min sLen dLen * sz)
  (hsrc : ∀ j v, cs[j]? = some v → w.cell? (a.add j) = some v) (hc : ∀ j, j < cs.length → (w.cell? ⟨b, o + j, none⟩).isSome = true) (hf : ∀ j, j < cs.length → w.frozen? ⟨b, o + j, none⟩ = false) (h1 : ∀ v ∈ cs, v.oneCell' = true) :
  (Builtin.copy_ #[dT, sT] ty #[.slice (some ⟨b, o, none⟩) dLen dCap, .slice (some a) sLen sCap]).run P w = .ok (goInt (Nat.min sLen dLen)) (w.setCells b o cs) := by
 have hl := run_loadCells_list (P := P) w a cs hsrc
 have hst := run_storeCells_cells (P := P) b o cs 0 w (by simpa using hc) (by simpa using hf) h1
 cases hq : P.info? elem with
 | none => simp [hq] at hs
 | some i =>
  have hi : i.size = sz := by simpa [hq] using hs
  simp [Builtin.copy_, run_underlying hu, Builtin.lenOf, Builtin.firstCells, sizeOf, typeInfo, hq, hi, ← hn, hl, hst]
theorem run_clear_wide {P : Program} (w : World) (t e ty : TypeId) (z : Value) (ht : P.underlying t = some (.slice e)) (hv : ∀ w, (zeroValue e).run P w = .ok z w) (h1 : ∀ u ∈ z.cells.toList, u.oneCell' = true) (b o n c : Nat) (hn : 0 < n)
  (hc : ∀ j, j < n * z.cells.size → (w.cell? ⟨b, o + j, none⟩).isSome = true) (hf : ∀ j, j < n * z.cells.size → w.frozen? ⟨b, o + j, none⟩ = false) :
  (Builtin.clear_ #[t] ty #[.slice (some ⟨b, o, none⟩) n c]).run P w = .ok (.tuple #[]) (w.setCells b o (Builtin.zeroCells z.cells n).toList) := by
 have hl : (Builtin.zeroCells z.cells n).toList.length = n * z.cells.size := by simp [Builtin.zeroCells, Nat.mul_comm]
 have hm : ∀ v ∈ (Builtin.zeroCells z.cells n).toList, v.oneCell' = true := by
  intro v hv'
  simp only [Builtin.zeroCells, Array.toList_map, List.mem_map, Array.toList_range, List.mem_range] at hv'
  obtain ⟨i, hi, rfl⟩ := hv'
  have hp : 0 < z.cells.size := by
   rcases Nat.eq_zero_or_pos z.cells.size with h | h
   ·rw [h] at hi; omega
   ·exact h
  rw [getElem!_pos z.cells _ (Nat.mod_lt i hp)]
  exact h1 _ (by simp)
 have hst := run_storeCells_cells (P := P) b o (Builtin.zeroCells z.cells n).toList 0 w (by rw [hl]; simpa using hc) (by rw [hl]; simpa using hf) hm
 simp only [Nat.add_zero] at hst
 obtain ⟨m, rfl⟩ : ∃ m, n = m + 1 := ⟨n - 1, by omega⟩
 simp [Builtin.clear_, run_underlying ht, hv, hst]
theorem R_empty {α : Type} (d : Ty α) (e : TypeId) (W : World) : d.R e (W.alloc (.cells #[] e)) (fun k => W.heap.size ≤ k) (.slice (some ⟨W.heap.size, 0, none⟩) 0 0) [] :=
 R_block (xs := []) (cap := 0) (heap_alloc_new W _) (Nat.le_refl _) (Nat.le_refl _) (by omega) (by simp) (fun _ => 0) (fun i x h => by simp at h)
end Go.Proofs.YtoaifagjdjgcbaaDoor.X
namespace Go.Proofs.YtoaifagjdjgcbaaDoor.X
open Go.RowKit Go.Sort
set_option linter.unusedVariables false
set_option linter.unusedSimpArgs false
open Ty
def idxF {α : Type} (p : α → Bool) (l : List α) : Int := if l.findIdx p < l.length then (l.findIdx p : Int) else -1
theorem idxF_found {α : Type} (p : α → Bool) (l : List α) (k : Nat) (hk : k < l.length) (h : (l.take k).all (fun x => !p x) = true) (hp : p l[k] = true) : idxF p l = k := by
 have : l.findIdx p = k := by
  rw [List.findIdx_eq hk]
  refine ⟨hp, fun j hj => ?_⟩
  rw [List.all_eq_true] at h
  have := h l[j] (by rw [List.mem_take_iff_getElem]; exact ⟨j, by omega, rfl⟩)
  simpa using this
 unfold idxF
 rw [this, if_pos hk]
theorem idxF_none {α : Type} (p : α → Bool) (l : List α) (h : l.all (fun x => !p x) = true) : idxF p l = -1 := by
 have : l.findIdx p = l.length := by
  rw [List.findIdx_eq_length]
  intro x hx
  rw [List.all_eq_true] at h
  simpa using h x hx
 unfold idxF
 rw [if_neg (by omega)]
def rowAt (l : List Row) (n : Int) : Int := idxF (fun r => r.id == n) l
def rowDrop (l : List Row) (n : Int) : List Row := l.eraseIdx (l.findIdx (fun r => r.id == n))
theorem erase_step {α : Type} (l : List α) (k i : Nat) (hi : i < l.length) : (l.take (i + 1)).eraseIdx k = if i = k then (l.take i).eraseIdx k else (l.take i).eraseIdx k ++ [l[i]] := by
 have hl : (l.take i).length = i := by simp; omega
 rw [List.take_succ_eq_append_getElem hi]
 rcases Nat.lt_trichotomy k i with h | h | h
 ·rw [if_neg (by omega), List.eraseIdx_append_of_lt_length (by omega)]
 ·subst h
  rw [if_pos rfl, List.eraseIdx_append_of_length_le (by omega), hl, Nat.sub_self, List.eraseIdx_of_length_le (l := l.take k) (by omega)]
  simp
 ·rw [if_neg (by omega), List.eraseIdx_append_of_length_le (by omega), hl, List.eraseIdx_of_length_le (l := [l[i]]) (by simp; omega), List.eraseIdx_of_length_le (l := l.take i) (by omega)]
theorem idxF_ne {α : Type} (p : α → Bool) (l : List α) (i : Nat) (hi : i < l.length) : ((i : Int) != idxF p l) = !decide (i = l.findIdx p) := by
 unfold idxF
 by_cases h : i = l.findIdx p
 ·rw [if_pos (by omega), ← h]; simp
 ·have e : decide (i = l.findIdx p) = false := by simp [h]
  rw [e]
  split
  ·simp; omega
  ·simp
theorem bulkL_erase {α : Type} (b : α → Nat) (l : List α) (k : Nat) : bulkL b (l.eraseIdx k) ≤ bulkL b l := by
 rw [List.eraseIdx_eq_take_drop_succ, bulkL_append]
 have h1 := bulkL_append b (l.take (k + 1)) (l.drop (k + 1))
 rw [List.take_append_drop] at h1
 rcases Nat.lt_or_ge k l.length with h | h
 ·rw [bulkL_take b l k h] at h1; omega
 ·rw [List.take_of_length_le (Nat.le_succ_of_le h)] at h1
  rw [List.take_of_length_le h]; omega
theorem bulk_rowDrop (l : List Row) (n : Int) : bulkRowS (rowDrop l n) ≤ bulkRowS l := by
 have h1 := bulkL_erase bulkRow l (l.findIdx (fun r => r.id == n))
 have h2 := List.length_eraseIdx_le l (l.findIdx (fun r => r.id == n))
 unfold rowDrop bulkRowS
 omega
theorem idxF_cases {α : Type} (p : α → Bool) (l : List α) : (idxF p l = -1 ∧ l.findIdx p = l.length) ∨ (idxF p l = (l.findIdx p : Int) ∧ l.findIdx p < l.length) := by
 unfold idxF
 by_cases h : l.findIdx p < l.length
 ·exact .inr ⟨if_pos h, h⟩
 ·have := List.findIdx_le_length (xs := l) (p := p)
  exact .inl ⟨if_neg h, by omega⟩
theorem over_get {α : Type} (l : List α) (o : Nat) (vs : List α) (h : o + vs.length ≤ l.length) (k : Nat) : (over l o vs)[k]? = if o ≤ k ∧ k < o + vs.length then vs[k - o]? else l[k]? := by
 unfold over
 have h1 : (l.take o).length = o := by simp; omega
 rcases Nat.lt_or_ge k o with hk | hk
 ·rw [if_neg (by omega), List.append_assoc, List.getElem?_append_left (by omega), List.getElem?_take, if_pos hk]
 ·rw [List.append_assoc, List.getElem?_append_right (by omega), h1]
  rcases Nat.lt_or_ge k (o + vs.length) with hk2 | hk2
  ·rw [if_pos ⟨hk, hk2⟩, List.getElem?_append_left (by omega)]
  ·rw [if_neg (by omega), List.getElem?_append_right (by omega), List.getElem?_drop]
   congr 1
   omega
theorem cut_eq {α : Type} (l m : List α) (a b n : Nat) (h : ∀ k, k < n → l[a + k]? = m[b + k]?) : (l.drop a).take n = (m.drop b).take n := by
 apply List.ext_getElem?
 intro k
 rw [List.getElem?_take, List.getElem?_take]
 split
 ·rw [List.getElem?_drop, List.getElem?_drop]
  exact h k (by assumption)
 ·rfl
theorem block_cell {w : World} {g : Nat} {cur : Array Value} {e : TypeId} {fr : Nat × Nat} (h : w.heap[g]? = some (.cells cur e fr)) (j : Nat) : w.cell? ⟨g, j, none⟩ = cur[j]? := by
 unfold World.cell?
 rw [show w.heap[(⟨g, j, none⟩ : Addr).block]? = some (.cells cur e fr) from h]
 simp
theorem block_frozen {w : World} {g : Nat} {cur : Array Value} {e : TypeId} (h : w.heap[g]? = some (.cells cur e (0, 0))) (j : Nat) : w.frozen? ⟨g, j, none⟩ = false := by
 simp [World.frozen?, h]
theorem parts_one {α : Type} {d : Ty α} {w : World} {cur : Array Value} {T : Nat → Nat → Prop} {xs : List α} (hO : ∀ i x, xs[i]? = some x → d.O w (T i) x ((cur.toList.drop (i * d.sz)).take d.sz)) {k : Nat} (hk : k < xs.length * d.sz) {u : Value} (hu : cur.toList[k]? = some u) : u.oneCell' = true := by
 have hsz : 0 < d.sz := by
  rcases Nat.eq_zero_or_pos d.sz with h | h
  ·rw [h] at hk; omega
  ·exact h
 have hi : k / d.sz < xs.length := Nat.div_lt_of_lt_mul (by rw [Nat.mul_comm]; exact hk)
 have h1 := hO (k / d.sz) xs[k / d.sz] (by simp [hi])
 refine d.K_one (d.O_K h1) u ?_
 rw [List.mem_iff_getElem?]
 refine ⟨k % d.sz, ?_⟩
 rw [List.getElem?_take, if_pos (Nat.mod_lt _ hsz), List.getElem?_drop, Nat.mul_comm, Nat.div_add_mod]
 exact hu
theorem zero1 (a b : Value) : (Builtin.zeroCells #[a, b] 1).toList = [a, b] := by
 simp [Builtin.zeroCells, show Array.range 2 = #[0, 1] from rfl]
end Go.Proofs.YtoaifagjdjgcbaaDoor.X
namespace Go.Proofs.YtoaifagjdjgcbaaDoor.X
open Go.RowKit Go.Sort Go.Lib
set_option linter.unusedVariables false
set_option linter.unusedSimpArgs false
open Ty
theorem step_copy_runJ {P : Program} {ops : Array Oper} {o : Oper} {a : Act} {w : World} {K : Act → World → Prop} {Q : Exit → Act → World → Prop} {E : Prop}
  (hg : o.guard = none) (d x : Operand) (dT sT : TypeId) (hop : o.op = Op.call { callee := Callee.builtin Builtin.copy, args := #[d, x], argTypes := #[dT, sT] })
  (v u : Value) (hd : a.eval d = v) (hx : a.eval x = u) {v' : Value} {w' : World} (hr : (Builtin.copy_ #[dT, sT] o.type #[v, u]).run P w = .ok v' w') (hK : K (a.put o.dst v') w') :
  if Region.wanted o (yielded ops a.tmps) = true then Oper.wp P o a w K Q else E := by
 have hw : Region.wanted o (yielded ops a.tmps) = true := by simp [Region.wanted, hg]
 rw [if_pos hw]
 unfold Oper.wp
 simp [execOp, hop, resolve, invoke, builtin, hd, hx, hr, Result.andThen]
 exact hK
theorem wpList_copy_runJ {P : Program} (w : World) {ops : Array Oper} {rest : List Oper} {o : Oper} {a : Act} {Q : Exit → Act → World → Prop} (hgd : o.guard = none) (d s : Operand) (t t' : TypeId)
  (ho : o.op = .call { callee := .builtin .copy, args := #[d, s], argTypes := #[t, t'] }) (v u : Value) (hd : a.eval d = v) (hs : a.eval s = u) {v' : Value} {w' : World}
  (hr : (Builtin.copy_ #[t, t'] o.type #[v, u]).run P w = .ok v' w') (h : wpList P ops Q rest (a.put o.dst v') w') : wpList P ops Q (o :: rest) a w :=
 wpList_plain hgd fun K hK => by
  unfold Oper.wp execOp
  simp only [ho, resolve, invoke, builtin, Sem.run_bind, Sem.run_pure, Result.andThen_ok, List.map_toArray, List.map_cons, List.map_nil, hd, hs, hr]
  exact hK _ _ h
end Go.Proofs.YtoaifagjdjgcbaaDoor.X
