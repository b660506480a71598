/- What is proved here: what the laws' marks make of rows. Conditions: none. -/
import Derived.Test.YtlkjpnlpankhpaaXM
namespace Go.Proofs.Ytlkjpnlpankhpaa.X
open Go.RowKit Go.Sort
set_option linter.unusedVariables false
set_option linter.unusedSimpArgs false
open Ty
theorem Blk.fr {w w1 : World} {g : Nat} {cs : Array Value} {t : TypeId} {S : Nat → Prop} (h : Blk w g cs t) (hf : Fr w w1 S) (hn : ¬ S g) : Blk w1 g cs t := (hf.block g h.lt hn).trans h
theorem Ty.H_sub {α : Type} {d : Ty α} {e : TypeId} {w : World} {S Si : Nat → Prop} {v : Value} {xs : List α} {i : Nat} {cs : List Value} (h : d.H e w S v xs i Si cs) : ∀ k, Si k → S k := by
  obtain ⟨hi, hl, inner, f, ho, hv, hc, hs, hE⟩ := h
  exact fun k hk => (hs k hk).1
theorem Ty.H_at {α : Type} {d : Ty α} {e : TypeId} {w : World} {S Si : Nat → Prop} {g n cap : Nat} {xs : List α} {i : Nat} {cs : List Value} (h : d.H e w S (.slice (some ⟨g, 0, none⟩) n cap) xs i Si cs) :
    g < w.heap.size ∧ (∀ j u, cs[j]? = some u → w.cell? ⟨g, i * d.sz + j, none⟩ = some u) ∧ ∀ j, w.frozen? ⟨g, j, none⟩ = false := by
  rcases Nat.eq_zero_or_pos d.sz with h0 | hsz
  · obtain ⟨hi, hl, inner, f, ho, hv, hc, hs, hE⟩ := h
    obtain ⟨-, ho⟩ := ho
    rcases ho with ⟨he, _⟩ | ⟨g', cap', cur, he, _, hh, _⟩
    · cases he
    · injection he with he _ _; injection he with he; injection he with he _ _; subst he
      refine ⟨(Array.getElem?_eq_some_iff.1 hh).1, fun j u hu => ?_, fun j => by simp [World.frozen?, hh]⟩
      have : cs = [] := List.eq_nil_of_length_eq_zero (by rw [hl, h0])
      subst this
      simp at hu
  · obtain ⟨g', cap', he, _, _, hg, hgl, _, hcell, hfz⟩ := H_cells h hsz
    injection he with he _ _; injection he with he; injection he with he _ _; subst he
    exact ⟨hgl, hcell, hfz⟩
def mkRow (k : Int) (r : Row) : Row := ⟨k, markL mkInt one (k + 1) r.cells⟩
def cnRow (r : Row) : Nat := 1 + r.cells.length
def mkRows (k : Int) (l : List Row) : List Row := markL mkRow cnRow k l
def cnRows (l : List Row) : Nat := bulkL cnRow l
end Go.Proofs.Ytlkjpnlpankhpaa.X
