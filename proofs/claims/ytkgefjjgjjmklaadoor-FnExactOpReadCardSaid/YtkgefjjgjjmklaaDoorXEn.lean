/- What is proved here: what the walks need of the library's own variables, and that it stays. Conditions: none. -/
import Derived.Test.YtkgefjjgjjmklaaDoorX0
import Derived.Test.YtkgefjjgjjmklaaDoorProg
import Derived.Lib.LaidTab
import Derived.Lib.ItoaNum
namespace Go.Proofs.YtkgefjjgjjmklaaDoor.X
open Go.RowKit Go.Lib
set_option linter.unusedVariables false
theorem var_below {P : Program} {w w1 : World} (h : Below w.heap.size w w1) {nm : String} {cs : Array Value} (hv : w.var? P nm = some cs) : w1.var? P nm = some cs := by
  unfold World.var? at hv ⊢
  cases hg : P.globalNamed nm with
  | none => simp [hg] at hv
  | some g =>
    simp only [hg, Option.bind_some] at hv ⊢
    have hlt : g < w.heap.size := by
      rcases Nat.lt_or_ge g w.heap.size with h' | h'
      · exact h'
      · rw [Array.getElem?_eq_none h'] at hv; simp at hv
    rw [h.block g hlt]
    exact hv
/-- The table of strconv.Itoa. -/
def EnvT (w : World) : Prop := TabIs Tryd.prog w "internal/strconv.uint64pow10" .u64 pow10Tab
/-- The errors of strconv.Atoi. -/
def EnvE (w : World) : Prop := (∃ tp p, w.var? Tryd.prog "strconv.ErrSyntax" = some #[.iface tp p]) ∧ ∃ tp p, w.var? Tryd.prog "strconv.ErrRange" = some #[.iface tp p]
/-- The variable of strings.Index. -/
def EnvM (w : World) : Prop := ∃ m, w.cell? ⟨2, 0, none⟩ = some (.int .i64 m)
theorem EnvT.below {w w1 : World} (h : EnvT w) (hb : Below w.heap.size w w1) : EnvT w1 := by
  unfold EnvT TabIs at h ⊢
  exact var_below hb h
theorem EnvE.below {w w1 : World} (h : EnvE w) (hb : Below w.heap.size w w1) : EnvE w1 := by
  obtain ⟨⟨t, p, h1⟩, t2, p2, h2⟩ := h
  exact ⟨⟨t, p, var_below hb h1⟩, t2, p2, var_below hb h2⟩
theorem EnvM.below {w w1 : World} (h : EnvM w) (hb : Below w.heap.size w w1) : EnvM w1 := by -- 2
  obtain ⟨m, h⟩ := h
  exact ⟨m, cell_below hb h⟩
theorem envT_mv {w w1 : World} (hb : Below w.heap.size w w1) (h : EnvT w) : EnvT w1 := h.below hb
theorem envE_mv {w w1 : World} (hb : Below w.heap.size w w1) (h : EnvE w) : EnvE w1 := h.below hb
theorem envM_mv {w w1 : World} (hb : Below w.heap.size w w1) (h : EnvM w) : EnvM w1 := h.below hb -- 2
end Go.Proofs.YtkgefjjgjjmklaaDoor.X
