/- What is proved here: the walk of the law FnExactQuote. Conditions: none. -/
import Derived.Test.YtkgefjjgjjmklaaDoorXEc
namespace Go.Proofs.YtkgefjjgjjmklaaDoor.X
open Go.RowKit Go.Sort
set_option linter.unusedVariables false
set_option linter.unusedSimpArgs false
set_option maxRecDepth 100000 in
theorem laws_FnExactQuote {w : World} (s : ByteArray) (hs : s.size ≤ 140737488351232) (hT : EnvT w) :
    Calls Tryd.prog 5 #[.string s] w fun e w' => e = .returned (.bool true) ∧ Below w.heap.size w w' := by
  have HT := Hd.mk hT; clear hT
  go_enter Tryd.func5, Tryd.ntmps5
  by_cases hb : (1048576 : Int) < (s.size : Int)
  · go_wp2_with fail
    go_ret
    exact ⟨rfl, Below.refl _ _⟩
  · go_wp2_with fail
    refine (spec_Quote s w hs).mono ?_
    rintro e w1 ⟨rfl, hX⟩
    have hB := Hd.mk hX; clear hX
    go_wp2_with fail
    refine (impl_Quote s w1 hs (HT.out.below hB.out)).mono ?_
    rintro e w2 ⟨rfl, hX⟩
    have hB2 := Hd.mk (below_then hB.out hX); clear hX
    go_wp2_with fail
    go_ret
    exact ⟨rfl, hB2.out⟩
end Go.Proofs.YtkgefjjgjjmklaaDoor.X
