/- What is proved here: the walk of the law FnExactIndexOf. Conditions: none. -/
import Derived.Test.YtkgefjjgjjmklaaDoorXIx
namespace Go.Proofs.YtkgefjjgjjmklaaDoor.X
open Go.RowKit Go.Sort
set_option linter.unusedVariables false
set_option linter.unusedSimpArgs false
set_option maxRecDepth 100000 in
theorem laws_FnExactIndexOf {w : World} (s : ByteArray) (hs : s.size ≤ 140737488351232) (hT : EnvT w) (hE : EnvE w) :
    Calls Tryd.prog 6 #[.string s] w fun e w' => e = .returned (.bool true) ∧ Below w.heap.size w w' := by
  have HT := Hd.mk hT; have HE := Hd.mk hE; clear hT hE
  go_enter Tryd.func6, Tryd.ntmps6
  by_cases hb : (1048576 : Int) < (s.size : Int)
  · go_wp2_with fail
    go_ret
    exact ⟨rfl, Below.refl _ _⟩
  · go_wp2_with fail
    refine (spec_IndexOf s w (by omega)).mono ?_
    rintro e w1 ⟨rfl, hX⟩
    have hB := Hd.mk hX; clear hX
    go_wp2_with fail
    refine (impl_IndexOf s w1 (by omega) (HT.out.below hB.out) (HE.out.below hB.out)).mono ?_
    rintro e w2 ⟨rfl, hX⟩
    have hB2 := Hd.mk (below_then hB.out hX); clear hX
    rw [idx_eq]
    go_wp2_with fail
    go_ret
    exact ⟨rfl, hB2.out⟩
end Go.Proofs.YtkgefjjgjjmklaaDoor.X
