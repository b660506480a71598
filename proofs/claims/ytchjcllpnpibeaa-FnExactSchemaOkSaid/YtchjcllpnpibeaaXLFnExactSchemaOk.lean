/- What is proved here: the law FnExactSchemaOk answers true. Conditions: none. -/
import Derived.Test.YtchjcllpnpibeaaXA
import Derived.Test.YtchjcllpnpibeaaX1
import Derived.StillTailTactics
import Derived.Deep.RegionWith
namespace Go.Proofs.Ytchjcllpnpibeaa.X
open Go.RowKit Go.Sort
set_option linter.unusedVariables false
set_option linter.unusedSimpArgs false
open Ty
set_option maxRecDepth 100000 in
theorem laws_FnExactSchemaOk (l : List Int) (cs : List Value) {w : World} (hk : (sl 3 int).K w l cs) :
    Calls Try.prog 4 #[.agg cs.toArray] w fun e w' => e = .returned (.bool true) ∧ Below w.heap.size w w' := by
  obtain ⟨A, c, rfl, hc, hr⟩ := hk
  have hm := hr.1
  have HC := Hd.mk hr; clear hr
  go_enter Try.func4, Try.ntmps4
  go_wp2_with fail
  refine (laws_szSchema _ _ _ _ _ (by omega) (by omega) hm).mono ?_
  rintro e w1 ⟨rfl, hB1⟩
  have hB : Below w.heap.size w w1 := below_then (by exact below_alloc (Below.refl _ _) _) hB1
  have c0 : w1.cell? ⟨w.heap.size, 0, none⟩ = some (.slice A l.length c) := cell_below hB1 (by simp [go_sem])
  have hs : w.heap.size + 1 ≤ w1.heap.size := by have := hB1.size; simpa using this
  by_cases hz : szR 1048576 l.length < 0
  · go_wp2_with fail
    go_ret
    exact ⟨rfl, hB⟩
  have hl : l.length ≤ 1048576 := (szR_le hz (by omega)).1
  have hB := Hd.mk hB; clear hB1
  go_wp2_with fail
  refine (laws_toSchema A c l _ (C_below HC.out hB.out) hl).mono ?_
  rintro e w2 ⟨v1, rfl, hR1, hB1⟩
  have hB2 := Hd.mk (below_then hB.out hB1)
  have c1 : w2.cell? ⟨w.heap.size, 0, none⟩ = some (.slice A l.length c) := cell_below hB1 c0
  obtain ⟨A1, k1, rfl, hk1, hC1⟩ := R_C hR1
  clear hR1 hB1 hk1
  go_wp2_with fail
  refine (spec_SchemaOk A1 k1 l _ hC1).mono ?_
  rintro e w3 ⟨rfl, hB1⟩
  have hB3 := Hd.mk (below_then hB2.out hB1)
  have c2 : w3.cell? ⟨w.heap.size, 0, none⟩ = some (.slice A l.length c) := cell_below hB1 c1
  clear hB1 c0 c1
  go_wp2_with fail
  refine (laws_toSchema A c l _ (C_below HC.out hB3.out) hl).mono ?_
  rintro e w4 ⟨v2, rfl, hR2, hB1⟩
  have hB4 := Hd.mk (below_then hB3.out hB1)
  have c3 : w4.cell? ⟨w.heap.size, 0, none⟩ = some (.slice A l.length c) := cell_below hB1 c2
  obtain ⟨A2, k2, rfl, hk2, hC2⟩ := R_C hR2
  clear hR2 hB1 hk2 c2
  go_wp2_with fail
  have hB4' := below_alloc hB4.out (.cells #[.slice A2 l.length k2] 28)
  refine (impl_SchemaOk A2 k2 l _ (C_below hC2 (below_alloc (Below.refl _ _) _))).mono ?_
  rintro e w5 ⟨rfl, hB1⟩
  have hB5 := Hd.mk (below_then hB4' hB1)
  have hB45 := Hd.mk (below_then (below_alloc (Below.refl w4.heap.size w4) _) hB1)
  have c4 : w5.cell? ⟨w.heap.size, 0, none⟩ = some (.slice A l.length c) := cell_below hB45.out c3
  have d4 : w5.cell? ⟨w4.heap.size, 0, none⟩ = some (.slice A2 l.length k2) := cell_below hB1 (by simp [go_sem])
  clear hB1 hB4'
  go_wp2_with fail
  have kc := cell_regrown c4
  have kd := cell_regrown d4
  refine region_mix [(true, 0), (true, 1), (false, 2), (false, 3), (true, 4)] (by kernel_rfl) (by kernel_rfl) (fun _ _ _ _ _ h => h) ?_
  repeat (refine mix_q rfl ?_; go_big_quiet_want; go_big_quiet_op; go_big_quiet_on; refine wpQuiet_nil ?_)
  refine mix_b rfl ?_ (by rfl)
  go_wp2_with fail
  refine (laws_toSchema A c l _ (C_below HC.out (below_drew hB5.out)) hl).mono ?_
  rintro e w7 ⟨v3, rfl, hR3, hB1⟩
  have hW57 := below_then (below_drew (Below.refl w5.heap.size w5)) hB1
  have hB7 := Hd.mk (below_then hB5.out hW57)
  have hB47 := Hd.mk (below_then hB45.out hW57)
  obtain ⟨A3, k3, rfl, hk3, hC3⟩ := R_C hR3
  go_wp2_with fail
  refine ⟨cls_below hW57, ?_⟩
  refine mix_b rfl ?_ (by rfl)
  go_wp2_with fail
  refine (laws_eqSchema A2 A3 k2 k3 l l _ (C_below hC2 hB47.out) hC3).mono ?_
  rintro e w8 ⟨rfl, hB1⟩
  have hB8 := below_then hB7.out hB1
  rw [show eqL l l = true by simp [eqL]]
  go_wp2_with fail
  refine ⟨cls_below (below_then hW57 hB1), ?_⟩
  repeat (refine mix_q rfl ?_; go_big_quiet_want; go_big_quiet_op; go_big_quiet_on; refine wpQuiet_nil ?_)
  refine mix_nil ?_
  go_wp2_with fail
  go_ret
  exact ⟨rfl, hB8⟩
end Go.Proofs.Ytchjcllpnpibeaa.X
