/- What is proved here: the law FnExactTextOf answers true. Conditions: none. -/
import Derived.Test.YtchjcllpnpibeaaXP
import Derived.Test.YtchjcllpnpibeaaXR
import Derived.StillTailTactics
import Derived.Deep.RegionWith
namespace Go.Proofs.Ytchjcllpnpibeaa.X
open Go.RowKit Go.Sort
set_option linter.unusedVariables false
set_option linter.unusedSimpArgs false
open Ty
set_option maxRecDepth 100000 in
theorem laws_FnExactTextOf {w : World} (s : ByteArray) (hq0 : s.size ≤ 140737488351232) :
    Calls Try.prog 17 #[.string s] w fun e w' => e = .returned (.bool true) ∧ Below w.heap.size w w' := by
  obtain ⟨m, hm⟩ : ∃ m : Nat, m = 0 := ⟨0, rfl⟩
  obtain ⟨y, hy⟩ : ∃ z, z = textOf s := ⟨_, rfl⟩
  have Hy := Hd.mk hy; clear hy
  go_enter Try.func17, Try.ntmps17
  by_cases hs0 : (1048576 : Int) < (s.size : Int)
  · go_wp2_with fail
    go_ret
    exact ⟨rfl, by (repeat (with_reducible refine below_alloc ?_ _)); exact Below.refl _ _⟩
  go_wp2_with fail
  apply calls_gen; intro W0 hW
  have hE : Below w.heap.size w W0 := by rw [hW]; (repeat (with_reducible refine below_alloc ?_ _)); exact Below.refl _ _
  clear hW
  have hB := Hd.mk hE; clear hE
  have hx_y : ((bulkL (cnJ m) y.list : Int) + (y.names.length : Int) : Int) ≤ 1099511627776 := by (rw [Hy.out]; have := cnt_textOf m s; omega)
  apply calls_gen; intro W1 hW
  have hE : Below W0.heap.size W0 W1 := by rw [hW]; (repeat (first | with_reducible refine below_alloc ?_ _ | with_reducible refine below_drew ?_)); exact Below.refl _ _
  clear hW
  replace hB := Hd.mk (below_then hB.out hE)
  clear hE
  refine (spec_TextOf m s hq0 _).mono ?_
  rintro e w2 ⟨cs_, rfl, hO, hX⟩
  have aw0 := Hd.mk hB.out.size
  replace hB := Hd.mk (below_then hB.out hX)
  clear hX
  rw [← Hy.out] at hO
  replace hO := Ty.O_bound _ hO
  obtain ⟨v_, u_, _, _, hcs, _, r1, r2, _⟩ := tJ_O.1 hO
  subst hcs
  obtain ⟨Aw0, cw0, hv_, hcw0, _⟩ := R_C r1
  subst hv_
  clear r1
  obtain ⟨Aw0B, cw0B, hv_, hcw0B, _⟩ := R_C r2
  subst hv_
  clear r2
  have w0 := Hd.mk (show (tJ (m + 1)).O w2 (rng W1.heap.size w2.heap.size) y [Value.int IntKind.i64 y.kind, Value.int IntKind.i64 y.n, Value.string y.s, Value.slice Aw0 y.list.length cw0, Value.slice Aw0B y.names.length cw0B] from hO); clear hO
  have ew0 := Hd.mk (Nat.le_refl w2.heap.size)
  go_wp2_with fail
  apply calls_gen; intro W3 hW
  have hE : Below w2.heap.size w2 W3 := by rw [hW]; (repeat (first | with_reducible refine below_alloc ?_ _ | with_reducible refine below_drew ?_)); exact Below.refl _ _
  have Bw0 := Hd.mk (show Blk W3 w2.heap.size #[Value.int IntKind.i64 y.kind, Value.int IntKind.i64 y.n, Value.string y.s, Value.slice Aw0 y.list.length cw0, Value.slice Aw0B y.names.length cw0B] 68 by rw [hW]; first | exact Blk.new _ _ _ | exact (Blk.new _ _ _).drew)
  have hz_ : w2.heap.size + 1 ≤ W3.heap.size := by rw [hW]; simp
  clear hW
  have dw0_Bw0 := Hd.mk ew0.out
  have aBw0 := Hd.mk hB.out.size
  replace w0 := Hd.mk (Ty.O_below w0.out hE)
  replace ew0 := Hd.mk (Nat.le_trans ew0.out hE.size)
  replace hB := Hd.mk (below_then hB.out hE)
  have eBw0 := Hd.mk hz_; clear hz_
  clear hE
  refine (impl_TextOf m s hq0 _).mono ?_
  rintro e w4 ⟨cs_, rfl, hO, hX⟩
  have dw0_g0 := Hd.mk ew0.out
  have dBw0_g0 := Hd.mk eBw0.out
  have ag0 := Hd.mk hB.out.size
  replace w0 := Hd.mk (Ty.O_below w0.out hX)
  replace ew0 := Hd.mk (Nat.le_trans ew0.out hX.size)
  replace Bw0 := Hd.mk (Bw0.out.below hX)
  replace eBw0 := Hd.mk (Nat.le_trans eBw0.out hX.size)
  replace hB := Hd.mk (below_then hB.out hX)
  clear hX
  rw [← Hy.out] at hO
  replace hO := Ty.O_bound _ hO
  obtain ⟨v_, u_, _, _, hcs, _, r1, r2, _⟩ := tJ_O.1 hO
  subst hcs
  obtain ⟨Ag0, cg0, hv_, hcg0, _⟩ := R_C r1
  subst hv_
  clear r1
  obtain ⟨Ag0B, cg0B, hv_, hcg0B, _⟩ := R_C r2
  subst hv_
  clear r2
  have g0 := Hd.mk (show (tJ (m + 1)).O w4 (rng W3.heap.size w4.heap.size) y [Value.int IntKind.i64 y.kind, Value.int IntKind.i64 y.n, Value.string y.s, Value.slice Ag0 y.list.length cg0, Value.slice Ag0B y.names.length cg0B] from hO); clear hO
  have eg0 := Hd.mk (Nat.le_refl w4.heap.size)
  have fBw00 : w4.cell? ⟨w2.heap.size, 0, none⟩ = some (Value.int IntKind.i64 y.kind) := Bw0.out.cell 0 rfl
  have fBw01 : w4.cell? ⟨w2.heap.size, 1, none⟩ = some (Value.int IntKind.i64 y.n) := Bw0.out.cell 1 rfl
  have fBw02 : w4.cell? ⟨w2.heap.size, 2, none⟩ = some (Value.string y.s) := Bw0.out.cell 2 rfl
  have fBw03 : w4.cell? ⟨w2.heap.size, 3, none⟩ = some (Value.slice Aw0 y.list.length cw0) := Bw0.out.cell 3 rfl
  have fBw04 : w4.cell? ⟨w2.heap.size, 4, none⟩ = some (Value.slice Aw0B y.names.length cw0B) := Bw0.out.cell 4 rfl
  have lfBw00 := fun o => cell_below (below_alloc (Below.refl _ _) o) fBw00
  have lfBw01 := fun o => cell_below (below_alloc (Below.refl _ _) o) fBw01
  have lfBw02 := fun o => cell_below (below_alloc (Below.refl _ _) o) fBw02
  have lfBw03 := fun o => cell_below (below_alloc (Below.refl _ _) o) fBw03
  have lfBw04 := fun o => cell_below (below_alloc (Below.refl _ _) o) fBw04
  go_wp2_with fail
  clear lfBw00 lfBw01 lfBw02 lfBw03 lfBw04
  clear fBw00 fBw01 fBw02 fBw03 fBw04
  apply calls_gen; intro W5 hW
  have hE : Below w4.heap.size w4 W5 := by rw [hW]; (repeat (first | with_reducible refine below_alloc ?_ _ | with_reducible refine below_drew ?_)); exact Below.refl _ _
  have Bg0 := Hd.mk (show Blk W5 w4.heap.size #[Value.int IntKind.i64 y.kind, Value.int IntKind.i64 y.n, Value.string y.s, Value.slice Ag0 y.list.length cg0, Value.slice Ag0B y.names.length cg0B] 68 by rw [hW]; first | exact Blk.new _ _ _ | exact (Blk.new _ _ _).drew)
  have hz_ : w4.heap.size + 1 ≤ W5.heap.size := by rw [hW]; simp
  clear hW
  have dw0_Bg0 := Hd.mk ew0.out
  have dBw0_Bg0 := Hd.mk eBw0.out
  have dg0_Bg0 := Hd.mk eg0.out
  have aBg0 := Hd.mk hB.out.size
  replace w0 := Hd.mk (Ty.O_below w0.out hE)
  replace ew0 := Hd.mk (Nat.le_trans ew0.out hE.size)
  replace Bw0 := Hd.mk (Bw0.out.below hE)
  replace eBw0 := Hd.mk (Nat.le_trans eBw0.out hE.size)
  replace g0 := Hd.mk (Ty.O_below g0.out hE)
  replace eg0 := Hd.mk (Nat.le_trans eg0.out hE.size)
  replace hB := Hd.mk (below_then hB.out hE)
  have eBg0 := Hd.mk hz_; clear hz_
  clear hE
  refine (laws_eqJson y y _ _ _ ((tJ (m + 1)).O_K g0.out) ((tJ (m + 1)).O_K w0.out)).mono ?_
  rintro e w6 ⟨rfl, hX⟩
  replace w0 := Hd.mk (Ty.O_below w0.out hX)
  replace ew0 := Hd.mk (Nat.le_trans ew0.out hX.size)
  replace Bw0 := Hd.mk (Bw0.out.below hX)
  replace eBw0 := Hd.mk (Nat.le_trans eBw0.out hX.size)
  replace g0 := Hd.mk (Ty.O_below g0.out hX)
  replace eg0 := Hd.mk (Nat.le_trans eg0.out hX.size)
  replace Bg0 := Hd.mk (Bg0.out.below hX)
  replace eBg0 := Hd.mk (Nat.le_trans eBg0.out hX.size)
  replace hB := Hd.mk (below_then hB.out hX)
  clear hX
  rw [eqv_self]
  have fBw00 : w6.cell? ⟨w2.heap.size, 0, none⟩ = some (Value.int IntKind.i64 y.kind) := Bw0.out.cell 0 rfl
  have fBw01 : w6.cell? ⟨w2.heap.size, 1, none⟩ = some (Value.int IntKind.i64 y.n) := Bw0.out.cell 1 rfl
  have fBw02 : w6.cell? ⟨w2.heap.size, 2, none⟩ = some (Value.string y.s) := Bw0.out.cell 2 rfl
  have fBw03 : w6.cell? ⟨w2.heap.size, 3, none⟩ = some (Value.slice Aw0 y.list.length cw0) := Bw0.out.cell 3 rfl
  have fBw04 : w6.cell? ⟨w2.heap.size, 4, none⟩ = some (Value.slice Aw0B y.names.length cw0B) := Bw0.out.cell 4 rfl
  have fBg00 : w6.cell? ⟨w4.heap.size, 0, none⟩ = some (Value.int IntKind.i64 y.kind) := Bg0.out.cell 0 rfl
  have fBg01 : w6.cell? ⟨w4.heap.size, 1, none⟩ = some (Value.int IntKind.i64 y.n) := Bg0.out.cell 1 rfl
  have fBg02 : w6.cell? ⟨w4.heap.size, 2, none⟩ = some (Value.string y.s) := Bg0.out.cell 2 rfl
  have fBg03 : w6.cell? ⟨w4.heap.size, 3, none⟩ = some (Value.slice Ag0 y.list.length cg0) := Bg0.out.cell 3 rfl
  have fBg04 : w6.cell? ⟨w4.heap.size, 4, none⟩ = some (Value.slice Ag0B y.names.length cg0B) := Bg0.out.cell 4 rfl
  go_wp2_with fail
  clear fBw00 fBw01 fBw02 fBw03 fBw04 fBg00 fBg01 fBg02 fBg03 fBg04
  apply calls_gen; intro W7 hW
  have hE : Below w6.heap.size w6 W7 := by rw [hW]; (repeat (first | with_reducible refine below_alloc ?_ _ | with_reducible refine below_drew ?_)); exact Below.refl _ _
  clear hW
  replace w0 := Hd.mk (Ty.O_below w0.out hE)
  replace ew0 := Hd.mk (Nat.le_trans ew0.out hE.size)
  replace Bw0 := Hd.mk (Bw0.out.below hE)
  replace eBw0 := Hd.mk (Nat.le_trans eBw0.out hE.size)
  replace g0 := Hd.mk (Ty.O_below g0.out hE)
  replace eg0 := Hd.mk (Nat.le_trans eg0.out hE.size)
  replace Bg0 := Hd.mk (Bg0.out.below hE)
  replace eBg0 := Hd.mk (Nat.le_trans eBg0.out hE.size)
  replace hB := Hd.mk (below_then hB.out hE)
  clear hE
  refine (laws_markJson _ _ (1) _ g0.out (by omega) (by omega)).mono ?_
  rintro e w8 ⟨rfl, hM, hX⟩
  have hsz_ := hX.size
  replace w0 := Hd.mk (Ty.O_fr w0.out hX (rng_off (Or.inl dw0_g0.out)))
  replace ew0 := Hd.mk (Nat.le_trans ew0.out hsz_)
  replace Bw0 := Hd.mk (Bw0.out.fr hX (rng_not (Or.inl dBw0_g0.out)))
  replace eBw0 := Hd.mk (Nat.le_trans eBw0.out hsz_)
  replace eg0 := Hd.mk (Nat.le_trans eg0.out hsz_)
  replace Bg0 := Hd.mk (Bg0.out.fr hX (rng_not (Or.inr dg0_Bg0.out)))
  replace eBg0 := Hd.mk (Nat.le_trans eBg0.out hsz_)
  replace hB := Hd.mk (below_rng hB.out hX ag0.out)
  clear hsz_
  clear hX
  replace g0 := Hd.mk hM; clear hM
  have hqp : (0 : Int) ≤ 1 + (bulkL (cnJ m) y.list : Int) + (y.names.length : Int) := by omega
  have fBw00 : w8.cell? ⟨w2.heap.size, 0, none⟩ = some (Value.int IntKind.i64 y.kind) := Bw0.out.cell 0 rfl
  have fBw01 : w8.cell? ⟨w2.heap.size, 1, none⟩ = some (Value.int IntKind.i64 y.n) := Bw0.out.cell 1 rfl
  have fBw02 : w8.cell? ⟨w2.heap.size, 2, none⟩ = some (Value.string y.s) := Bw0.out.cell 2 rfl
  have fBw03 : w8.cell? ⟨w2.heap.size, 3, none⟩ = some (Value.slice Aw0 y.list.length cw0) := Bw0.out.cell 3 rfl
  have fBw04 : w8.cell? ⟨w2.heap.size, 4, none⟩ = some (Value.slice Aw0B y.names.length cw0B) := Bw0.out.cell 4 rfl
  have fBg00 : w8.cell? ⟨w4.heap.size, 0, none⟩ = some (Value.int IntKind.i64 y.kind) := Bg0.out.cell 0 rfl
  have fBg01 : w8.cell? ⟨w4.heap.size, 1, none⟩ = some (Value.int IntKind.i64 y.n) := Bg0.out.cell 1 rfl
  have fBg02 : w8.cell? ⟨w4.heap.size, 2, none⟩ = some (Value.string y.s) := Bg0.out.cell 2 rfl
  have fBg03 : w8.cell? ⟨w4.heap.size, 3, none⟩ = some (Value.slice Ag0 y.list.length cg0) := Bg0.out.cell 3 rfl
  have fBg04 : w8.cell? ⟨w4.heap.size, 4, none⟩ = some (Value.slice Ag0B y.names.length cg0B) := Bg0.out.cell 4 rfl
  go_wp2_with fail
  clear fBw00 fBw01 fBw02 fBw03 fBw04 fBg00 fBg01 fBg02 fBg03 fBg04
  apply calls_gen; intro W9 hW
  have hE : Below w8.heap.size w8 W9 := by rw [hW]; (repeat (first | with_reducible refine below_alloc ?_ _ | with_reducible refine below_drew ?_)); exact Below.refl _ _
  clear hW
  replace w0 := Hd.mk (Ty.O_below w0.out hE)
  replace ew0 := Hd.mk (Nat.le_trans ew0.out hE.size)
  replace Bw0 := Hd.mk (Bw0.out.below hE)
  replace eBw0 := Hd.mk (Nat.le_trans eBw0.out hE.size)
  replace g0 := Hd.mk (Ty.O_below g0.out hE)
  replace eg0 := Hd.mk (Nat.le_trans eg0.out hE.size)
  replace Bg0 := Hd.mk (Bg0.out.below hE)
  replace eBg0 := Hd.mk (Nat.le_trans eBg0.out hE.size)
  replace hB := Hd.mk (below_then hB.out hE)
  clear hE
  refine (laws_heldJson y _ 1 _ ((tJ (m + 1)).O_K g0.out) (by omega) (by omega)).mono ?_
  rintro e w10 ⟨rfl, hX⟩
  replace w0 := Hd.mk (Ty.O_below w0.out hX)
  replace ew0 := Hd.mk (Nat.le_trans ew0.out hX.size)
  replace Bw0 := Hd.mk (Bw0.out.below hX)
  replace eBw0 := Hd.mk (Nat.le_trans eBw0.out hX.size)
  replace g0 := Hd.mk (Ty.O_below g0.out hX)
  replace eg0 := Hd.mk (Nat.le_trans eg0.out hX.size)
  replace Bg0 := Hd.mk (Bg0.out.below hX)
  replace eBg0 := Hd.mk (Nat.le_trans eBg0.out hX.size)
  replace hB := Hd.mk (below_then hB.out hX)
  clear hX
  have fBw00 : w10.cell? ⟨w2.heap.size, 0, none⟩ = some (Value.int IntKind.i64 y.kind) := Bw0.out.cell 0 rfl
  have fBw01 : w10.cell? ⟨w2.heap.size, 1, none⟩ = some (Value.int IntKind.i64 y.n) := Bw0.out.cell 1 rfl
  have fBw02 : w10.cell? ⟨w2.heap.size, 2, none⟩ = some (Value.string y.s) := Bw0.out.cell 2 rfl
  have fBw03 : w10.cell? ⟨w2.heap.size, 3, none⟩ = some (Value.slice Aw0 y.list.length cw0) := Bw0.out.cell 3 rfl
  have fBw04 : w10.cell? ⟨w2.heap.size, 4, none⟩ = some (Value.slice Aw0B y.names.length cw0B) := Bw0.out.cell 4 rfl
  have fBg00 : w10.cell? ⟨w4.heap.size, 0, none⟩ = some (Value.int IntKind.i64 y.kind) := Bg0.out.cell 0 rfl
  have fBg01 : w10.cell? ⟨w4.heap.size, 1, none⟩ = some (Value.int IntKind.i64 y.n) := Bg0.out.cell 1 rfl
  have fBg02 : w10.cell? ⟨w4.heap.size, 2, none⟩ = some (Value.string y.s) := Bg0.out.cell 2 rfl
  have fBg03 : w10.cell? ⟨w4.heap.size, 3, none⟩ = some (Value.slice Ag0 y.list.length cg0) := Bg0.out.cell 3 rfl
  have fBg04 : w10.cell? ⟨w4.heap.size, 4, none⟩ = some (Value.slice Ag0B y.names.length cg0B) := Bg0.out.cell 4 rfl
  go_wp2_with fail
  clear fBw00 fBw01 fBw02 fBw03 fBw04 fBg00 fBg01 fBg02 fBg03 fBg04
  apply calls_gen; intro W11 hW
  have hE : Below w10.heap.size w10 W11 := by rw [hW]; (repeat (first | with_reducible refine below_alloc ?_ _ | with_reducible refine below_drew ?_)); exact Below.refl _ _
  clear hW
  replace w0 := Hd.mk (Ty.O_below w0.out hE)
  replace ew0 := Hd.mk (Nat.le_trans ew0.out hE.size)
  replace Bw0 := Hd.mk (Bw0.out.below hE)
  replace eBw0 := Hd.mk (Nat.le_trans eBw0.out hE.size)
  replace g0 := Hd.mk (Ty.O_below g0.out hE)
  replace eg0 := Hd.mk (Nat.le_trans eg0.out hE.size)
  replace Bg0 := Hd.mk (Bg0.out.below hE)
  replace eBg0 := Hd.mk (Nat.le_trans eBg0.out hE.size)
  replace hB := Hd.mk (below_then hB.out hE)
  clear hE
  refine (impl_TextOf m s hq0 _).mono ?_
  rintro e w12 ⟨cs_, rfl, hO, hX⟩
  have dw0_h0 := Hd.mk ew0.out
  have dBw0_h0 := Hd.mk eBw0.out
  have dg0_h0 := Hd.mk eg0.out
  have dBg0_h0 := Hd.mk eBg0.out
  have ah0 := Hd.mk hB.out.size
  replace w0 := Hd.mk (Ty.O_below w0.out hX)
  replace ew0 := Hd.mk (Nat.le_trans ew0.out hX.size)
  replace Bw0 := Hd.mk (Bw0.out.below hX)
  replace eBw0 := Hd.mk (Nat.le_trans eBw0.out hX.size)
  replace g0 := Hd.mk (Ty.O_below g0.out hX)
  replace eg0 := Hd.mk (Nat.le_trans eg0.out hX.size)
  replace Bg0 := Hd.mk (Bg0.out.below hX)
  replace eBg0 := Hd.mk (Nat.le_trans eBg0.out hX.size)
  replace hB := Hd.mk (below_then hB.out hX)
  clear hX
  rw [← Hy.out] at hO
  replace hO := Ty.O_bound _ hO
  obtain ⟨v_, u_, _, _, hcs, _, r1, r2, _⟩ := tJ_O.1 hO
  subst hcs
  obtain ⟨Ah0, ch0, hv_, hch0, _⟩ := R_C r1
  subst hv_
  clear r1
  obtain ⟨Ah0B, ch0B, hv_, hch0B, _⟩ := R_C r2
  subst hv_
  clear r2
  have h0 := Hd.mk (show (tJ (m + 1)).O w12 (rng W11.heap.size w12.heap.size) y [Value.int IntKind.i64 y.kind, Value.int IntKind.i64 y.n, Value.string y.s, Value.slice Ah0 y.list.length ch0, Value.slice Ah0B y.names.length ch0B] from hO); clear hO
  have eh0 := Hd.mk (Nat.le_refl w12.heap.size)
  have fBw00 : w12.cell? ⟨w2.heap.size, 0, none⟩ = some (Value.int IntKind.i64 y.kind) := Bw0.out.cell 0 rfl
  have fBw01 : w12.cell? ⟨w2.heap.size, 1, none⟩ = some (Value.int IntKind.i64 y.n) := Bw0.out.cell 1 rfl
  have fBw02 : w12.cell? ⟨w2.heap.size, 2, none⟩ = some (Value.string y.s) := Bw0.out.cell 2 rfl
  have fBw03 : w12.cell? ⟨w2.heap.size, 3, none⟩ = some (Value.slice Aw0 y.list.length cw0) := Bw0.out.cell 3 rfl
  have fBw04 : w12.cell? ⟨w2.heap.size, 4, none⟩ = some (Value.slice Aw0B y.names.length cw0B) := Bw0.out.cell 4 rfl
  have fBg00 : w12.cell? ⟨w4.heap.size, 0, none⟩ = some (Value.int IntKind.i64 y.kind) := Bg0.out.cell 0 rfl
  have fBg01 : w12.cell? ⟨w4.heap.size, 1, none⟩ = some (Value.int IntKind.i64 y.n) := Bg0.out.cell 1 rfl
  have fBg02 : w12.cell? ⟨w4.heap.size, 2, none⟩ = some (Value.string y.s) := Bg0.out.cell 2 rfl
  have fBg03 : w12.cell? ⟨w4.heap.size, 3, none⟩ = some (Value.slice Ag0 y.list.length cg0) := Bg0.out.cell 3 rfl
  have fBg04 : w12.cell? ⟨w4.heap.size, 4, none⟩ = some (Value.slice Ag0B y.names.length cg0B) := Bg0.out.cell 4 rfl
  have lfBw00 := fun o => cell_below (below_alloc (Below.refl _ _) o) fBw00
  have lfBw01 := fun o => cell_below (below_alloc (Below.refl _ _) o) fBw01
  have lfBw02 := fun o => cell_below (below_alloc (Below.refl _ _) o) fBw02
  have lfBw03 := fun o => cell_below (below_alloc (Below.refl _ _) o) fBw03
  have lfBw04 := fun o => cell_below (below_alloc (Below.refl _ _) o) fBw04
  have lfBg00 := fun o => cell_below (below_alloc (Below.refl _ _) o) fBg00
  have lfBg01 := fun o => cell_below (below_alloc (Below.refl _ _) o) fBg01
  have lfBg02 := fun o => cell_below (below_alloc (Below.refl _ _) o) fBg02
  have lfBg03 := fun o => cell_below (below_alloc (Below.refl _ _) o) fBg03
  have lfBg04 := fun o => cell_below (below_alloc (Below.refl _ _) o) fBg04
  go_wp2_with fail
  clear lfBw00 lfBw01 lfBw02 lfBw03 lfBw04 lfBg00 lfBg01 lfBg02 lfBg03 lfBg04
  clear fBw00 fBw01 fBw02 fBw03 fBw04 fBg00 fBg01 fBg02 fBg03 fBg04
  apply calls_gen; intro W13 hW
  have hE : Below w12.heap.size w12 W13 := by rw [hW]; (repeat (first | with_reducible refine below_alloc ?_ _ | with_reducible refine below_drew ?_)); exact Below.refl _ _
  have Bh0 := Hd.mk (show Blk W13 w12.heap.size #[Value.int IntKind.i64 y.kind, Value.int IntKind.i64 y.n, Value.string y.s, Value.slice Ah0 y.list.length ch0, Value.slice Ah0B y.names.length ch0B] 68 by rw [hW]; first | exact Blk.new _ _ _ | exact (Blk.new _ _ _).drew)
  have hz_ : w12.heap.size + 1 ≤ W13.heap.size := by rw [hW]; simp
  clear hW
  have dw0_Bh0 := Hd.mk ew0.out
  have dBw0_Bh0 := Hd.mk eBw0.out
  have dg0_Bh0 := Hd.mk eg0.out
  have dBg0_Bh0 := Hd.mk eBg0.out
  have dh0_Bh0 := Hd.mk eh0.out
  have aBh0 := Hd.mk hB.out.size
  replace w0 := Hd.mk (Ty.O_below w0.out hE)
  replace ew0 := Hd.mk (Nat.le_trans ew0.out hE.size)
  replace Bw0 := Hd.mk (Bw0.out.below hE)
  replace eBw0 := Hd.mk (Nat.le_trans eBw0.out hE.size)
  replace g0 := Hd.mk (Ty.O_below g0.out hE)
  replace eg0 := Hd.mk (Nat.le_trans eg0.out hE.size)
  replace Bg0 := Hd.mk (Bg0.out.below hE)
  replace eBg0 := Hd.mk (Nat.le_trans eBg0.out hE.size)
  replace h0 := Hd.mk (Ty.O_below h0.out hE)
  replace eh0 := Hd.mk (Nat.le_trans eh0.out hE.size)
  replace hB := Hd.mk (below_then hB.out hE)
  have eBh0 := Hd.mk hz_; clear hz_
  clear hE
  refine (laws_eqJson y y _ _ _ ((tJ (m + 1)).O_K h0.out) ((tJ (m + 1)).O_K w0.out)).mono ?_
  rintro e w14 ⟨rfl, hX⟩
  replace w0 := Hd.mk (Ty.O_below w0.out hX)
  replace ew0 := Hd.mk (Nat.le_trans ew0.out hX.size)
  replace Bw0 := Hd.mk (Bw0.out.below hX)
  replace eBw0 := Hd.mk (Nat.le_trans eBw0.out hX.size)
  replace g0 := Hd.mk (Ty.O_below g0.out hX)
  replace eg0 := Hd.mk (Nat.le_trans eg0.out hX.size)
  replace Bg0 := Hd.mk (Bg0.out.below hX)
  replace eBg0 := Hd.mk (Nat.le_trans eBg0.out hX.size)
  replace h0 := Hd.mk (Ty.O_below h0.out hX)
  replace eh0 := Hd.mk (Nat.le_trans eh0.out hX.size)
  replace Bh0 := Hd.mk (Bh0.out.below hX)
  replace eBh0 := Hd.mk (Nat.le_trans eBh0.out hX.size)
  replace hB := Hd.mk (below_then hB.out hX)
  clear hX
  rw [eqv_self]
  have fBw00 : w14.cell? ⟨w2.heap.size, 0, none⟩ = some (Value.int IntKind.i64 y.kind) := Bw0.out.cell 0 rfl
  have fBw01 : w14.cell? ⟨w2.heap.size, 1, none⟩ = some (Value.int IntKind.i64 y.n) := Bw0.out.cell 1 rfl
  have fBw02 : w14.cell? ⟨w2.heap.size, 2, none⟩ = some (Value.string y.s) := Bw0.out.cell 2 rfl
  have fBw03 : w14.cell? ⟨w2.heap.size, 3, none⟩ = some (Value.slice Aw0 y.list.length cw0) := Bw0.out.cell 3 rfl
  have fBw04 : w14.cell? ⟨w2.heap.size, 4, none⟩ = some (Value.slice Aw0B y.names.length cw0B) := Bw0.out.cell 4 rfl
  have fBg00 : w14.cell? ⟨w4.heap.size, 0, none⟩ = some (Value.int IntKind.i64 y.kind) := Bg0.out.cell 0 rfl
  have fBg01 : w14.cell? ⟨w4.heap.size, 1, none⟩ = some (Value.int IntKind.i64 y.n) := Bg0.out.cell 1 rfl
  have fBg02 : w14.cell? ⟨w4.heap.size, 2, none⟩ = some (Value.string y.s) := Bg0.out.cell 2 rfl
  have fBg03 : w14.cell? ⟨w4.heap.size, 3, none⟩ = some (Value.slice Ag0 y.list.length cg0) := Bg0.out.cell 3 rfl
  have fBg04 : w14.cell? ⟨w4.heap.size, 4, none⟩ = some (Value.slice Ag0B y.names.length cg0B) := Bg0.out.cell 4 rfl
  have fBh00 : w14.cell? ⟨w12.heap.size, 0, none⟩ = some (Value.int IntKind.i64 y.kind) := Bh0.out.cell 0 rfl
  have fBh01 : w14.cell? ⟨w12.heap.size, 1, none⟩ = some (Value.int IntKind.i64 y.n) := Bh0.out.cell 1 rfl
  have fBh02 : w14.cell? ⟨w12.heap.size, 2, none⟩ = some (Value.string y.s) := Bh0.out.cell 2 rfl
  have fBh03 : w14.cell? ⟨w12.heap.size, 3, none⟩ = some (Value.slice Ah0 y.list.length ch0) := Bh0.out.cell 3 rfl
  have fBh04 : w14.cell? ⟨w12.heap.size, 4, none⟩ = some (Value.slice Ah0B y.names.length ch0B) := Bh0.out.cell 4 rfl
  go_wp2_with fail
  clear fBw00 fBw01 fBw02 fBw03 fBw04 fBg00 fBg01 fBg02 fBg03 fBg04 fBh00 fBh01 fBh02 fBh03 fBh04
  apply calls_gen; intro W15 hW
  have hE : Below w14.heap.size w14 W15 := by rw [hW]; (repeat (first | with_reducible refine below_alloc ?_ _ | with_reducible refine below_drew ?_)); exact Below.refl _ _
  clear hW
  replace w0 := Hd.mk (Ty.O_below w0.out hE)
  replace ew0 := Hd.mk (Nat.le_trans ew0.out hE.size)
  replace Bw0 := Hd.mk (Bw0.out.below hE)
  replace eBw0 := Hd.mk (Nat.le_trans eBw0.out hE.size)
  replace g0 := Hd.mk (Ty.O_below g0.out hE)
  replace eg0 := Hd.mk (Nat.le_trans eg0.out hE.size)
  replace Bg0 := Hd.mk (Bg0.out.below hE)
  replace eBg0 := Hd.mk (Nat.le_trans eBg0.out hE.size)
  replace h0 := Hd.mk (Ty.O_below h0.out hE)
  replace eh0 := Hd.mk (Nat.le_trans eh0.out hE.size)
  replace Bh0 := Hd.mk (Bh0.out.below hE)
  replace eBh0 := Hd.mk (Nat.le_trans eBh0.out hE.size)
  replace hB := Hd.mk (below_then hB.out hE)
  clear hE
  refine (laws_heldJson y _ 1 _ ((tJ (m + 1)).O_K g0.out) (by omega) (by omega)).mono ?_
  rintro e w16 ⟨rfl, hX⟩
  replace w0 := Hd.mk (Ty.O_below w0.out hX)
  replace ew0 := Hd.mk (Nat.le_trans ew0.out hX.size)
  replace Bw0 := Hd.mk (Bw0.out.below hX)
  replace eBw0 := Hd.mk (Nat.le_trans eBw0.out hX.size)
  replace g0 := Hd.mk (Ty.O_below g0.out hX)
  replace eg0 := Hd.mk (Nat.le_trans eg0.out hX.size)
  replace Bg0 := Hd.mk (Bg0.out.below hX)
  replace eBg0 := Hd.mk (Nat.le_trans eBg0.out hX.size)
  replace h0 := Hd.mk (Ty.O_below h0.out hX)
  replace eh0 := Hd.mk (Nat.le_trans eh0.out hX.size)
  replace Bh0 := Hd.mk (Bh0.out.below hX)
  replace eBh0 := Hd.mk (Nat.le_trans eBh0.out hX.size)
  replace hB := Hd.mk (below_then hB.out hX)
  clear hX
  have fBw00 : w16.cell? ⟨w2.heap.size, 0, none⟩ = some (Value.int IntKind.i64 y.kind) := Bw0.out.cell 0 rfl
  have fBw01 : w16.cell? ⟨w2.heap.size, 1, none⟩ = some (Value.int IntKind.i64 y.n) := Bw0.out.cell 1 rfl
  have fBw02 : w16.cell? ⟨w2.heap.size, 2, none⟩ = some (Value.string y.s) := Bw0.out.cell 2 rfl
  have fBw03 : w16.cell? ⟨w2.heap.size, 3, none⟩ = some (Value.slice Aw0 y.list.length cw0) := Bw0.out.cell 3 rfl
  have fBw04 : w16.cell? ⟨w2.heap.size, 4, none⟩ = some (Value.slice Aw0B y.names.length cw0B) := Bw0.out.cell 4 rfl
  have fBg00 : w16.cell? ⟨w4.heap.size, 0, none⟩ = some (Value.int IntKind.i64 y.kind) := Bg0.out.cell 0 rfl
  have fBg01 : w16.cell? ⟨w4.heap.size, 1, none⟩ = some (Value.int IntKind.i64 y.n) := Bg0.out.cell 1 rfl
  have fBg02 : w16.cell? ⟨w4.heap.size, 2, none⟩ = some (Value.string y.s) := Bg0.out.cell 2 rfl
  have fBg03 : w16.cell? ⟨w4.heap.size, 3, none⟩ = some (Value.slice Ag0 y.list.length cg0) := Bg0.out.cell 3 rfl
  have fBg04 : w16.cell? ⟨w4.heap.size, 4, none⟩ = some (Value.slice Ag0B y.names.length cg0B) := Bg0.out.cell 4 rfl
  have fBh00 : w16.cell? ⟨w12.heap.size, 0, none⟩ = some (Value.int IntKind.i64 y.kind) := Bh0.out.cell 0 rfl
  have fBh01 : w16.cell? ⟨w12.heap.size, 1, none⟩ = some (Value.int IntKind.i64 y.n) := Bh0.out.cell 1 rfl
  have fBh02 : w16.cell? ⟨w12.heap.size, 2, none⟩ = some (Value.string y.s) := Bh0.out.cell 2 rfl
  have fBh03 : w16.cell? ⟨w12.heap.size, 3, none⟩ = some (Value.slice Ah0 y.list.length ch0) := Bh0.out.cell 3 rfl
  have fBh04 : w16.cell? ⟨w12.heap.size, 4, none⟩ = some (Value.slice Ah0B y.names.length ch0B) := Bh0.out.cell 4 rfl
  go_wp2_with fail
  clear fBw00 fBw01 fBw02 fBw03 fBw04 fBg00 fBg01 fBg02 fBg03 fBg04 fBh00 fBh01 fBh02 fBh03 fBh04
  go_ret
  exact ⟨rfl, hB.out⟩
end Go.Proofs.Ytchjcllpnpibeaa.X
