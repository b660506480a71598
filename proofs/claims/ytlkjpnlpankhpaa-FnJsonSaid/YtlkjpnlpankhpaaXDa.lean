/- What is proved here: contracts of the cursor that draws. Conditions: none. -/
import Derived.Test.YtlkjpnlpankhpaaXU
import Derived.Test.YtlkjpnlpankhpaaXA
import Derived.Laws.BitsLemmas
namespace Go.Proofs.Ytlkjpnlpankhpaa.X
open Go.RowKit Go.Sort Go.Proofs.YtlkjpnlpankhpaaW.PrintLast
set_option linter.unusedVariables false
set_option linter.unusedSimpArgs false
open Ty
namespace Ty
def u8 : Ty Int := scal (Value.int .u8) (fun _ => rfl)
theorem C_u8_at {w W : World} {A : Option Addr} {l : List Int} (h : u8.C w A l) (hb : Below w.heap.size w W) (k : Nat) (hk : k < l.length) : ∃ ad, A = some ad ∧ ad.block < w.heap.size ∧ W.cell? (ad.add k) = some (.int .u8 l[k]) := by
  obtain ⟨ad, cs, rfl, _, h1, h2⟩ := C_get h 0 k hk
  have h1 : cs = [.int .u8 (l.getD k 0)] := h1
  have e : l.getD k 0 = l[k] := by simp [List.getD_eq_getElem?_getD, hk]
  rw [e] at h1
  have h3 : w.cell? (ad.add k) = some (.int .u8 l[k]) := by simpa [show u8.sz = 1 from rfl] using h2 0 (.int .u8 l[k]) (by rw [h1]; rfl)
  refine ⟨ad, rfl, ?_, cell_below hb h3⟩
  have h4 := World.block_lt_of_cell? w _ h3
  unfold Addr.add at h4
  split at h4 <;> exact h4
end Ty
theorem add_block_ (ad : Addr) (n : Nat) : (ad.add n).block = ad.block := by unfold Addr.add; split <;> rfl
theorem cell_far_ {w : World} {a p : Addr} (h : a.block ≠ p.block) (u : Value) : (w.setCell p u).cell? a = w.cell? a := by
  unfold World.cell?
  rw [Below.heap_setCell w p u a.block h]
theorem Fr.setg {w w1 : World} {g : Nat} (h : Fr w w1 (fun k => k = g)) (j : Nat) (u : Value) : Fr w (w1.setCell ⟨g, j, none⟩ u) (fun k => k = g) := h.setCell _ (fun _ => rfl) u
theorem and255 (x : Int) : 0 ≤ Go.bits .and .i64 x 255 ∧ Go.bits .and .i64 x 255 < 256 := by
  have h : (BitVec.ofInt IntKind.i64.bits x &&& BitVec.ofInt IntKind.i64.bits 255).toNat ≤ 255 := by
    rw [BitVec.toNat_and]
    exact Nat.le_trans Nat.and_le_right (by decide)
  unfold Go.bits
  simp only [IntKind.wrap_i64]
  omega
/-- A cursor at block g over bytes of W0. -/
def Cur (W0 w : World) (g : Nat) : Prop := ∃ A c i h, ∃ bs : List Int, Blk w g #[.slice A bs.length c, .int .i64 i, .int .i64 h] 104 ∧ u8.C W0 A bs ∧ 0 ≤ i ∧ i ≤ bs.length ∧ bs.length ≤ 1048576 ∧ W0.heap.size ≤ g ∧ Below W0.heap.size W0 w
theorem Cur.lt {W0 w : World} {g : Nat} (h : Cur W0 w g) : g < w.heap.size := by obtain ⟨_, _, _, _, _, b, _⟩ := h; exact b.lt
theorem Cur.ge {W0 w : World} {g : Nat} (h : Cur W0 w g) : W0.heap.size ≤ g := by obtain ⟨_, _, _, _, _, _, _, _, _, _, h, _⟩ := h; exact h
theorem Cur.below {W0 w w1 : World} {g : Nat} (h : Cur W0 w g) (hb : Below w.heap.size w w1) : Cur W0 w1 g := by
  obtain ⟨A, c, i, h, bs, b, r⟩ := h
  exact ⟨A, c, i, h, bs, b.below hb, r.1, r.2.1, r.2.2.1, r.2.2.2.1, r.2.2.2.2.1, below_then r.2.2.2.2.2 hb⟩
theorem Cur.fr {W0 w w1 : World} {g : Nat} {S : Nat → Prop} (h : Cur W0 w g) (hf : Fr w w1 S) (hg : ¬ S g) (hs : ∀ k, S k → W0.heap.size ≤ k) : Cur W0 w1 g := by
  obtain ⟨A, c, i, h, bs, b, r⟩ := h
  refine ⟨A, c, i, h, bs, (hf.block g b.lt hg).trans b, r.1, r.2.1, r.2.2.1, r.2.2.2.1, r.2.2.2.2.1, ?_⟩
  exact ((Fr.of_below r.2.2.2.2.2 S).then_ hf (fun k hk _ => hk)).below hs
set_option maxHeartbeats 4000000 in
set_option maxRecDepth 100000 in
theorem spec_l1New (A : Option Addr) (c : Nat) (bs : List Int) (W0 w : World) (hr : u8.C W0 A bs) (hl : bs.length ≤ 1048576) (hW : Below W0.heap.size W0 w) :
    Calls Try.prog 44 #[.slice A bs.length c] w fun e w' => ∃ g : Nat, e = .returned (.pointer (some ⟨g, 0, none⟩)) ∧ w.heap.size ≤ g ∧ Cur W0 w' g ∧ Below w.heap.size w w' := by
  have HC := Hd.mk hr; clear hr
  have HW := Hd.mk hW; clear hW
  go_enter Try.func44, Try.ntmps44
  go_wp2_with fail
  go_loopw [3, 4] (fun v i wr => ∃ (k : Nat) (x : Int), k ≤ bs.length ∧ i = .int .i64 k ∧ v = .int .i64 x ∧ Hd (Below w.heap.size w wr)) (fun _ i _ => bs.length - (intOf i).toNat)
  case atStart => exact ⟨0, _, Nat.zero_le _, rfl, rfl, ⟨Below.refl _ _⟩⟩
  case round =>
    obtain ⟨k, x, hk, rfl, rfl, hB⟩ := hrel
    by_cases hlt : k < bs.length
    · by_cases h4 : (k : Int) < 4000
      · have h4b : decide ((k : Int) < 4000) = true := decide_eq_true h4
        obtain ⟨ad, rfl, _, x0⟩ := C_u8_at HC.out (below_then HW.out hB.out) k hlt
        go_wp2_with fail
        go_roundw
        case rel => exact ⟨k + 1, _, by omega, by go_num, rfl, hB⟩
        case measure => simp [intOf]; omega
      · have h4b : decide ((k : Int) < 4000) = false := decide_eq_false h4
        have h0 : (0 : Int) ≤ bs.length := by omega
        go_wp2_with fail
        go_ret
        exact ⟨_, rfl, hB.out.size, ⟨A, c, 0, x, bs, Blk.new _ _ _, HC.out, Int.le_refl _, h0, hl, Nat.le_trans HW.out.size hB.out.size, below_alloc (below_then HW.out hB.out) _⟩, below_alloc hB.out _⟩
    · have h0 : (0 : Int) ≤ bs.length := by omega
      obtain rfl : k = bs.length := by omega
      go_wp2_with fail
      go_ret
      exact ⟨_, rfl, hB.out.size, ⟨A, c, 0, x, bs, Blk.new _ _ _, HC.out, Int.le_refl _, h0, hl, Nat.le_trans HW.out.size hB.out.size, below_alloc (below_then HW.out hB.out) _⟩, below_alloc hB.out _⟩
set_option maxHeartbeats 4000000 in
set_option maxRecDepth 100000 in
theorem spec_l1Byte (W0 w : World) (g : Nat) (hc : Cur W0 w g) :
    Calls Try.prog 108 #[.pointer (some ⟨g, 0, none⟩)] w fun e w' => ∃ x : Int, e = .returned (.int .i64 x) ∧ 0 ≤ x ∧ x < 256 ∧ Cur W0 w' g ∧ Fr w w' (fun k => k = g) := by
  obtain ⟨A, c, i, h, bs, b, hb, h0, h1, h2, h3, hW⟩ := hc
  have HC := Hd.mk hb; clear hb
  have HW := Hd.mk hW; clear hW
  have B := Hd.mk b
  have f0 := b.cell 0 rfl
  have f1 := b.cell 1 rfl
  have f2 := b.cell 2 rfl
  have fz := b.frozen
  clear b
  by_cases hlt : i < bs.length
  · obtain ⟨k, rfl⟩ := Int.eq_ofNat_of_zero_le h0
    have hk : k < bs.length := by omega
    obtain ⟨ad, rfl, hab, x0⟩ := C_u8_at HC.out HW.out k hk
    have x1 := fun u => (cell_far_ (w := w) (a := ad.add k) (p := ⟨g, 2, none⟩) (by rw [add_block_]; exact Nat.ne_of_lt (Nat.lt_of_lt_of_le hab h3)) u).trans x0
    clear x0
    go_enter Try.func108, Try.ntmps108
    go_wp2
    repeat (go_quiet (fail); try go_wp2)
    go_ret
    refine ⟨_, rfl, (and255 _).1, (and255 _).2, ⟨_, c, _, _, bs, (B.out.set 2 _).set 1 _, HC.out, ?_, ?_, h2, h3, ?_⟩, ?_⟩
    · first | omega | (unfold wrap64; omega)
    · first | omega | (unfold wrap64; omega)
    · exact ((Fr.of_below HW.out (fun k => k = g)).then_ (by repeat (first | with_reducible exact Fr.refl _ _ | with_reducible refine Fr.setg ?_ _ _ | with_reducible refine Fr.drew ?_ | with_reducible refine Fr.drewN ?_ _)) (fun k hk _ => hk)).below (fun k hk => by (try simp only at hk); omega)
    · exact Fr.setCell (S := fun k => k = g) (by repeat (first | with_reducible exact Fr.refl _ _ | with_reducible refine Fr.setg ?_ _ _ | with_reducible refine Fr.drew ?_ | with_reducible refine Fr.drewN ?_ _)) _ (fun _ => rfl) _
  · go_enter Try.func108, Try.ntmps108
    go_wp2
    repeat (go_quiet (fail); try go_wp2)
    go_ret
    refine ⟨_, rfl, (and255 _).1, (and255 _).2, ⟨A, c, i, _, bs, B.out.set 2 _, HC.out, h0, h1, h2, h3, ?_⟩, ?_⟩
    · exact ((Fr.of_below HW.out (fun k => k = g)).then_ (by repeat (first | with_reducible exact Fr.refl _ _ | with_reducible refine Fr.setg ?_ _ _ | with_reducible refine Fr.drew ?_ | with_reducible refine Fr.drewN ?_ _)) (fun k hk _ => hk)).below (fun k hk => by (try simp only at hk); omega)
    · exact (by repeat (first | with_reducible exact Fr.refl _ _ | with_reducible refine Fr.setg ?_ _ _ | with_reducible refine Fr.drew ?_ | with_reducible refine Fr.drewN ?_ _))
set_option maxHeartbeats 4000000 in
set_option maxRecDepth 100000 in
theorem spec_l1Below (n : Int) (W0 w : World) (g : Nat) (hc : Cur W0 w g) :
    Calls Try.prog 79 #[.pointer (some ⟨g, 0, none⟩), .int .i64 n] w fun e w' => ∃ x : Int, e = .returned (.int .i64 x) ∧ 0 ≤ x ∧ (0 < n → x < n) ∧ (n ≤ 0 → x = 0) ∧ Cur W0 w' g ∧ Fr w w' (fun k => k = g) := by
  have HC := Hd.mk hc; clear hc
  go_enter Try.func79, Try.ntmps79
  by_cases h0 : n ≤ 0
  · go_wp2_with fail
    go_ret
    exact ⟨0, rfl, Int.le_refl _, fun h => by omega, fun _ => rfl, HC.out, Fr.refl _ _⟩
  · have HN := Hd.mk (show 0 < n by omega)
    by_cases h1 : n ≤ 256
    · go_wp2_with fail
      refine (spec_l1Byte W0 w g HC.out).mono ?_
      rintro e w1 ⟨x, rfl, x0, x1, hC, hX⟩
      have HC1 := Hd.mk hC; have HX := Hd.mk hX; clear hC hX
      have hn0 : ¬ n = 0 := by omega
      go_wp2_with fail
      go_ret
      exact ⟨_, rfl, Int.emod_nonneg _ hn0, fun hp => Int.emod_lt_of_pos _ hp, fun h => by have := HN.out; omega, HC1.out, HX.out⟩
    · go_wp2_with fail
      refine (spec_l1Byte W0 w g HC.out).mono ?_
      rintro e w1 ⟨x, rfl, x0, x1, hC, hX⟩
      have HC1 := Hd.mk hC; have HX := Hd.mk hX; clear hC hX
      go_wp2_with fail
      refine (spec_l1Byte W0 w1 g HC1.out).mono ?_
      rintro e w2 ⟨y, rfl, y0, y1, hC, hX⟩
      have HC2 := Hd.mk hC; have HX2 := Hd.mk (HX.out.trans hX); clear hC hX
      go_wp2_with fail
      refine (spec_l1Byte W0 w2 g HC2.out).mono ?_
      rintro e w3 ⟨z, rfl, z0, z1, hC, hX⟩
      have HC3 := Hd.mk hC; have HX3 := Hd.mk (HX2.out.trans hX); clear hC hX
      go_wp2_with fail
      refine (spec_l1Byte W0 w3 g HC3.out).mono ?_
      rintro e w4 ⟨u, rfl, u0, u1, hC, hX⟩
      have HC4 := Hd.mk hC; have HX4 := Hd.mk (HX3.out.trans hX); clear hC hX
      have hn0 : ¬ n = 0 := by omega
      go_wp2_with fail
      go_ret
      exact ⟨_, rfl, Int.emod_nonneg _ hn0, fun hp => Int.emod_lt_of_pos _ hp, fun h => by have := HN.out; omega, HC4.out, HX4.out⟩
set_option maxRecDepth 100000 in
theorem spec_l1Once (n : Int) (W0 w : World) (g : Nat) (hc : Cur W0 w g) :
    Calls Try.prog 71 #[.pointer (some ⟨g, 0, none⟩), .int .i64 n] w fun e w' => ∃ x : Bool, e = .returned (.bool x) ∧ Cur W0 w' g ∧ Fr w w' (fun k => k = g) := by
  have HC := Hd.mk hc; clear hc
  go_enter Try.func71, Try.ntmps71
  go_wp2_with fail
  refine (spec_l1Below n W0 w g HC.out).mono ?_
  rintro e w1 ⟨x, rfl, x0, x1, _, hC, hX⟩
  have HC1 := Hd.mk hC; have HX := Hd.mk hX; clear hC hX
  go_wp2_with fail
  go_ret
  exact ⟨_, rfl, HC1.out, HX.out⟩
section
variable {P : Program} {ops : Array Oper} {Q : Exit → Act → World → Prop} {C : World → Prop} {ts : List Nat}
/-- A reader whose value is the same in every world of the class. -/
theorem mixT_see {i : Nat} {o : Oper} {r : MO} {a : Act} {w : World} (hi : ops.toList[i]? = some o) (hs : Region.wanted o (yielded ops a.tmps) = true) (v : Value) (hv : ∀ w', C w' → (execOp a.eval o).run P w' = .ok (.value v) w') (hC : C w) (h : wpList P ops (mixQ (fun a' _ => wpMixT P ops C Q ts r a' w) Q) [o] a w) : wpMixT P ops C Q ts (.q i r) a w := by
  refine mixT_q hi ?_
  simp only [wpQuiet]
  rw [if_pos hs]
  refine ⟨v, fun w' hw' => ?_, ?_⟩
  · unfold Oper.quietAt
    rw [hv w' hw']
    exact ⟨rfl, rfl⟩
  · simp only [wpList, hs, if_true] at h
    have h2 : Oper.wp P o a w (fun a' w' => wpMixT P ops C Q ts r a' w) Q := by
      rcases h with h | h
      · exact wp_of_mixQ (Oper.wp_mono (fun a' w' h' => h') h)
      · obtain ⟨a', w', h'⟩ := h.2
        exact h'.elim
    unfold Oper.wp at h2
    rw [hv w hC] at h2
    exact h2
/-- .. in every world. -/
theorem mixT_seeP {i : Nat} {o : Oper} {r : MO} {a : Act} {w : World} (hi : ops.toList[i]? = some o) (hs : Region.wanted o (yielded ops a.tmps) = true) (v : Value) (hv : ∀ w', (execOp a.eval o).run P w' = .ok (.value v) w') (h : wpList P ops (mixQ (fun a' _ => wpMixT P ops C Q ts r a' w) Q) [o] a w) : wpMixT P ops C Q ts (.p i r) a w := by
  refine mixT_p hi ?_
  simp only [wpQuiet]
  rw [if_pos hs]
  refine ⟨v, fun w' hw' => ?_, ?_⟩
  · unfold Oper.quietAt
    rw [hv w']
    exact ⟨rfl, rfl⟩
  · simp only [wpList, hs, if_true] at h
    have h2 : Oper.wp P o a w (fun a' w' => wpMixT P ops C Q ts r a' w) Q := by
      rcases h with h | h
      · exact wp_of_mixQ (Oper.wp_mono (fun a' w' h' => h') h)
      · obtain ⟨a', w', h'⟩ := h.2
        exact h'.elim
    unfold Oper.wp at h2
    rw [hv w] at h2
    exact h2
theorem region_mixC (C : World → Prop) {id : Nat} {a : Act} {w : World} (order : MO) (ts : List Nat) (hm : P.follows .mixedOrders = true) (hC : C w.drew) (hc : (mixTB ops ts (Array.replicate ops.size false) order && decide (order.len ts.length ≤ ops.size)) = true)
    (hQ : ∀ c a n v w, Q (.panic c) (a.put (some n) v) w → Q (.panic c) a w) (h : wpMixT P ops C Q ts order a w.drew) : (Code.region id ops true).wp P Q a w := by
  simp only [Bool.and_eq_true, decide_eq_true_eq] at hc
  exact wp_region_last_drew (S := C) (ds := ts) hm hC (fun hS => mixT_last hQ order _ a w.drew _ hc.2 hc.1 hC h)
end
end Go.Proofs.Ytlkjpnlpankhpaa.X
