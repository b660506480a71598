/- What is proved here: draws for RowsOk and RowOk. Conditions: none. -/
import Derived.Test.YtnpogfhfjofbmaaXDc
import Derived.Test.YtnpogfhfjofbmaaXGe
namespace Go.Proofs.Ytnpogfhfjofbmaa.X
open Go.RowKit Go.Sort
set_option linter.unusedVariables false
set_option linter.unusedSimpArgs false
open Ty
theorem append_oneM {P : Program} {ops : Array Oper} {rest : List Oper} {o : Oper} {a : Act} {Q : Exit → Act → World → Prop} {α : Type} (d : Ty α) {W : World} {n : Nat} (hn : W.heap.size = n) (hgd : o.guard = none) (s x : Operand) (t e : TypeId) (z : Value) (bytes : Nat)
    (ho : o.op = .call { callee := .builtin .append, args := #[s, x], argTypes := #[t, t] })
    (ht : P.underlying t = some (.slice e)) (hinfo : (P.info? e).map (fun i => (i.zero, i.size, i.bytes)) = some (some z, d.sz, bytes)) (hz : z.cells.size = d.sz) (hsz : 0 < d.sz) (hb0 : 0 < bytes)
    {S S' T : Nat → Prop} {v : Value} {xs : List α} (y : α) (cs : List Value)
    (hs : a.eval s = v) (hx : a.eval x = .slice (some ⟨n, 0, none⟩) 1 1) (HR : d.R e W S v xs) (hO : d.O W T y cs)
    (hST : ∀ k, T k → k < W.heap.size → ¬ S k) (hS : ∀ k, S k → S' k) (hT : ∀ k, T k → S' k) (hnew : ∀ k, n ≤ k → S' k)
    (hbytes : (xs.length + 1) * bytes ≤ 140737488355328)
    (h : ∀ v1 w1, d.R e w1 S' v1 (xs ++ [y]) → Fr W w1 S → wpList P ops Q rest (a.put o.dst v1) w1) :
    wpList P ops Q (o :: rest) a (W.alloc (.cells cs.toArray e)) := by
  subst hn
  exact append_one d hgd s x t e z bytes ho ht hinfo hz hsz hb0 y cs hs hx HR hO hST hS hT hnew hbytes h
set_option maxHeartbeats 8000000 in
set_option maxRecDepth 100000 in
theorem spec_DrawRowsOk (A : Option Addr) (c : Nat) (bs : List Int) (w : World) (hr : u8.C w A bs) (hbs : bs.length ≤ 1048576) :
    Calls Try.prog 32 #[.slice A bs.length c] w fun e w' => ∃ (A1 : Option Addr) (c1 : Nat) (l : List Int) (t : Int) (A2 : Option Addr) (c2 : Nat) (rs : List Row), e = .returned (.tuple #[.agg #[.slice A1 l.length c1], .int .i64 t, .slice A2 rs.length c2]) ∧ l.length ≤ c1 ∧ int.C w' A1 l ∧ rs.length ≤ c2 ∧ tRow.C w' A2 rs ∧ Below w.heap.size w w' := by
  have HBS := Hd.mk hr; clear hr
  have hB := Hd.mk (Below.refl w.heap.size w)
  go_enter Try.func32, Try.ntmps32
  go_wp2_with fail
  apply calls_gen; intro W1 hW
  have hz_ : w.heap.size + 1 ≤ W1.heap.size := by rw [hW]; simp
  have hE : Below w.heap.size w W1 := by rw [hW]; (repeat (first | with_reducible refine below_alloc ?_ _ | with_reducible refine below_drew ?_)); exact Below.refl _ _
  have hB := Hd.mk (below_then hB.out hE)
  have b0 := Hd.mk (show Blk W1 (w.heap.size) #[Value.slice none 0 0] 34 by rw [hW]; first | exact (Blk.new _ _ _) | (simpa using (Blk.new _ _ _)))
  clear hW hE
  have z1 := Hd.mk hz_; clear hz_
  refine (spec_l1New _ _ bs w W1 HBS.out hbs hB.out).mono ?_
  rintro e w2 ⟨g, rfl, hge, hC1, hX⟩
  have b0 := Hd.mk (b0.out.below hX)
  have hG := Hd.mk (show W1.heap.size ≤ g ∧ g < w2.heap.size from ⟨hge, hC1.lt⟩)
  have hC := Hd.mk hC1; clear hC1 hge
  have hB := Hd.mk (below_then hB.out hX)
  have hz_ := hX.size
  clear hX
  have z2 := Hd.mk hz_; clear hz_
  have fb0_0 : w2.cell? ⟨w.heap.size, 0, none⟩ = some (Value.slice none 0 0) := b0.out.cell 0 rfl
  have fb0_z := b0.out.frozen
  go_wp2_with fail
  clear fb0_0 fb0_z
  refine (spec_l6DrawBad w _ g hC.out).mono ?_
  rintro e w3 ⟨v, l, rfl, hL, hl6, hP, hC1, hX⟩
  have hC := Hd.mk hC1; clear hC1
  have hSz0 := hB.out.size
  have hg_ := hG.out
  have z1_ := z1.out; have z2_ := z2.out
  have b0 := Hd.mk (b0.out.fr hX (fun h => by skip; (try simp only at h); omega))
  have hB := Hd.mk (below_frS hB.out hX (fun k h => by (try simp only at h); omega))
  have hz_ := hX.size
  clear hSz0 hg_ hX
  have z3 := Hd.mk hz_; clear hz_
  obtain ⟨AL, cL, hvL, hcL, _⟩ := R_C hL
  subst hvL
  have hL := Hd.mk (show int.R 3 w3 (rng w2.heap.size w3.heap.size) _ l from R_bound hL)
  replace hP := Hd.mk hP
  have fb0_0 : w3.cell? ⟨w.heap.size, 0, none⟩ = some (Value.slice none 0 0) := b0.out.cell 0 rfl
  have fb0_z := b0.out.frozen
  go_wp2_with fail
  clear fb0_0 fb0_z
  apply calls_gen; intro W4 hW
  have hz_ : w3.heap.size + 1 ≤ W4.heap.size := by rw [hW]; simp
  have hE : Below w3.heap.size w3 W4 := by rw [hW]; (repeat (first | with_reducible refine below_alloc ?_ _ | with_reducible refine below_drew ?_)); exact Below.refl _ _
  have hB := Hd.mk (below_then hB.out hE)
  have hC := Hd.mk (hC.out.below hE)
  have b0 := Hd.mk (b0.out.below hE)
  have b1 := Hd.mk (show Blk W4 (w3.heap.size) #[Value.slice AL l.length cL] 34 by rw [hW]; first | exact (Blk.new _ _ _) | (simpa using (Blk.new _ _ _)))
  have hL := Hd.mk (R_below hL.out hE)
  clear hW hE
  have z4 := Hd.mk hz_; clear hz_
  refine (spec_l1Max _ _ _).mono ?_
  rintro e w_ ⟨rfl, rfl⟩
  obtain ⟨mx, hmxe⟩ : ∃ z, z = max (l.length : Int) 1 := ⟨_, rfl⟩
  have HMX := Hd.mk hmxe
  rw [← hmxe]
  clear hmxe
  have hmx : mx = l.length ∧ 0 < l.length ∨ mx = 1 ∧ l.length = 0 := by have := HMX.out; omega
  have fb0_0 : W4.cell? ⟨w.heap.size, 0, none⟩ = some (Value.slice none 0 0) := b0.out.cell 0 rfl
  have fb0_z := b0.out.frozen
  have fb1_0 : W4.cell? ⟨w3.heap.size, 0, none⟩ = some (Value.slice AL l.length cL) := b1.out.cell 0 rfl
  have fb1_z := b1.out.frozen
  go_wp2_with fail
  clear fb0_0 fb0_z fb1_0 fb1_z
  refine (spec_l1Below mx w _ g hC.out).mono ?_
  rintro e w5 ⟨t, rfl, t0, t1, _, hC1, hX⟩
  have hC := Hd.mk hC1; clear hC1
  have hSz0 := hB.out.size
  have hg_ := hG.out
  have z1_ := z1.out; have z2_ := z2.out; have z3_ := z3.out; have z4_ := z4.out
  have b0 := Hd.mk (b0.out.fr hX (fun h => by skip; (try simp only at h); omega))
  have b1 := Hd.mk (b1.out.fr hX (fun h => by skip; (try simp only at h); omega))
  have hL := Hd.mk (R_fr hL.out hX (fun k hk hl h => by skip; (try simp only [rng] at hk); (try simp only at hk); (try simp only at h); omega))
  have hB := Hd.mk (below_frS hB.out hX (fun k h => by (try simp only at h); omega))
  have hz_ := hX.size
  clear hSz0 hg_ hX
  have z5 := Hd.mk hz_; clear hz_
  replace t1 := t1 (by omega)
  by_cases htl : t < l.length
  · obtain ⟨j, rfl⟩ := Int.eq_ofNat_of_zero_le t0
    have hj : j < l.length := by omega
    have htd : decide ((j : Int) < (l.length : Int)) = true := decide_eq_true htl
    obtain ⟨ad, had, yj⟩ := C_int_at (R_Cv hL.out) (Below.refl _ _) j hj
    subst had
    obtain ⟨n, hn⟩ : ∃ z, z = l[j] := ⟨_, rfl⟩
    rw [← hn] at yj
    have hn5 : n ≤ 5 := by rw [hn]; exact (hP.out _ (List.getElem_mem hj)).2
    clear hn
    have fb0_0 : w5.cell? ⟨w.heap.size, 0, none⟩ = some (Value.slice none 0 0) := b0.out.cell 0 rfl
    have fb0_z := b0.out.frozen
    have fb1_0 : w5.cell? ⟨w3.heap.size, 0, none⟩ = some (Value.slice (some ad) l.length cL) := b1.out.cell 0 rfl
    have fb1_z := b1.out.frozen
    go_wp2_with fail
    clear fb0_0 fb0_z fb1_0 fb1_z
    clear yj
    refine (spec_l6DrawRows n (by omega) w _ g hC.out).mono ?_
    rintro e w6 ⟨v, rs, rfl, hR, hRP, hRI, hC1, hX⟩
    have hC := Hd.mk hC1; clear hC1
    have hSz0 := hB.out.size
    have hg_ := hG.out
    have z1_ := z1.out; have z2_ := z2.out; have z3_ := z3.out; have z4_ := z4.out; have z5_ := z5.out
    have b0 := Hd.mk (b0.out.fr hX (fun h => by skip; (try simp only at h); omega))
    have b1 := Hd.mk (b1.out.fr hX (fun h => by skip; (try simp only at h); omega))
    have hL := Hd.mk (R_fr hL.out hX (fun k hk hl h => by skip; (try simp only [rng] at hk); (try simp only at hk); (try simp only at h); omega))
    have hB := Hd.mk (below_frS hB.out hX (fun k h => by (try simp only at h); omega))
    have hz_ := hX.size
    clear hSz0 hg_ hX
    have z6 := Hd.mk hz_; clear hz_
    clear hRI
    have hrn := hRP.1; clear hRP
    obtain ⟨AR, cR, hvR, hcR, _⟩ := R_C hR
    subst hvR
    have hR := Hd.mk (show tRow.R 41 w6 (rng w5.heap.size w6.heap.size) _ rs from R_bound hR)
    have fb0_0 : w6.cell? ⟨w.heap.size, 0, none⟩ = some (Value.slice none 0 0) := b0.out.cell 0 rfl
    have fb0_z := b0.out.frozen
    have fb1_0 : w6.cell? ⟨w3.heap.size, 0, none⟩ = some (Value.slice (some ad) l.length cL) := b1.out.cell 0 rfl
    have fb1_z := b1.out.frozen
    go_wp2_with fail
    clear fb0_0 fb0_z fb1_0 fb1_z
    refine (spec_l1Below 15 w _ g hC.out).mono ?_
    rintro e w7 ⟨x, rfl, x0, x1, _, hC1, hX⟩
    have hC := Hd.mk hC1; clear hC1
    have hSz0 := hB.out.size
    have hg_ := hG.out
    have z1_ := z1.out; have z2_ := z2.out; have z3_ := z3.out; have z4_ := z4.out; have z5_ := z5.out; have z6_ := z6.out
    have b0 := Hd.mk (b0.out.fr hX (fun h => by skip; (try simp only at h); omega))
    have b1 := Hd.mk (b1.out.fr hX (fun h => by skip; (try simp only at h); omega))
    have hL := Hd.mk (R_fr hL.out hX (fun k hk hl h => by skip; (try simp only [rng] at hk); (try simp only at hk); (try simp only at h); omega))
    have hR := Hd.mk (R_fr hR.out hX (fun k hk hl h => by skip; (try simp only [rng] at hk); (try simp only at hk); (try simp only at h); omega))
    have hB := Hd.mk (below_frS hB.out hX (fun k h => by (try simp only at h); omega))
    have hz_ := hX.size
    clear hSz0 hg_ hX
    have z7 := Hd.mk hz_; clear hz_
    by_cases h0 : x = 0
    · subst h0
      have fb0_0 : w7.cell? ⟨w.heap.size, 0, none⟩ = some (Value.slice none 0 0) := b0.out.cell 0 rfl
      have fb0_z := b0.out.frozen
      have fb1_0 : w7.cell? ⟨w3.heap.size, 0, none⟩ = some (Value.slice (some ad) l.length cL) := b1.out.cell 0 rfl
      have fb1_z := b1.out.frozen
      go_wp2_with fail
      clear fb0_0 fb0_z fb1_0 fb1_z
      refine (spec_l6DrawRow n (by omega) w _ g hC.out).mono ?_
      rintro e w8 ⟨r0, cs0, rfl, hO0, _, _, hr0, hC1, hX⟩
      have hC := Hd.mk hC1; clear hC1
      have hSz0 := hB.out.size
      have hg_ := hG.out
      have z1_ := z1.out; have z2_ := z2.out; have z3_ := z3.out; have z4_ := z4.out; have z5_ := z5.out; have z6_ := z6.out; have z7_ := z7.out
      have b0 := Hd.mk (b0.out.fr hX (fun h => by skip; (try simp only at h); omega))
      have b1 := Hd.mk (b1.out.fr hX (fun h => by skip; (try simp only at h); omega))
      have hL := Hd.mk (R_fr hL.out hX (fun k hk hl h => by skip; (try simp only [rng] at hk); (try simp only at hk); (try simp only at h); omega))
      have hR := Hd.mk (R_fr hR.out hX (fun k hk hl h => by skip; (try simp only [rng] at hk); (try simp only at hk); (try simp only at h); omega))
      have hB := Hd.mk (below_frS hB.out hX (fun k h => by (try simp only at h); omega))
      have hz_ := hX.size
      clear hSz0 hg_ hX
      have z8 := Hd.mk hz_; clear hz_
      obtain ⟨v3, rfl, hv3⟩ := tRow_O.1 hO0
      obtain ⟨D0, d0, rfl, _, _⟩ := R_C hv3
      clear hv3 hr0
      have hO0 := Hd.mk (Ty.O_bound _ hO0)
      have z1_ := z1.out; have z2_ := z2.out; have z3_ := z3.out; have z4_ := z4.out; have z5_ := z5.out; have z6_ := z6.out; have z7_ := z7.out; have z8_ := z8.out
      have hgx := hG.out
      have hBs := hB.out.size
      have fb0_0 : w8.cell? ⟨w.heap.size, 0, none⟩ = some (Value.slice none 0 0) := b0.out.cell 0 rfl
      have fb0_z := b0.out.frozen
      have fb1_0 : w8.cell? ⟨w3.heap.size, 0, none⟩ = some (Value.slice (some ad) l.length cL) := b1.out.cell 0 rfl
      have fb1_z := b1.out.frozen
      go_wp2_with (at_builtin; refine append_one tRow rfl _ _ 68 41 (.agg #[.int .i64 0, .slice none 0 0]) 32 rfl Try.underlying68 info_RowS rfl (by decide) (by decide) (S := rng w5.heap.size w6.heap.size) (T := fun k => w7.heap.size ≤ k ∧ k < w8.heap.size) (S' := (fun k => w5.heap.size ≤ k ∧ k ≠ g)) (v := .slice AR rs.length cR) (xs := rs) r0 [Value.int IntKind.i64 r0.id, Value.slice D0 r0.cells.length d0] rfl rfl hR.out hO0.out (fun k h1 hl h2 => by have h5 := h2.2; have h6 := h1.1; omega) (fun k h => by have h5 := h.1; have h6 := h.2; refine ⟨by omega, by omega⟩) (fun k h => by have h5 := h.1; refine ⟨by omega, by omega⟩) (fun k h => by (try simp only at h); refine ⟨by omega, by omega⟩) (by omega) (fun v2 w9 hv2 hX => ?_); obtain ⟨l2, hl2⟩ : ∃ z, z = rs ++ [r0] := ⟨_, rfl⟩; rw [← hl2] at hv2; clear hl2; obtain ⟨AR2, cR2, hv2e, hcR2, _⟩ := R_C hv2; subst hv2e; have Yb0 := b0.out.fr hX (fun h => by (try simp only [rng] at h); (try simp only at h); omega); have yb0_0 := Yb0.cell 0 rfl; have yb0_z := Yb0.frozen; have Yb1 := b1.out.fr hX (fun h => by (try simp only [rng] at h); (try simp only at h); omega); have yb1_0 := Yb1.cell 0 rfl; have yb1_z := Yb1.frozen)
      clear fb0_0 fb0_z fb1_0 fb1_z
      clear hO0 hR hcR Yb0 yb0_0 yb0_z Yb1 yb1_0 yb1_z
      have hcR := hcR2
      have hR := Hd.mk (R_bound hv2); clear hv2
      have z1_ := z1.out; have z2_ := z2.out; have z3_ := z3.out; have z4_ := z4.out; have z5_ := z5.out; have z6_ := z6.out; have z7_ := z7.out; have z8_ := z8.out
      have hSz := hB.out.size
      have b0 := Hd.mk (b0.out.fr hX (fun h => by have hlt_ := b0.out.lt; skip; (try simp only [rng] at h); (try simp only at h); omega))
      have b1 := Hd.mk (b1.out.fr hX (fun h => by have hlt_ := b1.out.lt; skip; (try simp only [rng] at h); (try simp only at h); omega))
      have hL := Hd.mk (R_fr hL.out hX (fun k hk hl h => by skip; (try simp only [rng] at hk h); (try simp only at hk); (try simp only at h); omega))
      have hC := Hd.mk (hC.out.fr hX (fun h => by have hg_ := hG.out; have hlt_ := hC.out.lt; (try simp only [rng] at h); (try simp only at h); omega) (fun k h => by have hg_ := hG.out; have hge_ := hC.out.ge; (try simp only [rng] at h); (try simp only at h); omega))
      have hB := Hd.mk (below_frS hB.out hX (fun k h => by skip; (try simp only [rng] at h); (try simp only at h); omega))
      have hz_ := hX.size
      clear hX
      have z9 := Hd.mk hz_; clear hz_
      have fb0_0 : w9.cell? ⟨w.heap.size, 0, none⟩ = some (Value.slice none 0 0) := b0.out.cell 0 rfl
      have fb0_z := b0.out.frozen
      have fb1_0 : w9.cell? ⟨w3.heap.size, 0, none⟩ = some (Value.slice (some ad) l.length cL) := b1.out.cell 0 rfl
      have fb1_z := b1.out.frozen
      go_wp2_with fail
      refine bodyPost_retW (v := .tuple #[.agg #[Value.slice (some ad) l.length cL], .int .i64 (j : Int), .slice AR2 l2.length cR2]) (by simp [results, Try.results32, go_sem, fb0_0, fb0_z, fb1_0, fb1_z]) rfl ?_
      intro W hW
      clear fb0_0 fb0_z fb1_0 fb1_z
      have hz_ : w9.heap.size ≤ W.heap.size := by rw [hW]; simp
      have eF : Fr w9 W (fun k => k = w.heap.size ∨ w9.heap.size ≤ k) := by rw [hW]; (repeat (first | with_reducible refine Fr.setCell ?_ _ (fun _ => by simp <;> omega) _ | with_reducible refine Fr.alloc ?_ _ | with_reducible refine Fr.drew ?_)); exact Fr.refl _ _
      have z1_ := z1.out; have z2_ := z2.out; have z3_ := z3.out; have z4_ := z4.out; have z5_ := z5.out; have z6_ := z6.out; have z7_ := z7.out; have z8_ := z8.out; have z9_ := z9.out
      have hC := Hd.mk (hC.out.fr eF (fun h => by have hg_ := hG.out; have hlt_ := hC.out.lt; (try simp only [rng] at h); (try simp only at h); omega) (fun k h => by have hg_ := hG.out; have hge_ := hC.out.ge; (try simp only [rng] at h); (try simp only at h); omega))
      have hB := Hd.mk (((Fr.of_below hB.out (fun k => k = w.heap.size ∨ w9.heap.size ≤ k)).then_ eF (fun k hk _ => hk)).below (fun k hk => by have := hB.out.size; omega))
      have b0 := Hd.mk (show Blk W (w.heap.size) #[Value.slice (some ad) l.length cL] 34 by rw [hW]; exact (Blk.all b0.out [Value.slice (some ad) l.length cL] rfl))
      have b1 := Hd.mk (b1.out.fr eF (fun h => by have hlt_ := b1.out.lt; (try simp only at h); omega))
      have hL := Hd.mk (R_fr hL.out eF (fun k hk hl h => by skip; (try simp only [rng] at hk); (try simp only at hk); (try simp only at h); omega))
      have hR := Hd.mk (R_fr hR.out eF (fun k hk hl h => by have q_ := hk.1.2; (try simp only [rng] at hk); (try simp only at hk); (try simp only at h); omega))
      clear hW eF
      have z10 := Hd.mk hz_; clear hz_
      exact ⟨some ad, cL, l, j, AR2, cR2, l2, rfl, hcL, R_Cv hL.out, (by first | exact hcR | exact Nat.le_refl _), R_Cv hR.out, hB.out⟩
    by_cases h1 : x = 1
    · subst h1
      clear h0 hR hcR
      have fb0_0 : w7.cell? ⟨w.heap.size, 0, none⟩ = some (Value.slice none 0 0) := b0.out.cell 0 rfl
      have fb0_z := b0.out.frozen
      have fb1_0 : w7.cell? ⟨w3.heap.size, 0, none⟩ = some (Value.slice (some ad) l.length cL) := b1.out.cell 0 rfl
      have fb1_z := b1.out.frozen
      go_wp2_with fail
      clear fb0_0 fb0_z fb1_0 fb1_z
      go_loopw [9, 10] (fun o i wr => ∃ (k : Nat) (vv : Value) (rs : List Row), k ≤ 25 ∧ i = .int .i64 k ∧ vv = o ∧ Hd (rs.length = k) ∧ Hd (Blk wr w.heap.size #[Value.slice none 0 0] 34) ∧ Hd (Blk wr w3.heap.size #[Value.slice (some ad) l.length cL] 34) ∧ Hd (int.R 3 wr (rng w2.heap.size w3.heap.size) (.slice (some ad) l.length cL) l) ∧ Hd (tRow.R 41 wr (fun k => w7.heap.size ≤ k) vv rs) ∧ Hd (Cur w wr g) ∧ Hd (Below w.heap.size w wr) ∧ Hd (w7.heap.size ≤ wr.heap.size)) (fun _ i _ => 25 - (intOf i).toNat)
      case atStart => exact ⟨0, _, [], Nat.zero_le _, rfl, rfl, ⟨rfl⟩, b0, b1, hL, ⟨R_nil⟩, hC, hB, ⟨Nat.le_refl _⟩⟩
      case round =>
        clear b0 b1 hL hC hB
        obtain ⟨k, vv, rs, hk25, rfl, rfl, hrl, b0, b1, hL, hR, hC, hB, hzw⟩ := hrel
        obtain ⟨AR, cR, hvR, hcR, _⟩ := R_C hR.out
        rw [hrl.out] at hvR hcR
        subst hvR
        have fb0_0 : wr.cell? ⟨w.heap.size, 0, none⟩ = some (Value.slice none 0 0) := b0.out.cell 0 rfl
        have fb0_z := b0.out.frozen
        have fb1_0 : wr.cell? ⟨w3.heap.size, 0, none⟩ = some (Value.slice (some ad) l.length cL) := b1.out.cell 0 rfl
        have fb1_z := b1.out.frozen
        go_wp2_with fail
        clear fb0_0 fb0_z fb1_0 fb1_z
        refine (spec_l1Below 2 w _ g hC.out).mono ?_
        rintro e w8 ⟨y, rfl, y0, y1, _, hC1, hX⟩
        have hC := Hd.mk hC1; clear hC1
        have hSz0 := hB.out.size
        have hg_ := hG.out
        have z1_ := z1.out; have z2_ := z2.out; have z3_ := z3.out; have z4_ := z4.out; have z5_ := z5.out; have z6_ := z6.out; have z7_ := z7.out; have hzw_ := hzw.out
        have b0 := Hd.mk (b0.out.fr hX (fun h => by skip; (try simp only at h); omega))
        have b1 := Hd.mk (b1.out.fr hX (fun h => by skip; (try simp only at h); omega))
        have hL := Hd.mk (R_fr hL.out hX (fun k hk hl h => by skip; (try simp only [rng] at hk); (try simp only at hk); (try simp only at h); omega))
        have hR := Hd.mk (R_fr hR.out hX (fun k hk hl h => by have hg_ := hG.out; (try simp only [rng] at hk); (try simp only at hk); (try simp only at h); omega))
        have hB := Hd.mk (below_frS hB.out hX (fun k h => by (try simp only at h); omega))
        have hz_ := hX.size
        clear hSz0 hg_ hX
        have z8 := Hd.mk hz_; clear hz_
        replace y1 := y1 (by omega)
        by_cases hlt : (k : Int) < 24 + y
        · have hk24 : k ≤ 24 := by omega
          have fb0_0 : w8.cell? ⟨w.heap.size, 0, none⟩ = some (Value.slice none 0 0) := b0.out.cell 0 rfl
          have fb0_z := b0.out.frozen
          have fb1_0 : w8.cell? ⟨w3.heap.size, 0, none⟩ = some (Value.slice (some ad) l.length cL) := b1.out.cell 0 rfl
          have fb1_z := b1.out.frozen
          go_wp2_with fail
          clear fb0_0 fb0_z fb1_0 fb1_z
          refine (spec_l1Max _ _ _).mono ?_
          rintro e w_ ⟨rfl, rfl⟩
          obtain ⟨m, hm⟩ : ∃ m : Nat, max n 0 = (m : Int) := ⟨(max n 0).toNat, by omega⟩
          rw [hm]
          have hm5 : m ≤ 5 := by omega
          have HM := Hd.mk hm; clear hm
          have hmk := make_eq (P := Try.prog) 22 3 (.int .i64 0) 1 8 Try.underlying22 info_int m (by omega) (by omega)
          have hM0 := R_made (d := int) (e := 3) (W := w8) (z := .int .i64 0) (S := fun k => k = w8.heap.size) 0 m (Nat.le_refl 1) (by omega) rfl (fun _ _ _ => rfl) rfl
          simp only [show int.sz = 1 from rfl, Nat.mul_one, show (Value.int .i64 0).cells = #[.int .i64 0] from rfl] at hM0
          have hM0 := Hd.mk (show tRow.O _ (fun k => k = w8.heap.size) ⟨(k : Int) + 1, List.replicate m 0⟩ [.int .i64 ((k : Int) + 1), .slice (some ⟨w8.heap.size, 0, none⟩) m m] from tRow_O.2 ⟨_, rfl, hM0⟩)
          have hR0 := Hd.mk (show tRow.R 41 w8 (rng w7.heap.size w8.heap.size) (.slice AR k cR) rs from R_bound hR.out); clear hR
          have z1_ := z1.out; have z2_ := z2.out; have z3_ := z3.out; have z4_ := z4.out; have z5_ := z5.out; have z6_ := z6.out; have z7_ := z7.out; have hzw_ := hzw.out; have z8_ := z8.out
          go_wp2_with (at_builtin; refine append_oneM tRow (n := w8.heap.size + 1) (by simp) rfl _ _ 68 41 (.agg #[.int .i64 0, .slice none 0 0]) 32 rfl Try.underlying68 info_RowS rfl (by decide) (by decide) (S := rng w7.heap.size w8.heap.size) (T := fun k => k = w8.heap.size) (S' := (fun k => w7.heap.size ≤ k)) (v := .slice AR k cR) (xs := rs) ⟨(k : Int) + 1, List.replicate m 0⟩ [.int .i64 ((k : Int) + 1), .slice (some ⟨w8.heap.size, 0, none⟩) m m] rfl rfl (R_below hR0.out (below_alloc (Below.refl _ _) _)) hM0.out (fun k h1 hl h2 => by have h5 := h2.2; have h6 : k = _ := h1; omega) (fun k h => h.1) (fun k h => by have h5 : k = _ := h; omega) (fun k h => by (try simp at h); omega) (by have := hrl.out; omega) (fun v2 w9 hv2 hX0 => ?_))
          have hX := (Fr.of_below (below_alloc (Below.refl w8.heap.size w8) _) _).trans hX0
          have hR2 := Hd.mk hv2; clear hv2 hX0 hR0 hM0 hmk
          have z1_ := z1.out; have z2_ := z2.out; have z3_ := z3.out; have z4_ := z4.out; have z5_ := z5.out; have z6_ := z6.out; have z7_ := z7.out; have hzw_ := hzw.out; have z8_ := z8.out
          have hSz := hB.out.size
          have b0 := Hd.mk (b0.out.fr hX (fun h => by have hlt_ := b0.out.lt; skip; (try simp only [rng] at h); (try simp only at h); omega))
          have b1 := Hd.mk (b1.out.fr hX (fun h => by have hlt_ := b1.out.lt; skip; (try simp only [rng] at h); (try simp only at h); omega))
          have hL := Hd.mk (R_fr hL.out hX (fun k hk hl h => by skip; (try simp only [rng] at hk h); (try simp only at hk); (try simp only at h); omega))
          have hC := Hd.mk (hC.out.fr hX (fun h => by have hg_ := hG.out; have hlt_ := hC.out.lt; (try simp only [rng] at h); (try simp only at h); omega) (fun k h => by have hg_ := hG.out; have hge_ := hC.out.ge; (try simp only [rng] at h); (try simp only at h); omega))
          have hB := Hd.mk (below_frS hB.out hX (fun k h => by skip; (try simp only [rng] at h); (try simp only at h); omega))
          have hz_ := hX.size
          clear hX
          have z9 := Hd.mk hz_; clear hz_
          go_wp2_with fail
          go_roundw
          case rel => exact ⟨k + 1, _, _, by omega, by go_num, rfl, ⟨by rw [List.length_append, hrl.out]; rfl⟩, b0, b1, hL, hR2, hC, hB, ⟨by have z1_ := z1.out; have z2_ := z2.out; have z3_ := z3.out; have z4_ := z4.out; have z5_ := z5.out; have z6_ := z6.out; have z7_ := z7.out; have hzw_ := hzw.out; have z8_ := z8.out; have z9_ := z9.out; show w7.heap.size ≤ w9.heap.size; omega⟩⟩
          case measure => simp [intOf]; omega
        · have hrl_ := hrl.out
          subst hrl_
          have hcR0 := hcR
          have hR0 := Hd.mk (R_bound hR.out); clear hR; have hR := hR0
          have z1_ := z1.out; have z2_ := z2.out; have z3_ := z3.out; have z4_ := z4.out; have z5_ := z5.out; have z6_ := z6.out; have z7_ := z7.out; have hzw_ := hzw.out; have z8_ := z8.out
          have fb0_0 : w8.cell? ⟨w.heap.size, 0, none⟩ = some (Value.slice none 0 0) := b0.out.cell 0 rfl
          have fb0_z := b0.out.frozen
          have fb1_0 : w8.cell? ⟨w3.heap.size, 0, none⟩ = some (Value.slice (some ad) l.length cL) := b1.out.cell 0 rfl
          have fb1_z := b1.out.frozen
          go_wp2_with fail
          refine bodyPost_retW (v := .tuple #[.agg #[Value.slice (some ad) l.length cL], .int .i64 (j : Int), .slice AR rs.length cR]) (by simp [results, Try.results32, go_sem, fb0_0, fb0_z, fb1_0, fb1_z]) rfl ?_
          intro W hW
          clear fb0_0 fb0_z fb1_0 fb1_z
          have hz_ : w8.heap.size ≤ W.heap.size := by rw [hW]; simp
          have eF : Fr w8 W (fun k => k = w.heap.size ∨ w8.heap.size ≤ k) := by rw [hW]; (repeat (first | with_reducible refine Fr.setCell ?_ _ (fun _ => by simp <;> omega) _ | with_reducible refine Fr.alloc ?_ _ | with_reducible refine Fr.drew ?_)); exact Fr.refl _ _
          have z1_ := z1.out; have z2_ := z2.out; have z3_ := z3.out; have z4_ := z4.out; have z5_ := z5.out; have z6_ := z6.out; have z7_ := z7.out; have hzw_ := hzw.out; have z8_ := z8.out
          have hC := Hd.mk (hC.out.fr eF (fun h => by have hg_ := hG.out; have hlt_ := hC.out.lt; (try simp only [rng] at h); (try simp only at h); omega) (fun k h => by have hg_ := hG.out; have hge_ := hC.out.ge; (try simp only [rng] at h); (try simp only at h); omega))
          have hB := Hd.mk (((Fr.of_below hB.out (fun k => k = w.heap.size ∨ w8.heap.size ≤ k)).then_ eF (fun k hk _ => hk)).below (fun k hk => by have := hB.out.size; omega))
          have b0 := Hd.mk (show Blk W (w.heap.size) #[Value.slice (some ad) l.length cL] 34 by rw [hW]; exact (Blk.all b0.out [Value.slice (some ad) l.length cL] rfl))
          have b1 := Hd.mk (b1.out.fr eF (fun h => by have hlt_ := b1.out.lt; (try simp only at h); omega))
          have hL := Hd.mk (R_fr hL.out eF (fun k hk hl h => by skip; (try simp only [rng] at hk); (try simp only at hk); (try simp only at h); omega))
          have hR := Hd.mk (R_fr hR.out eF (fun k hk hl h => by have q_ := hk.1; have hg_ := hG.out; (try simp only [rng] at hk); (try simp only at hk); (try simp only at h); omega))
          clear hW eF
          have z9 := Hd.mk hz_; clear hz_
          exact ⟨some ad, cL, l, j, AR, cR, rs, rfl, hcL, R_Cv hL.out, (by first | exact hcR | exact Nat.le_refl _), R_Cv hR.out, hB.out⟩
    have hd0 : decide (x = 0) = false := decide_eq_false h0
    have hd1 : decide (x = 1) = false := decide_eq_false h1
    have he0 : (x == 0) = false := by simpa using h0
    have he1 : (x == 1) = false := by simpa using h1
    clear h0 h1
    have fb0_0 : w7.cell? ⟨w.heap.size, 0, none⟩ = some (Value.slice none 0 0) := b0.out.cell 0 rfl
    have fb0_z := b0.out.frozen
    have fb1_0 : w7.cell? ⟨w3.heap.size, 0, none⟩ = some (Value.slice (some ad) l.length cL) := b1.out.cell 0 rfl
    have fb1_z := b1.out.frozen
    go_wp2_with fail
    refine bodyPost_retW (v := .tuple #[.agg #[Value.slice (some ad) l.length cL], .int .i64 (j : Int), .slice AR rs.length cR]) (by simp [results, Try.results32, go_sem, fb0_0, fb0_z, fb1_0, fb1_z]) rfl ?_
    intro W hW
    clear fb0_0 fb0_z fb1_0 fb1_z
    have hz_ : w7.heap.size ≤ W.heap.size := by rw [hW]; simp
    have eF : Fr w7 W (fun k => k = w.heap.size ∨ w7.heap.size ≤ k) := by rw [hW]; (repeat (first | with_reducible refine Fr.setCell ?_ _ (fun _ => by simp <;> omega) _ | with_reducible refine Fr.alloc ?_ _ | with_reducible refine Fr.drew ?_)); exact Fr.refl _ _
    have z1_ := z1.out; have z2_ := z2.out; have z3_ := z3.out; have z4_ := z4.out; have z5_ := z5.out; have z6_ := z6.out; have z7_ := z7.out
    have hC := Hd.mk (hC.out.fr eF (fun h => by have hg_ := hG.out; have hlt_ := hC.out.lt; (try simp only [rng] at h); (try simp only at h); omega) (fun k h => by have hg_ := hG.out; have hge_ := hC.out.ge; (try simp only [rng] at h); (try simp only at h); omega))
    have hB := Hd.mk (((Fr.of_below hB.out (fun k => k = w.heap.size ∨ w7.heap.size ≤ k)).then_ eF (fun k hk _ => hk)).below (fun k hk => by have := hB.out.size; omega))
    have b0 := Hd.mk (show Blk W (w.heap.size) #[Value.slice (some ad) l.length cL] 34 by rw [hW]; exact (Blk.all b0.out [Value.slice (some ad) l.length cL] rfl))
    have b1 := Hd.mk (b1.out.fr eF (fun h => by have hlt_ := b1.out.lt; (try simp only at h); omega))
    have hL := Hd.mk (R_fr hL.out eF (fun k hk hl h => by skip; (try simp only [rng] at hk); (try simp only at hk); (try simp only at h); omega))
    have hR := Hd.mk (R_fr hR.out eF (fun k hk hl h => by skip; (try simp only [rng] at hk); (try simp only at hk); (try simp only at h); omega))
    clear hW eF
    have z8 := Hd.mk hz_; clear hz_
    exact ⟨some ad, cL, l, j, AR, cR, rs, rfl, hcL, R_Cv hL.out, (by first | exact hcR | exact Nat.le_refl _), R_Cv hR.out, hB.out⟩
  have htd : decide (t < (l.length : Int)) = false := decide_eq_false htl
  have fb0_0 : w5.cell? ⟨w.heap.size, 0, none⟩ = some (Value.slice none 0 0) := b0.out.cell 0 rfl
  have fb0_z := b0.out.frozen
  have fb1_0 : w5.cell? ⟨w3.heap.size, 0, none⟩ = some (Value.slice AL l.length cL) := b1.out.cell 0 rfl
  have fb1_z := b1.out.frozen
  go_wp2_with fail
  clear fb0_0 fb0_z fb1_0 fb1_z
  refine (spec_l6DrawRows (2 : Int) (by omega) w _ g hC.out).mono ?_
  rintro e w6 ⟨v, rs, rfl, hR, hRP, hRI, hC1, hX⟩
  have hC := Hd.mk hC1; clear hC1
  have hSz0 := hB.out.size
  have hg_ := hG.out
  have z1_ := z1.out; have z2_ := z2.out; have z3_ := z3.out; have z4_ := z4.out; have z5_ := z5.out
  have b0 := Hd.mk (b0.out.fr hX (fun h => by skip; (try simp only at h); omega))
  have b1 := Hd.mk (b1.out.fr hX (fun h => by skip; (try simp only at h); omega))
  have hL := Hd.mk (R_fr hL.out hX (fun k hk hl h => by skip; (try simp only [rng] at hk); (try simp only at hk); (try simp only at h); omega))
  have hB := Hd.mk (below_frS hB.out hX (fun k h => by (try simp only at h); omega))
  have hz_ := hX.size
  clear hSz0 hg_ hX
  have z6 := Hd.mk hz_; clear hz_
  clear hRI
  have hrn := hRP.1; clear hRP
  obtain ⟨AR, cR, hvR, hcR, _⟩ := R_C hR
  subst hvR
  have hR := Hd.mk (show tRow.R 41 w6 (rng w5.heap.size w6.heap.size) _ rs from R_bound hR)
  have fb0_0 : w6.cell? ⟨w.heap.size, 0, none⟩ = some (Value.slice none 0 0) := b0.out.cell 0 rfl
  have fb0_z := b0.out.frozen
  have fb1_0 : w6.cell? ⟨w3.heap.size, 0, none⟩ = some (Value.slice AL l.length cL) := b1.out.cell 0 rfl
  have fb1_z := b1.out.frozen
  go_wp2_with fail
  clear fb0_0 fb0_z fb1_0 fb1_z
  refine (spec_l1Below 15 w _ g hC.out).mono ?_
  rintro e w7 ⟨x, rfl, x0, x1, _, hC1, hX⟩
  have hC := Hd.mk hC1; clear hC1
  have hSz0 := hB.out.size
  have hg_ := hG.out
  have z1_ := z1.out; have z2_ := z2.out; have z3_ := z3.out; have z4_ := z4.out; have z5_ := z5.out; have z6_ := z6.out
  have b0 := Hd.mk (b0.out.fr hX (fun h => by skip; (try simp only at h); omega))
  have b1 := Hd.mk (b1.out.fr hX (fun h => by skip; (try simp only at h); omega))
  have hL := Hd.mk (R_fr hL.out hX (fun k hk hl h => by skip; (try simp only [rng] at hk); (try simp only at hk); (try simp only at h); omega))
  have hR := Hd.mk (R_fr hR.out hX (fun k hk hl h => by skip; (try simp only [rng] at hk); (try simp only at hk); (try simp only at h); omega))
  have hB := Hd.mk (below_frS hB.out hX (fun k h => by (try simp only at h); omega))
  have hz_ := hX.size
  clear hSz0 hg_ hX
  have z7 := Hd.mk hz_; clear hz_
  by_cases h0 : x = 0
  · subst h0
    have fb0_0 : w7.cell? ⟨w.heap.size, 0, none⟩ = some (Value.slice none 0 0) := b0.out.cell 0 rfl
    have fb0_z := b0.out.frozen
    have fb1_0 : w7.cell? ⟨w3.heap.size, 0, none⟩ = some (Value.slice AL l.length cL) := b1.out.cell 0 rfl
    have fb1_z := b1.out.frozen
    go_wp2_with fail
    clear fb0_0 fb0_z fb1_0 fb1_z
    refine (spec_l6DrawRow (2 : Int) (by omega) w _ g hC.out).mono ?_
    rintro e w8 ⟨r0, cs0, rfl, hO0, _, _, hr0, hC1, hX⟩
    have hC := Hd.mk hC1; clear hC1
    have hSz0 := hB.out.size
    have hg_ := hG.out
    have z1_ := z1.out; have z2_ := z2.out; have z3_ := z3.out; have z4_ := z4.out; have z5_ := z5.out; have z6_ := z6.out; have z7_ := z7.out
    have b0 := Hd.mk (b0.out.fr hX (fun h => by skip; (try simp only at h); omega))
    have b1 := Hd.mk (b1.out.fr hX (fun h => by skip; (try simp only at h); omega))
    have hL := Hd.mk (R_fr hL.out hX (fun k hk hl h => by skip; (try simp only [rng] at hk); (try simp only at hk); (try simp only at h); omega))
    have hR := Hd.mk (R_fr hR.out hX (fun k hk hl h => by skip; (try simp only [rng] at hk); (try simp only at hk); (try simp only at h); omega))
    have hB := Hd.mk (below_frS hB.out hX (fun k h => by (try simp only at h); omega))
    have hz_ := hX.size
    clear hSz0 hg_ hX
    have z8 := Hd.mk hz_; clear hz_
    obtain ⟨v3, rfl, hv3⟩ := tRow_O.1 hO0
    obtain ⟨D0, d0, rfl, _, _⟩ := R_C hv3
    clear hv3 hr0
    have hO0 := Hd.mk (Ty.O_bound _ hO0)
    have z1_ := z1.out; have z2_ := z2.out; have z3_ := z3.out; have z4_ := z4.out; have z5_ := z5.out; have z6_ := z6.out; have z7_ := z7.out; have z8_ := z8.out
    have hgx := hG.out
    have hBs := hB.out.size
    have fb0_0 : w8.cell? ⟨w.heap.size, 0, none⟩ = some (Value.slice none 0 0) := b0.out.cell 0 rfl
    have fb0_z := b0.out.frozen
    have fb1_0 : w8.cell? ⟨w3.heap.size, 0, none⟩ = some (Value.slice AL l.length cL) := b1.out.cell 0 rfl
    have fb1_z := b1.out.frozen
    go_wp2_with (at_builtin; refine append_one tRow rfl _ _ 68 41 (.agg #[.int .i64 0, .slice none 0 0]) 32 rfl Try.underlying68 info_RowS rfl (by decide) (by decide) (S := rng w5.heap.size w6.heap.size) (T := fun k => w7.heap.size ≤ k ∧ k < w8.heap.size) (S' := (fun k => w5.heap.size ≤ k ∧ k ≠ g)) (v := .slice AR rs.length cR) (xs := rs) r0 [Value.int IntKind.i64 r0.id, Value.slice D0 r0.cells.length d0] rfl rfl hR.out hO0.out (fun k h1 hl h2 => by have h5 := h2.2; have h6 := h1.1; omega) (fun k h => by have h5 := h.1; have h6 := h.2; refine ⟨by omega, by omega⟩) (fun k h => by have h5 := h.1; refine ⟨by omega, by omega⟩) (fun k h => by (try simp only at h); refine ⟨by omega, by omega⟩) (by omega) (fun v2 w9 hv2 hX => ?_); obtain ⟨l2, hl2⟩ : ∃ z, z = rs ++ [r0] := ⟨_, rfl⟩; rw [← hl2] at hv2; clear hl2; obtain ⟨AR2, cR2, hv2e, hcR2, _⟩ := R_C hv2; subst hv2e; have Yb0 := b0.out.fr hX (fun h => by (try simp only [rng] at h); (try simp only at h); omega); have yb0_0 := Yb0.cell 0 rfl; have yb0_z := Yb0.frozen; have Yb1 := b1.out.fr hX (fun h => by (try simp only [rng] at h); (try simp only at h); omega); have yb1_0 := Yb1.cell 0 rfl; have yb1_z := Yb1.frozen)
    clear fb0_0 fb0_z fb1_0 fb1_z
    clear hO0 hR hcR Yb0 yb0_0 yb0_z Yb1 yb1_0 yb1_z
    have hcR := hcR2
    have hR := Hd.mk (R_bound hv2); clear hv2
    have z1_ := z1.out; have z2_ := z2.out; have z3_ := z3.out; have z4_ := z4.out; have z5_ := z5.out; have z6_ := z6.out; have z7_ := z7.out; have z8_ := z8.out
    have hSz := hB.out.size
    have b0 := Hd.mk (b0.out.fr hX (fun h => by have hlt_ := b0.out.lt; skip; (try simp only [rng] at h); (try simp only at h); omega))
    have b1 := Hd.mk (b1.out.fr hX (fun h => by have hlt_ := b1.out.lt; skip; (try simp only [rng] at h); (try simp only at h); omega))
    have hL := Hd.mk (R_fr hL.out hX (fun k hk hl h => by skip; (try simp only [rng] at hk h); (try simp only at hk); (try simp only at h); omega))
    have hC := Hd.mk (hC.out.fr hX (fun h => by have hg_ := hG.out; have hlt_ := hC.out.lt; (try simp only [rng] at h); (try simp only at h); omega) (fun k h => by have hg_ := hG.out; have hge_ := hC.out.ge; (try simp only [rng] at h); (try simp only at h); omega))
    have hB := Hd.mk (below_frS hB.out hX (fun k h => by skip; (try simp only [rng] at h); (try simp only at h); omega))
    have hz_ := hX.size
    clear hX
    have z9 := Hd.mk hz_; clear hz_
    have fb0_0 : w9.cell? ⟨w.heap.size, 0, none⟩ = some (Value.slice none 0 0) := b0.out.cell 0 rfl
    have fb0_z := b0.out.frozen
    have fb1_0 : w9.cell? ⟨w3.heap.size, 0, none⟩ = some (Value.slice AL l.length cL) := b1.out.cell 0 rfl
    have fb1_z := b1.out.frozen
    go_wp2_with fail
    refine bodyPost_retW (v := .tuple #[.agg #[Value.slice AL l.length cL], .int .i64 t, .slice AR2 l2.length cR2]) (by simp [results, Try.results32, go_sem, fb0_0, fb0_z, fb1_0, fb1_z]) rfl ?_
    intro W hW
    clear fb0_0 fb0_z fb1_0 fb1_z
    have hz_ : w9.heap.size ≤ W.heap.size := by rw [hW]; simp
    have eF : Fr w9 W (fun k => k = w.heap.size ∨ w9.heap.size ≤ k) := by rw [hW]; (repeat (first | with_reducible refine Fr.setCell ?_ _ (fun _ => by simp <;> omega) _ | with_reducible refine Fr.alloc ?_ _ | with_reducible refine Fr.drew ?_)); exact Fr.refl _ _
    have z1_ := z1.out; have z2_ := z2.out; have z3_ := z3.out; have z4_ := z4.out; have z5_ := z5.out; have z6_ := z6.out; have z7_ := z7.out; have z8_ := z8.out; have z9_ := z9.out
    have hC := Hd.mk (hC.out.fr eF (fun h => by have hg_ := hG.out; have hlt_ := hC.out.lt; (try simp only [rng] at h); (try simp only at h); omega) (fun k h => by have hg_ := hG.out; have hge_ := hC.out.ge; (try simp only [rng] at h); (try simp only at h); omega))
    have hB := Hd.mk (((Fr.of_below hB.out (fun k => k = w.heap.size ∨ w9.heap.size ≤ k)).then_ eF (fun k hk _ => hk)).below (fun k hk => by have := hB.out.size; omega))
    have b0 := Hd.mk (show Blk W (w.heap.size) #[Value.slice AL l.length cL] 34 by rw [hW]; exact (Blk.all b0.out [Value.slice AL l.length cL] rfl))
    have b1 := Hd.mk (b1.out.fr eF (fun h => by have hlt_ := b1.out.lt; (try simp only at h); omega))
    have hL := Hd.mk (R_fr hL.out eF (fun k hk hl h => by skip; (try simp only [rng] at hk); (try simp only at hk); (try simp only at h); omega))
    have hR := Hd.mk (R_fr hR.out eF (fun k hk hl h => by have q_ := hk.1.2; (try simp only [rng] at hk); (try simp only at hk); (try simp only at h); omega))
    clear hW eF
    have z10 := Hd.mk hz_; clear hz_
    exact ⟨AL, cL, l, t, AR2, cR2, l2, rfl, hcL, R_Cv hL.out, (by first | exact hcR | exact Nat.le_refl _), R_Cv hR.out, hB.out⟩
  by_cases h1 : x = 1
  · subst h1
    clear h0 hR hcR
    have fb0_0 : w7.cell? ⟨w.heap.size, 0, none⟩ = some (Value.slice none 0 0) := b0.out.cell 0 rfl
    have fb0_z := b0.out.frozen
    have fb1_0 : w7.cell? ⟨w3.heap.size, 0, none⟩ = some (Value.slice AL l.length cL) := b1.out.cell 0 rfl
    have fb1_z := b1.out.frozen
    go_wp2_with fail
    clear fb0_0 fb0_z fb1_0 fb1_z
    go_loopw [9, 10] (fun o i wr => ∃ (k : Nat) (vv : Value) (rs : List Row), k ≤ 25 ∧ i = .int .i64 k ∧ vv = o ∧ Hd (rs.length = k) ∧ Hd (Blk wr w.heap.size #[Value.slice none 0 0] 34) ∧ Hd (Blk wr w3.heap.size #[Value.slice AL l.length cL] 34) ∧ Hd (int.R 3 wr (rng w2.heap.size w3.heap.size) (.slice AL l.length cL) l) ∧ Hd (tRow.R 41 wr (fun k => w7.heap.size ≤ k) vv rs) ∧ Hd (Cur w wr g) ∧ Hd (Below w.heap.size w wr) ∧ Hd (w7.heap.size ≤ wr.heap.size)) (fun _ i _ => 25 - (intOf i).toNat)
    case atStart => exact ⟨0, _, [], Nat.zero_le _, rfl, rfl, ⟨rfl⟩, b0, b1, hL, ⟨R_nil⟩, hC, hB, ⟨Nat.le_refl _⟩⟩
    case round =>
      clear b0 b1 hL hC hB
      obtain ⟨k, vv, rs, hk25, rfl, rfl, hrl, b0, b1, hL, hR, hC, hB, hzw⟩ := hrel
      obtain ⟨AR, cR, hvR, hcR, _⟩ := R_C hR.out
      rw [hrl.out] at hvR hcR
      subst hvR
      have fb0_0 : wr.cell? ⟨w.heap.size, 0, none⟩ = some (Value.slice none 0 0) := b0.out.cell 0 rfl
      have fb0_z := b0.out.frozen
      have fb1_0 : wr.cell? ⟨w3.heap.size, 0, none⟩ = some (Value.slice AL l.length cL) := b1.out.cell 0 rfl
      have fb1_z := b1.out.frozen
      go_wp2_with fail
      clear fb0_0 fb0_z fb1_0 fb1_z
      refine (spec_l1Below 2 w _ g hC.out).mono ?_
      rintro e w8 ⟨y, rfl, y0, y1, _, hC1, hX⟩
      have hC := Hd.mk hC1; clear hC1
      have hSz0 := hB.out.size
      have hg_ := hG.out
      have z1_ := z1.out; have z2_ := z2.out; have z3_ := z3.out; have z4_ := z4.out; have z5_ := z5.out; have z6_ := z6.out; have z7_ := z7.out; have hzw_ := hzw.out
      have b0 := Hd.mk (b0.out.fr hX (fun h => by skip; (try simp only at h); omega))
      have b1 := Hd.mk (b1.out.fr hX (fun h => by skip; (try simp only at h); omega))
      have hL := Hd.mk (R_fr hL.out hX (fun k hk hl h => by skip; (try simp only [rng] at hk); (try simp only at hk); (try simp only at h); omega))
      have hR := Hd.mk (R_fr hR.out hX (fun k hk hl h => by have hg_ := hG.out; (try simp only [rng] at hk); (try simp only at hk); (try simp only at h); omega))
      have hB := Hd.mk (below_frS hB.out hX (fun k h => by (try simp only at h); omega))
      have hz_ := hX.size
      clear hSz0 hg_ hX
      have z8 := Hd.mk hz_; clear hz_
      replace y1 := y1 (by omega)
      by_cases hlt : (k : Int) < 24 + y
      · have hk24 : k ≤ 24 := by omega
        have fb0_0 : w8.cell? ⟨w.heap.size, 0, none⟩ = some (Value.slice none 0 0) := b0.out.cell 0 rfl
        have fb0_z := b0.out.frozen
        have fb1_0 : w8.cell? ⟨w3.heap.size, 0, none⟩ = some (Value.slice AL l.length cL) := b1.out.cell 0 rfl
        have fb1_z := b1.out.frozen
        go_wp2_with fail
        clear fb0_0 fb0_z fb1_0 fb1_z
        refine (spec_l1Max _ _ _).mono ?_
        rintro e w_ ⟨rfl, rfl⟩
        obtain ⟨m, hm⟩ : ∃ m : Nat, max (2 : Int) 0 = (m : Int) := ⟨(max (2 : Int) 0).toNat, by omega⟩
        rw [hm]
        have hm5 : m ≤ 5 := by omega
        have HM := Hd.mk hm; clear hm
        have hmk := make_eq (P := Try.prog) 22 3 (.int .i64 0) 1 8 Try.underlying22 info_int m (by omega) (by omega)
        have hM0 := R_made (d := int) (e := 3) (W := w8) (z := .int .i64 0) (S := fun k => k = w8.heap.size) 0 m (Nat.le_refl 1) (by omega) rfl (fun _ _ _ => rfl) rfl
        simp only [show int.sz = 1 from rfl, Nat.mul_one, show (Value.int .i64 0).cells = #[.int .i64 0] from rfl] at hM0
        have hM0 := Hd.mk (show tRow.O _ (fun k => k = w8.heap.size) ⟨(k : Int) + 1, List.replicate m 0⟩ [.int .i64 ((k : Int) + 1), .slice (some ⟨w8.heap.size, 0, none⟩) m m] from tRow_O.2 ⟨_, rfl, hM0⟩)
        have hR0 := Hd.mk (show tRow.R 41 w8 (rng w7.heap.size w8.heap.size) (.slice AR k cR) rs from R_bound hR.out); clear hR
        have z1_ := z1.out; have z2_ := z2.out; have z3_ := z3.out; have z4_ := z4.out; have z5_ := z5.out; have z6_ := z6.out; have z7_ := z7.out; have hzw_ := hzw.out; have z8_ := z8.out
        go_wp2_with (at_builtin; refine append_oneM tRow (n := w8.heap.size + 1) (by simp) rfl _ _ 68 41 (.agg #[.int .i64 0, .slice none 0 0]) 32 rfl Try.underlying68 info_RowS rfl (by decide) (by decide) (S := rng w7.heap.size w8.heap.size) (T := fun k => k = w8.heap.size) (S' := (fun k => w7.heap.size ≤ k)) (v := .slice AR k cR) (xs := rs) ⟨(k : Int) + 1, List.replicate m 0⟩ [.int .i64 ((k : Int) + 1), .slice (some ⟨w8.heap.size, 0, none⟩) m m] rfl rfl (R_below hR0.out (below_alloc (Below.refl _ _) _)) hM0.out (fun k h1 hl h2 => by have h5 := h2.2; have h6 : k = _ := h1; omega) (fun k h => h.1) (fun k h => by have h5 : k = _ := h; omega) (fun k h => by (try simp at h); omega) (by have := hrl.out; omega) (fun v2 w9 hv2 hX0 => ?_))
        have hX := (Fr.of_below (below_alloc (Below.refl w8.heap.size w8) _) _).trans hX0
        have hR2 := Hd.mk hv2; clear hv2 hX0 hR0 hM0 hmk
        have z1_ := z1.out; have z2_ := z2.out; have z3_ := z3.out; have z4_ := z4.out; have z5_ := z5.out; have z6_ := z6.out; have z7_ := z7.out; have hzw_ := hzw.out; have z8_ := z8.out
        have hSz := hB.out.size
        have b0 := Hd.mk (b0.out.fr hX (fun h => by have hlt_ := b0.out.lt; skip; (try simp only [rng] at h); (try simp only at h); omega))
        have b1 := Hd.mk (b1.out.fr hX (fun h => by have hlt_ := b1.out.lt; skip; (try simp only [rng] at h); (try simp only at h); omega))
        have hL := Hd.mk (R_fr hL.out hX (fun k hk hl h => by skip; (try simp only [rng] at hk h); (try simp only at hk); (try simp only at h); omega))
        have hC := Hd.mk (hC.out.fr hX (fun h => by have hg_ := hG.out; have hlt_ := hC.out.lt; (try simp only [rng] at h); (try simp only at h); omega) (fun k h => by have hg_ := hG.out; have hge_ := hC.out.ge; (try simp only [rng] at h); (try simp only at h); omega))
        have hB := Hd.mk (below_frS hB.out hX (fun k h => by skip; (try simp only [rng] at h); (try simp only at h); omega))
        have hz_ := hX.size
        clear hX
        have z9 := Hd.mk hz_; clear hz_
        go_wp2_with fail
        go_roundw
        case rel => exact ⟨k + 1, _, _, by omega, by go_num, rfl, ⟨by rw [List.length_append, hrl.out]; rfl⟩, b0, b1, hL, hR2, hC, hB, ⟨by have z1_ := z1.out; have z2_ := z2.out; have z3_ := z3.out; have z4_ := z4.out; have z5_ := z5.out; have z6_ := z6.out; have z7_ := z7.out; have hzw_ := hzw.out; have z8_ := z8.out; have z9_ := z9.out; show w7.heap.size ≤ w9.heap.size; omega⟩⟩
        case measure => simp [intOf]; omega
      · have hrl_ := hrl.out
        subst hrl_
        have hcR0 := hcR
        have hR0 := Hd.mk (R_bound hR.out); clear hR; have hR := hR0
        have z1_ := z1.out; have z2_ := z2.out; have z3_ := z3.out; have z4_ := z4.out; have z5_ := z5.out; have z6_ := z6.out; have z7_ := z7.out; have hzw_ := hzw.out; have z8_ := z8.out
        have fb0_0 : w8.cell? ⟨w.heap.size, 0, none⟩ = some (Value.slice none 0 0) := b0.out.cell 0 rfl
        have fb0_z := b0.out.frozen
        have fb1_0 : w8.cell? ⟨w3.heap.size, 0, none⟩ = some (Value.slice AL l.length cL) := b1.out.cell 0 rfl
        have fb1_z := b1.out.frozen
        go_wp2_with fail
        refine bodyPost_retW (v := .tuple #[.agg #[Value.slice AL l.length cL], .int .i64 t, .slice AR rs.length cR]) (by simp [results, Try.results32, go_sem, fb0_0, fb0_z, fb1_0, fb1_z]) rfl ?_
        intro W hW
        clear fb0_0 fb0_z fb1_0 fb1_z
        have hz_ : w8.heap.size ≤ W.heap.size := by rw [hW]; simp
        have eF : Fr w8 W (fun k => k = w.heap.size ∨ w8.heap.size ≤ k) := by rw [hW]; (repeat (first | with_reducible refine Fr.setCell ?_ _ (fun _ => by simp <;> omega) _ | with_reducible refine Fr.alloc ?_ _ | with_reducible refine Fr.drew ?_)); exact Fr.refl _ _
        have z1_ := z1.out; have z2_ := z2.out; have z3_ := z3.out; have z4_ := z4.out; have z5_ := z5.out; have z6_ := z6.out; have z7_ := z7.out; have hzw_ := hzw.out; have z8_ := z8.out
        have hC := Hd.mk (hC.out.fr eF (fun h => by have hg_ := hG.out; have hlt_ := hC.out.lt; (try simp only [rng] at h); (try simp only at h); omega) (fun k h => by have hg_ := hG.out; have hge_ := hC.out.ge; (try simp only [rng] at h); (try simp only at h); omega))
        have hB := Hd.mk (((Fr.of_below hB.out (fun k => k = w.heap.size ∨ w8.heap.size ≤ k)).then_ eF (fun k hk _ => hk)).below (fun k hk => by have := hB.out.size; omega))
        have b0 := Hd.mk (show Blk W (w.heap.size) #[Value.slice AL l.length cL] 34 by rw [hW]; exact (Blk.all b0.out [Value.slice AL l.length cL] rfl))
        have b1 := Hd.mk (b1.out.fr eF (fun h => by have hlt_ := b1.out.lt; (try simp only at h); omega))
        have hL := Hd.mk (R_fr hL.out eF (fun k hk hl h => by skip; (try simp only [rng] at hk); (try simp only at hk); (try simp only at h); omega))
        have hR := Hd.mk (R_fr hR.out eF (fun k hk hl h => by have q_ := hk.1; have hg_ := hG.out; (try simp only [rng] at hk); (try simp only at hk); (try simp only at h); omega))
        clear hW eF
        have z9 := Hd.mk hz_; clear hz_
        exact ⟨AL, cL, l, t, AR, cR, rs, rfl, hcL, R_Cv hL.out, (by first | exact hcR | exact Nat.le_refl _), R_Cv hR.out, hB.out⟩
  have hd0 : decide (x = 0) = false := decide_eq_false h0
  have hd1 : decide (x = 1) = false := decide_eq_false h1
  have he0 : (x == 0) = false := by simpa using h0
  have he1 : (x == 1) = false := by simpa using h1
  clear h0 h1
  have fb0_0 : w7.cell? ⟨w.heap.size, 0, none⟩ = some (Value.slice none 0 0) := b0.out.cell 0 rfl
  have fb0_z := b0.out.frozen
  have fb1_0 : w7.cell? ⟨w3.heap.size, 0, none⟩ = some (Value.slice AL l.length cL) := b1.out.cell 0 rfl
  have fb1_z := b1.out.frozen
  go_wp2_with fail
  refine bodyPost_retW (v := .tuple #[.agg #[Value.slice AL l.length cL], .int .i64 t, .slice AR rs.length cR]) (by simp [results, Try.results32, go_sem, fb0_0, fb0_z, fb1_0, fb1_z]) rfl ?_
  intro W hW
  clear fb0_0 fb0_z fb1_0 fb1_z
  have hz_ : w7.heap.size ≤ W.heap.size := by rw [hW]; simp
  have eF : Fr w7 W (fun k => k = w.heap.size ∨ w7.heap.size ≤ k) := by rw [hW]; (repeat (first | with_reducible refine Fr.setCell ?_ _ (fun _ => by simp <;> omega) _ | with_reducible refine Fr.alloc ?_ _ | with_reducible refine Fr.drew ?_)); exact Fr.refl _ _
  have z1_ := z1.out; have z2_ := z2.out; have z3_ := z3.out; have z4_ := z4.out; have z5_ := z5.out; have z6_ := z6.out; have z7_ := z7.out
  have hC := Hd.mk (hC.out.fr eF (fun h => by have hg_ := hG.out; have hlt_ := hC.out.lt; (try simp only [rng] at h); (try simp only at h); omega) (fun k h => by have hg_ := hG.out; have hge_ := hC.out.ge; (try simp only [rng] at h); (try simp only at h); omega))
  have hB := Hd.mk (((Fr.of_below hB.out (fun k => k = w.heap.size ∨ w7.heap.size ≤ k)).then_ eF (fun k hk _ => hk)).below (fun k hk => by have := hB.out.size; omega))
  have b0 := Hd.mk (show Blk W (w.heap.size) #[Value.slice AL l.length cL] 34 by rw [hW]; exact (Blk.all b0.out [Value.slice AL l.length cL] rfl))
  have b1 := Hd.mk (b1.out.fr eF (fun h => by have hlt_ := b1.out.lt; (try simp only at h); omega))
  have hL := Hd.mk (R_fr hL.out eF (fun k hk hl h => by skip; (try simp only [rng] at hk); (try simp only at hk); (try simp only at h); omega))
  have hR := Hd.mk (R_fr hR.out eF (fun k hk hl h => by skip; (try simp only [rng] at hk); (try simp only at hk); (try simp only at h); omega))
  clear hW eF
  have z8 := Hd.mk hz_; clear hz_
  exact ⟨AL, cL, l, t, AR, cR, rs, rfl, hcL, R_Cv hL.out, (by first | exact hcR | exact Nat.le_refl _), R_Cv hR.out, hB.out⟩
set_option maxHeartbeats 8000000 in
set_option maxRecDepth 100000 in
theorem spec_DrawRowOk (A : Option Addr) (c : Nat) (bs : List Int) (w : World) (hr : u8.C w A bs) (hbs : bs.length ≤ 1048576) :
    Calls Try.prog 35 #[.slice A bs.length c] w fun e w' => ∃ (A1 : Option Addr) (c1 : Nat) (l : List Int) (t : Int) (r : Row) (cs : List Value), e = .returned (.tuple #[.agg #[.slice A1 l.length c1], .int .i64 t, .agg cs.toArray]) ∧ l.length ≤ c1 ∧ int.C w' A1 l ∧ tRow.K w' r cs ∧ Below w.heap.size w w' := by
  have HBS := Hd.mk hr; clear hr
  have hB := Hd.mk (Below.refl w.heap.size w)
  go_enter Try.func35, Try.ntmps35
  go_wp2_with fail
  apply calls_gen; intro W1 hW
  have hz_ : w.heap.size + 2 ≤ W1.heap.size := by rw [hW]; simp
  have hE : Below w.heap.size w W1 := by rw [hW]; (repeat (first | with_reducible refine below_alloc ?_ _ | with_reducible refine below_drew ?_)); exact Below.refl _ _
  have hB := Hd.mk (below_then hB.out hE)
  have b0 := Hd.mk (show Blk W1 (w.heap.size) #[Value.slice none 0 0] 34 by rw [hW]; first | exact ((Blk.new _ _ _).alloc _) | (simpa using ((Blk.new _ _ _).alloc _)))
  have b1 := Hd.mk (show Blk W1 (w.heap.size + 1) #[Value.int IntKind.i64 0, Value.slice none 0 0] 41 by rw [hW]; first | exact (Blk.new1 _ _ _ _) | (simpa using (Blk.new1 _ _ _ _)))
  clear hW hE
  have z1 := Hd.mk hz_; clear hz_
  refine (spec_l1New _ _ bs w W1 HBS.out hbs hB.out).mono ?_
  rintro e w2 ⟨g, rfl, hge, hC1, hX⟩
  have b0 := Hd.mk (b0.out.below hX)
  have b1 := Hd.mk (b1.out.below hX)
  have hG := Hd.mk (show W1.heap.size ≤ g ∧ g < w2.heap.size from ⟨hge, hC1.lt⟩)
  have hC := Hd.mk hC1; clear hC1 hge
  have hB := Hd.mk (below_then hB.out hX)
  have hz_ := hX.size
  clear hX
  have z2 := Hd.mk hz_; clear hz_
  have fb0_0 : w2.cell? ⟨w.heap.size, 0, none⟩ = some (Value.slice none 0 0) := b0.out.cell 0 rfl
  have fb0_z := b0.out.frozen
  have fb1_0 : w2.cell? ⟨w.heap.size + 1, 0, none⟩ = some (Value.int IntKind.i64 0) := b1.out.cell 0 rfl
  have fb1_1 : w2.cell? ⟨w.heap.size + 1, 1, none⟩ = some (Value.slice none 0 0) := b1.out.cell 1 rfl
  have fb1_z := b1.out.frozen
  go_wp2_with fail
  clear fb0_0 fb0_z fb1_0 fb1_1 fb1_z
  refine (spec_l6DrawBad w _ g hC.out).mono ?_
  rintro e w3 ⟨v, l, rfl, hL, hl6, hP, hC1, hX⟩
  have hC := Hd.mk hC1; clear hC1
  have hSz0 := hB.out.size
  have hg_ := hG.out
  have z1_ := z1.out; have z2_ := z2.out
  have b0 := Hd.mk (b0.out.fr hX (fun h => by skip; (try simp only at h); omega))
  have b1 := Hd.mk (b1.out.fr hX (fun h => by skip; (try simp only at h); omega))
  have hB := Hd.mk (below_frS hB.out hX (fun k h => by (try simp only at h); omega))
  have hz_ := hX.size
  clear hSz0 hg_ hX
  have z3 := Hd.mk hz_; clear hz_
  obtain ⟨AL, cL, hvL, hcL, _⟩ := R_C hL
  subst hvL
  have hL := Hd.mk (show int.R 3 w3 (rng w2.heap.size w3.heap.size) _ l from R_bound hL)
  replace hP := Hd.mk hP
  have fb0_0 : w3.cell? ⟨w.heap.size, 0, none⟩ = some (Value.slice none 0 0) := b0.out.cell 0 rfl
  have fb0_z := b0.out.frozen
  have fb1_0 : w3.cell? ⟨w.heap.size + 1, 0, none⟩ = some (Value.int IntKind.i64 0) := b1.out.cell 0 rfl
  have fb1_1 : w3.cell? ⟨w.heap.size + 1, 1, none⟩ = some (Value.slice none 0 0) := b1.out.cell 1 rfl
  have fb1_z := b1.out.frozen
  go_wp2_with fail
  clear fb0_0 fb0_z fb1_0 fb1_1 fb1_z
  apply calls_gen; intro W4 hW
  have hz_ : w3.heap.size + 1 ≤ W4.heap.size := by rw [hW]; simp
  have hE : Below w3.heap.size w3 W4 := by rw [hW]; (repeat (first | with_reducible refine below_alloc ?_ _ | with_reducible refine below_drew ?_)); exact Below.refl _ _
  have hB := Hd.mk (below_then hB.out hE)
  have hC := Hd.mk (hC.out.below hE)
  have b0 := Hd.mk (b0.out.below hE)
  have b1 := Hd.mk (b1.out.below hE)
  have b2 := Hd.mk (show Blk W4 (w3.heap.size) #[Value.slice AL l.length cL] 34 by rw [hW]; first | exact (Blk.new _ _ _) | (simpa using (Blk.new _ _ _)))
  have hL := Hd.mk (R_below hL.out hE)
  clear hW hE
  have z4 := Hd.mk hz_; clear hz_
  refine (spec_l1Below 4 w _ g hC.out).mono ?_
  rintro e w5 ⟨x, rfl, x0, x1, _, hC1, hX⟩
  have hC := Hd.mk hC1; clear hC1
  have hSz0 := hB.out.size
  have hg_ := hG.out
  have z1_ := z1.out; have z2_ := z2.out; have z3_ := z3.out; have z4_ := z4.out
  have b0 := Hd.mk (b0.out.fr hX (fun h => by skip; (try simp only at h); omega))
  have b1 := Hd.mk (b1.out.fr hX (fun h => by skip; (try simp only at h); omega))
  have b2 := Hd.mk (b2.out.fr hX (fun h => by skip; (try simp only at h); omega))
  have hL := Hd.mk (R_fr hL.out hX (fun k hk hl h => by skip; (try simp only [rng] at hk); (try simp only at hk); (try simp only at h); omega))
  have hB := Hd.mk (below_frS hB.out hX (fun k h => by (try simp only at h); omega))
  have hz_ := hX.size
  clear hSz0 hg_ hX
  have z5 := Hd.mk hz_; clear hz_
  have fb0_0 : w5.cell? ⟨w.heap.size, 0, none⟩ = some (Value.slice none 0 0) := b0.out.cell 0 rfl
  have fb0_z := b0.out.frozen
  have fb1_0 : w5.cell? ⟨w.heap.size + 1, 0, none⟩ = some (Value.int IntKind.i64 0) := b1.out.cell 0 rfl
  have fb1_1 : w5.cell? ⟨w.heap.size + 1, 1, none⟩ = some (Value.slice none 0 0) := b1.out.cell 1 rfl
  have fb1_z := b1.out.frozen
  have fb2_0 : w5.cell? ⟨w3.heap.size, 0, none⟩ = some (Value.slice AL l.length cL) := b2.out.cell 0 rfl
  have fb2_z := b2.out.frozen
  go_wp2_with fail
  clear fb0_0 fb0_z fb1_0 fb1_1 fb1_z fb2_0 fb2_z
  refine (spec_l1Below 12 w _ g hC.out).mono ?_
  rintro e w6 ⟨y, rfl, y0, y1, _, hC1, hX⟩
  have hC := Hd.mk hC1; clear hC1
  have hSz0 := hB.out.size
  have hg_ := hG.out
  have z1_ := z1.out; have z2_ := z2.out; have z3_ := z3.out; have z4_ := z4.out; have z5_ := z5.out
  have b0 := Hd.mk (b0.out.fr hX (fun h => by skip; (try simp only at h); omega))
  have b1 := Hd.mk (b1.out.fr hX (fun h => by skip; (try simp only at h); omega))
  have b2 := Hd.mk (b2.out.fr hX (fun h => by skip; (try simp only at h); omega))
  have hL := Hd.mk (R_fr hL.out hX (fun k hk hl h => by skip; (try simp only [rng] at hk); (try simp only at hk); (try simp only at h); omega))
  have hB := Hd.mk (below_frS hB.out hX (fun k h => by (try simp only at h); omega))
  have hz_ := hX.size
  clear hSz0 hg_ hX
  have z6 := Hd.mk hz_; clear hz_
  replace x1 := x1 (by omega)
  replace y1 := y1 (by omega)
  have hq1 : y.tdiv 11 = y / 11 := Int.tdiv_eq_ediv_of_nonneg y0
  have hq2 : 0 ≤ y / 11 ∧ y / 11 ≤ 1 := by omega
  have fb0_0 : w6.cell? ⟨w.heap.size, 0, none⟩ = some (Value.slice none 0 0) := b0.out.cell 0 rfl
  have fb0_z := b0.out.frozen
  have fb1_0 : w6.cell? ⟨w.heap.size + 1, 0, none⟩ = some (Value.int IntKind.i64 0) := b1.out.cell 0 rfl
  have fb1_1 : w6.cell? ⟨w.heap.size + 1, 1, none⟩ = some (Value.slice none 0 0) := b1.out.cell 1 rfl
  have fb1_z := b1.out.frozen
  have fb2_0 : w6.cell? ⟨w3.heap.size, 0, none⟩ = some (Value.slice AL l.length cL) := b2.out.cell 0 rfl
  have fb2_z := b2.out.frozen
  go_wp2_with fail
  clear fb0_0 fb0_z fb1_0 fb1_1 fb1_z fb2_0 fb2_z
  obtain ⟨t, ht⟩ : ∃ z, z = x - y / 11 := ⟨_, rfl⟩
  rw [← ht]
  have htb : -1 ≤ t ∧ t ≤ 3 := by omega
  clear ht hq1 hq2 x0 x1 y0 y1
  refine (spec_l1In _ _ _ _).mono ?_
  rintro e w_ ⟨rfl, rfl⟩
  cases hin : inB t 0 (l.length - 1)
  · have fb0_0 : w6.cell? ⟨w.heap.size, 0, none⟩ = some (Value.slice none 0 0) := b0.out.cell 0 rfl
    have fb0_z := b0.out.frozen
    have fb1_0 : w6.cell? ⟨w.heap.size + 1, 0, none⟩ = some (Value.int IntKind.i64 0) := b1.out.cell 0 rfl
    have fb1_1 : w6.cell? ⟨w.heap.size + 1, 1, none⟩ = some (Value.slice none 0 0) := b1.out.cell 1 rfl
    have fb1_z := b1.out.frozen
    have fb2_0 : w6.cell? ⟨w3.heap.size, 0, none⟩ = some (Value.slice AL l.length cL) := b2.out.cell 0 rfl
    have fb2_z := b2.out.frozen
    go_wp2_with fail
    clear fb0_0 fb0_z fb1_0 fb1_1 fb1_z fb2_0 fb2_z
    refine (spec_l6DrawRow (2 : Int) (by omega) w _ g hC.out).mono ?_
    rintro e w7 ⟨r, cs0, rfl, hO0, _, _, hr0, hC1, hX⟩
    have hC := Hd.mk hC1; clear hC1
    have hSz0 := hB.out.size
    have hg_ := hG.out
    have z1_ := z1.out; have z2_ := z2.out; have z3_ := z3.out; have z4_ := z4.out; have z5_ := z5.out; have z6_ := z6.out
    have b0 := Hd.mk (b0.out.fr hX (fun h => by skip; (try simp only at h); omega))
    have b1 := Hd.mk (b1.out.fr hX (fun h => by skip; (try simp only at h); omega))
    have b2 := Hd.mk (b2.out.fr hX (fun h => by skip; (try simp only at h); omega))
    have hL := Hd.mk (R_fr hL.out hX (fun k hk hl h => by skip; (try simp only [rng] at hk); (try simp only at hk); (try simp only at h); omega))
    have hB := Hd.mk (below_frS hB.out hX (fun k h => by (try simp only at h); omega))
    have hz_ := hX.size
    clear hSz0 hg_ hX
    have z7 := Hd.mk hz_; clear hz_
    obtain ⟨rid, rc⟩ := r
    obtain ⟨v3, hcs0, hv3⟩ := tRow_O.1 hO0
    simp only at hcs0 hv3 hr0
    subst hcs0
    obtain ⟨D3, d3, rfl, hcD, _⟩ := R_C hv3
    have hQ := Hd.mk (show int.R 3 w7 (rng w6.heap.size w7.heap.size) (.slice D3 rc.length d3) rc from R_bound hv3); clear hv3
    have hrc5 : rc.length ≤ 5 := by omega
    clear hr0
    have fb0_0 : w7.cell? ⟨w.heap.size, 0, none⟩ = some (Value.slice none 0 0) := b0.out.cell 0 rfl
    have fb0_z := b0.out.frozen
    have fb1_0 : w7.cell? ⟨w.heap.size + 1, 0, none⟩ = some (Value.int IntKind.i64 0) := b1.out.cell 0 rfl
    have fb1_1 : w7.cell? ⟨w.heap.size + 1, 1, none⟩ = some (Value.slice none 0 0) := b1.out.cell 1 rfl
    have fb1_z := b1.out.frozen
    have fb2_0 : w7.cell? ⟨w3.heap.size, 0, none⟩ = some (Value.slice AL l.length cL) := b2.out.cell 0 rfl
    have fb2_z := b2.out.frozen
    go_wp2_with fail
    clear fb0_0 fb0_z fb1_0 fb1_1 fb1_z fb2_0 fb2_z
    apply calls_gen; intro W8 hW
    have hz_ : w7.heap.size + 1 ≤ W8.heap.size := by rw [hW]; simp
    have hE : Below w7.heap.size w7 W8 := by rw [hW]; (repeat (first | with_reducible refine below_alloc ?_ _ | with_reducible refine below_drew ?_)); exact Below.refl _ _
    have hB := Hd.mk (below_then hB.out hE)
    have hC := Hd.mk (hC.out.below hE)
    have b0 := Hd.mk (b0.out.below hE)
    have b1 := Hd.mk (b1.out.below hE)
    have b2 := Hd.mk (b2.out.below hE)
    have b3 := Hd.mk (show Blk W8 (w7.heap.size) #[Value.int IntKind.i64 rid, Value.slice D3 rc.length d3] 41 by rw [hW]; first | exact (Blk.new _ _ _) | (simpa using (Blk.new _ _ _)))
    have hL := Hd.mk (R_below hL.out hE)
    have hQ := Hd.mk (R_below hQ.out hE)
    clear hW hE
    have z8 := Hd.mk hz_; clear hz_
    refine (spec_l1Below 9 w _ g hC.out).mono ?_
    rintro e w9 ⟨z, rfl, z0_, z1_, _, hC1, hX⟩
    have hC := Hd.mk hC1; clear hC1
    have hSz0 := hB.out.size
    have hg_ := hG.out
    have z1_ := z1.out; have z2_ := z2.out; have z3_ := z3.out; have z4_ := z4.out; have z5_ := z5.out; have z6_ := z6.out; have z7_ := z7.out; have z8_ := z8.out
    have b0 := Hd.mk (b0.out.fr hX (fun h => by skip; (try simp only at h); omega))
    have b1 := Hd.mk (b1.out.fr hX (fun h => by skip; (try simp only at h); omega))
    have b2 := Hd.mk (b2.out.fr hX (fun h => by skip; (try simp only at h); omega))
    have b3 := Hd.mk (b3.out.fr hX (fun h => by skip; (try simp only at h); omega))
    have hL := Hd.mk (R_fr hL.out hX (fun k hk hl h => by skip; (try simp only [rng] at hk); (try simp only at hk); (try simp only at h); omega))
    have hQ := Hd.mk (R_fr hQ.out hX (fun k hk hl h => by skip; (try simp only [rng] at hk); (try simp only at hk); (try simp only at h); omega))
    have hB := Hd.mk (below_frS hB.out hX (fun k h => by (try simp only at h); omega))
    have hz_ := hX.size
    clear hSz0 hg_ hX
    have z9 := Hd.mk hz_; clear hz_
    clear z0_ z1_
    by_cases h0 : z = 0
    · subst h0
      have fb0_0 : w9.cell? ⟨w.heap.size, 0, none⟩ = some (Value.slice none 0 0) := b0.out.cell 0 rfl
      have fb0_z := b0.out.frozen
      have fb1_0 : w9.cell? ⟨w.heap.size + 1, 0, none⟩ = some (Value.int IntKind.i64 0) := b1.out.cell 0 rfl
      have fb1_1 : w9.cell? ⟨w.heap.size + 1, 1, none⟩ = some (Value.slice none 0 0) := b1.out.cell 1 rfl
      have fb1_z := b1.out.frozen
      have fb2_0 : w9.cell? ⟨w3.heap.size, 0, none⟩ = some (Value.slice AL l.length cL) := b2.out.cell 0 rfl
      have fb2_z := b2.out.frozen
      have fb3_0 : w9.cell? ⟨w7.heap.size, 0, none⟩ = some (Value.int IntKind.i64 rid) := b3.out.cell 0 rfl
      have fb3_1 : w9.cell? ⟨w7.heap.size, 1, none⟩ = some (Value.slice D3 rc.length d3) := b3.out.cell 1 rfl
      have fb3_z := b3.out.frozen
      go_wp2_with fail
      clear fb0_0 fb0_z fb1_0 fb1_1 fb1_z fb2_0 fb2_z fb3_0 fb3_1 fb3_z
      apply calls_gen; intro W10 hW
      have hE0 := Hd.mk (show int.R 3 W10 (fun k => k = w9.heap.size) (.slice (some ⟨w9.heap.size, 0, none⟩) 3 3) [0, 999, 1000] by rw [hW]; exact R_ints (W0 := w9) [0, 999, 1000] (by decide))
      have hz_ : w9.heap.size + 1 ≤ W10.heap.size := by rw [hW]; simp
      have hE : Below w9.heap.size w9 W10 := by rw [hW]; (repeat (first | with_reducible refine below_alloc ?_ _ | with_reducible refine below_drew ?_)); exact Below.refl _ _
      have hB := Hd.mk (below_then hB.out hE)
      have hC := Hd.mk (hC.out.below hE)
      have b0 := Hd.mk (b0.out.below hE)
      have b1 := Hd.mk (b1.out.below hE)
      have b2 := Hd.mk (b2.out.below hE)
      have b3 := Hd.mk (b3.out.below hE)
      have hL := Hd.mk (R_below hL.out hE)
      have hQ := Hd.mk (R_below hQ.out hE)
      clear hW hE
      have z10 := Hd.mk hz_; clear hz_
      have z1_ := z1.out; have z2_ := z2.out; have z3_ := z3.out; have z4_ := z4.out; have z5_ := z5.out; have z6_ := z6.out; have z7_ := z7.out; have z8_ := z8.out; have z9_ := z9.out; have z10_ := z10.out
      have hgx := hG.out
      have hCl := hC.out.lt
      have hEg := Hd.mk (show ¬ (fun k => k = w9.heap.size) g by (try simp only); omega)
      refine (spec_l1PickInt _ _ _ [0, 999, 1000] w _ g hE0.out hEg.out rfl (by decide) (by decide) hC.out).mono ?_
      rintro e w11 ⟨u, rfl, _, hC1, hX⟩
      have hC := Hd.mk hC1; clear hC1
      have hSz0 := hB.out.size
      have hg_ := hG.out
      have z1_ := z1.out; have z2_ := z2.out; have z3_ := z3.out; have z4_ := z4.out; have z5_ := z5.out; have z6_ := z6.out; have z7_ := z7.out; have z8_ := z8.out; have z9_ := z9.out; have z10_ := z10.out
      have b0 := Hd.mk (b0.out.fr hX (fun h => by skip; (try simp only at h); omega))
      have b1 := Hd.mk (b1.out.fr hX (fun h => by skip; (try simp only at h); omega))
      have b2 := Hd.mk (b2.out.fr hX (fun h => by skip; (try simp only at h); omega))
      have b3 := Hd.mk (b3.out.fr hX (fun h => by skip; (try simp only at h); omega))
      have hL := Hd.mk (R_fr hL.out hX (fun k hk hl h => by skip; (try simp only [rng] at hk); (try simp only at hk); (try simp only at h); omega))
      have hQ := Hd.mk (R_fr hQ.out hX (fun k hk hl h => by skip; (try simp only [rng] at hk); (try simp only at hk); (try simp only at h); omega))
      have hB := Hd.mk (below_frS hB.out hX (fun k h => by (try simp only at h); omega))
      have hz_ := hX.size
      clear hSz0 hg_ hX
      have z11 := Hd.mk hz_; clear hz_
      clear hE0 hEg
      have fb0_0 : w11.cell? ⟨w.heap.size, 0, none⟩ = some (Value.slice none 0 0) := b0.out.cell 0 rfl
      have fb0_z := b0.out.frozen
      have fb1_0 : w11.cell? ⟨w.heap.size + 1, 0, none⟩ = some (Value.int IntKind.i64 0) := b1.out.cell 0 rfl
      have fb1_1 : w11.cell? ⟨w.heap.size + 1, 1, none⟩ = some (Value.slice none 0 0) := b1.out.cell 1 rfl
      have fb1_z := b1.out.frozen
      have fb2_0 : w11.cell? ⟨w3.heap.size, 0, none⟩ = some (Value.slice AL l.length cL) := b2.out.cell 0 rfl
      have fb2_z := b2.out.frozen
      have fb3_0 : w11.cell? ⟨w7.heap.size, 0, none⟩ = some (Value.int IntKind.i64 rid) := b3.out.cell 0 rfl
      have fb3_1 : w11.cell? ⟨w7.heap.size, 1, none⟩ = some (Value.slice D3 rc.length d3) := b3.out.cell 1 rfl
      have fb3_z := b3.out.frozen
      go_wp2_with fail
      clear fb0_0 fb0_z fb1_0 fb1_1 fb1_z fb2_0 fb2_z fb3_0 fb3_1 fb3_z
      apply wp_gen; intro W12 hW
      have hz_ : w11.heap.size ≤ W12.heap.size := by rw [hW]; simp
      have eF : Fr w11 W12 (fun k => k = w7.heap.size ∨ w11.heap.size ≤ k) := by rw [hW]; (repeat (first | with_reducible refine Fr.setCell ?_ _ (fun _ => by simp <;> omega) _ | with_reducible refine Fr.alloc ?_ _ | with_reducible refine Fr.drew ?_)); exact Fr.refl _ _
      have z1_ := z1.out; have z2_ := z2.out; have z3_ := z3.out; have z4_ := z4.out; have z5_ := z5.out; have z6_ := z6.out; have z7_ := z7.out; have z8_ := z8.out; have z9_ := z9.out; have z10_ := z10.out; have z11_ := z11.out
      have hC := Hd.mk (hC.out.fr eF (fun h => by have hg_ := hG.out; have hlt_ := hC.out.lt; (try simp only [rng] at h); (try simp only at h); omega) (fun k h => by have hg_ := hG.out; have hge_ := hC.out.ge; (try simp only [rng] at h); (try simp only at h); omega))
      have hB := Hd.mk (((Fr.of_below hB.out (fun k => k = w7.heap.size ∨ w11.heap.size ≤ k)).then_ eF (fun k hk _ => hk)).below (fun k hk => by have := hB.out.size; omega))
      have b0 := Hd.mk (b0.out.fr eF (fun h => by have hlt_ := b0.out.lt; (try simp only at h); omega))
      have b1 := Hd.mk (b1.out.fr eF (fun h => by have hlt_ := b1.out.lt; (try simp only at h); omega))
      have b2 := Hd.mk (b2.out.fr eF (fun h => by have hlt_ := b2.out.lt; (try simp only at h); omega))
      have b3 := Hd.mk (show Blk W12 (w7.heap.size) #[Value.int IntKind.i64 u, Value.slice D3 rc.length d3] 41 by rw [hW]; exact (b3.out.set 0 (Value.int IntKind.i64 u)))
      have hL := Hd.mk (R_fr hL.out eF (fun k hk hl h => by skip; (try simp only [rng] at hk); (try simp only at hk); (try simp only at h); omega))
      have hQ := Hd.mk (R_fr hQ.out eF (fun k hk hl h => by skip; (try simp only [rng] at hk); (try simp only at hk); (try simp only at h); omega))
      clear hW eF
      have z12 := Hd.mk hz_; clear hz_
      have sb0 := Hd.mk b0.out
      have sb1 := Hd.mk b1.out
      have sb2 := Hd.mk b2.out
      have sb3 := Hd.mk b3.out
      refine region_mixC (fun w2 => Fr W12 w2 (fun k => k = g ∨ k = w.heap.size)) (.q 0 (.p 1 (.q 2 (.b 3 (.b 4 .fin))))) [5] (by kernel_rfl) (Fr.drew (Fr.refl _ _)) (by kernel_rfl) (fun _ _ _ _ _ h => h) ?_
      refine genT ?_
      intro W13 hW
      have hS := Hd.mk (show Fr W12 W13 (fun k => k = g ∨ k = w.heap.size) by rw [hW]; exact Fr.drew (Fr.refl _ _))
      have hz_ : W12.heap.size ≤ W13.heap.size := by rw [hW]; simp
      have hE : Below W12.heap.size W12 W13 := by rw [hW]; (repeat (first | with_reducible refine below_alloc ?_ _ | with_reducible refine below_drew ?_)); exact Below.refl _ _
      have hB := Hd.mk (below_then hB.out hE)
      have hC := Hd.mk (hC.out.below hE)
      have b0 := Hd.mk (b0.out.below hE)
      have b1 := Hd.mk (b1.out.below hE)
      have b2 := Hd.mk (b2.out.below hE)
      have b3 := Hd.mk (b3.out.below hE)
      have hL := Hd.mk (R_below hL.out hE)
      have hQ := Hd.mk (R_below hQ.out hE)
      clear hW hE
      have z13 := Hd.mk hz_; clear hz_
      refine mixT_see rfl (by rfl) (Value.agg #[Value.slice AL l.length cL]) (fun w_ hw_ => by have z1_ := z1.out; have z2_ := z2.out; have z3_ := z3.out; have z4_ := z4.out; have z5_ := z5.out; have z6_ := z6.out; have z7_ := z7.out; have z8_ := z8.out; have z9_ := z9.out; have z10_ := z10.out; have z11_ := z11.out; have z12_ := z12.out; have z13_ := z13.out; have f0_ := (sb2.out.fr hw_ (fun h => by have hg_ := hG.out; skip; have hlt_ := sb2.out.lt; (try simp only at h); omega)).cell 0 rfl; simp [execOp, go_sem, f0_]) hS.out ?_
      have fb0_0 : W13.cell? ⟨w.heap.size, 0, none⟩ = some (Value.slice none 0 0) := b0.out.cell 0 rfl
      have fb0_z := b0.out.frozen
      have fb1_0 : W13.cell? ⟨w.heap.size + 1, 0, none⟩ = some (Value.int IntKind.i64 0) := b1.out.cell 0 rfl
      have fb1_1 : W13.cell? ⟨w.heap.size + 1, 1, none⟩ = some (Value.slice none 0 0) := b1.out.cell 1 rfl
      have fb1_z := b1.out.frozen
      have fb2_0 : W13.cell? ⟨w3.heap.size, 0, none⟩ = some (Value.slice AL l.length cL) := b2.out.cell 0 rfl
      have fb2_z := b2.out.frozen
      have fb3_0 : W13.cell? ⟨w7.heap.size, 0, none⟩ = some (Value.int IntKind.i64 u) := b3.out.cell 0 rfl
      have fb3_1 : W13.cell? ⟨w7.heap.size, 1, none⟩ = some (Value.slice D3 rc.length d3) := b3.out.cell 1 rfl
      have fb3_z := b3.out.frozen
      go_wp2_with fail
      refine mixQ_n ?_
      clear fb0_0 fb0_z fb1_0 fb1_1 fb1_z fb2_0 fb2_z fb3_0 fb3_1 fb3_z
      refine mixT_p rfl ?_
      go_big_quiet_want; go_big_quiet_op; go_big_quiet_on; refine wpQuiet_nil ?_
      refine mixT_see rfl (by rfl) (Value.agg #[Value.int IntKind.i64 u, Value.slice D3 rc.length d3]) (fun w_ hw_ => by have z1_ := z1.out; have z2_ := z2.out; have z3_ := z3.out; have z4_ := z4.out; have z5_ := z5.out; have z6_ := z6.out; have z7_ := z7.out; have z8_ := z8.out; have z9_ := z9.out; have z10_ := z10.out; have z11_ := z11.out; have z12_ := z12.out; have z13_ := z13.out; have f0_ := (sb3.out.fr hw_ (fun h => by have hg_ := hG.out; skip; have hlt_ := sb3.out.lt; (try simp only at h); omega)).cell 0 rfl; have f1_ := (sb3.out.fr hw_ (fun h => by have hg_ := hG.out; skip; have hlt_ := sb3.out.lt; (try simp only at h); omega)).cell 1 rfl; simp [execOp, go_sem, f0_, f1_]) hS.out ?_
      have fb0_0 : W13.cell? ⟨w.heap.size, 0, none⟩ = some (Value.slice none 0 0) := b0.out.cell 0 rfl
      have fb0_z := b0.out.frozen
      have fb1_0 : W13.cell? ⟨w.heap.size + 1, 0, none⟩ = some (Value.int IntKind.i64 0) := b1.out.cell 0 rfl
      have fb1_1 : W13.cell? ⟨w.heap.size + 1, 1, none⟩ = some (Value.slice none 0 0) := b1.out.cell 1 rfl
      have fb1_z := b1.out.frozen
      have fb2_0 : W13.cell? ⟨w3.heap.size, 0, none⟩ = some (Value.slice AL l.length cL) := b2.out.cell 0 rfl
      have fb2_z := b2.out.frozen
      have fb3_0 : W13.cell? ⟨w7.heap.size, 0, none⟩ = some (Value.int IntKind.i64 u) := b3.out.cell 0 rfl
      have fb3_1 : W13.cell? ⟨w7.heap.size, 1, none⟩ = some (Value.slice D3 rc.length d3) := b3.out.cell 1 rfl
      have fb3_z := b3.out.frozen
      go_wp2_with fail
      refine mixQ_n ?_
      clear fb0_0 fb0_z fb1_0 fb1_1 fb1_z fb2_0 fb2_z fb3_0 fb3_1 fb3_z
      refine mixT_b rfl ?_ (by rfl)
      have fb0_0 : W13.cell? ⟨w.heap.size, 0, none⟩ = some (Value.slice none 0 0) := b0.out.cell 0 rfl
      have fb0_z := b0.out.frozen
      have fb1_0 : W13.cell? ⟨w.heap.size + 1, 0, none⟩ = some (Value.int IntKind.i64 0) := b1.out.cell 0 rfl
      have fb1_1 : W13.cell? ⟨w.heap.size + 1, 1, none⟩ = some (Value.slice none 0 0) := b1.out.cell 1 rfl
      have fb1_z := b1.out.frozen
      have fb2_0 : W13.cell? ⟨w3.heap.size, 0, none⟩ = some (Value.slice AL l.length cL) := b2.out.cell 0 rfl
      have fb2_z := b2.out.frozen
      have fb3_0 : W13.cell? ⟨w7.heap.size, 0, none⟩ = some (Value.int IntKind.i64 u) := b3.out.cell 0 rfl
      have fb3_1 : W13.cell? ⟨w7.heap.size, 1, none⟩ = some (Value.slice D3 rc.length d3) := b3.out.cell 1 rfl
      have fb3_z := b3.out.frozen
      go_wp2_with fail
      clear fb0_0 fb0_z fb1_0 fb1_1 fb1_z fb2_0 fb2_z fb3_0 fb3_1 fb3_z
      refine ⟨by repeat (first | exact hS.out | refine Fr.setCell ?_ _ (fun _ => by simp) _), ?_⟩
      refine genT ?_; intro W14 hW
      replace hS := Hd.mk (show Fr W12 W14 (fun k => k = g ∨ k = w.heap.size) by rw [hW]; exact (by repeat (first | exact hS.out | refine Fr.setCell ?_ _ (fun _ => by simp) _)))
      have hz_ : W13.heap.size ≤ W14.heap.size := by rw [hW]; simp
      have eF : Fr W13 W14 (fun k => k = w.heap.size ∨ W13.heap.size ≤ k) := by rw [hW]; (repeat (first | with_reducible refine Fr.setCell ?_ _ (fun _ => by simp <;> omega) _ | with_reducible refine Fr.alloc ?_ _ | with_reducible refine Fr.drew ?_)); exact Fr.refl _ _
      have z1_ := z1.out; have z2_ := z2.out; have z3_ := z3.out; have z4_ := z4.out; have z5_ := z5.out; have z6_ := z6.out; have z7_ := z7.out; have z8_ := z8.out; have z9_ := z9.out; have z10_ := z10.out; have z11_ := z11.out; have z12_ := z12.out; have z13_ := z13.out
      have hC := Hd.mk (hC.out.fr eF (fun h => by have hg_ := hG.out; have hlt_ := hC.out.lt; (try simp only [rng] at h); (try simp only at h); omega) (fun k h => by have hg_ := hG.out; have hge_ := hC.out.ge; (try simp only [rng] at h); (try simp only at h); omega))
      have hB := Hd.mk (((Fr.of_below hB.out (fun k => k = w.heap.size ∨ W13.heap.size ≤ k)).then_ eF (fun k hk _ => hk)).below (fun k hk => by have := hB.out.size; omega))
      have b0 := Hd.mk (show Blk W14 (w.heap.size) #[Value.slice AL l.length cL] 34 by rw [hW]; exact (Blk.all b0.out [Value.slice AL l.length cL] rfl))
      have b1 := Hd.mk (b1.out.fr eF (fun h => by have hlt_ := b1.out.lt; (try simp only at h); omega))
      have b2 := Hd.mk (b2.out.fr eF (fun h => by have hlt_ := b2.out.lt; (try simp only at h); omega))
      have b3 := Hd.mk (b3.out.fr eF (fun h => by have hlt_ := b3.out.lt; (try simp only at h); omega))
      have hL := Hd.mk (R_fr hL.out eF (fun k hk hl h => by skip; (try simp only [rng] at hk); (try simp only at hk); (try simp only at h); omega))
      have hQ := Hd.mk (R_fr hQ.out eF (fun k hk hl h => by skip; (try simp only [rng] at hk); (try simp only at hk); (try simp only at h); omega))
      clear hW eF
      have z14 := Hd.mk hz_; clear hz_
      refine mixT_b rfl ?_ (by rfl)
      go_wp2_with fail
      refine ⟨hS.out, ?_⟩
      refine mixT_fin ?_
      clear hS
      have fb0_0 : W14.cell? ⟨w.heap.size, 0, none⟩ = some (Value.slice AL l.length cL) := b0.out.cell 0 rfl
      have fb0_z := b0.out.frozen
      have fb1_0 : W14.cell? ⟨w.heap.size + 1, 0, none⟩ = some (Value.int IntKind.i64 0) := b1.out.cell 0 rfl
      have fb1_1 : W14.cell? ⟨w.heap.size + 1, 1, none⟩ = some (Value.slice none 0 0) := b1.out.cell 1 rfl
      have fb1_z := b1.out.frozen
      have fb2_0 : W14.cell? ⟨w3.heap.size, 0, none⟩ = some (Value.slice AL l.length cL) := b2.out.cell 0 rfl
      have fb2_z := b2.out.frozen
      have fb3_0 : W14.cell? ⟨w7.heap.size, 0, none⟩ = some (Value.int IntKind.i64 u) := b3.out.cell 0 rfl
      have fb3_1 : W14.cell? ⟨w7.heap.size, 1, none⟩ = some (Value.slice D3 rc.length d3) := b3.out.cell 1 rfl
      have fb3_z := b3.out.frozen
      refine tail_b rfl ?_ (by rfl)
      go_wp2_with fail
      refine mixQ_n ?_
      refine tail_nil ?_
      go_wp2_with fail
      refine bodyPost_retW (v := .tuple #[.agg #[Value.slice AL l.length cL], .int .i64 t, .agg #[Value.int IntKind.i64 u, Value.slice D3 rc.length d3]]) (by simp [results, Try.results35, go_sem, fb0_0, fb0_z, fb1_0, fb1_1, fb1_z, fb2_0, fb2_z, fb3_0, fb3_1, fb3_z]) rfl ?_
      intro W hW
      clear fb0_0 fb0_z fb1_0 fb1_1 fb1_z fb2_0 fb2_z fb3_0 fb3_1 fb3_z
      have hz_ : W14.heap.size ≤ W.heap.size := by rw [hW]; simp
      have eF : Fr W14 W (fun k => k = w.heap.size + 1 ∨ W14.heap.size ≤ k) := by rw [hW]; (repeat (first | with_reducible refine Fr.setCell ?_ _ (fun _ => by simp <;> omega) _ | with_reducible refine Fr.alloc ?_ _ | with_reducible refine Fr.drew ?_)); exact Fr.refl _ _
      have z1_ := z1.out; have z2_ := z2.out; have z3_ := z3.out; have z4_ := z4.out; have z5_ := z5.out; have z6_ := z6.out; have z7_ := z7.out; have z8_ := z8.out; have z9_ := z9.out; have z10_ := z10.out; have z11_ := z11.out; have z12_ := z12.out; have z13_ := z13.out; have z14_ := z14.out
      have hC := Hd.mk (hC.out.fr eF (fun h => by have hg_ := hG.out; have hlt_ := hC.out.lt; (try simp only [rng] at h); (try simp only at h); omega) (fun k h => by have hg_ := hG.out; have hge_ := hC.out.ge; (try simp only [rng] at h); (try simp only at h); omega))
      have hB := Hd.mk (((Fr.of_below hB.out (fun k => k = w.heap.size + 1 ∨ W14.heap.size ≤ k)).then_ eF (fun k hk _ => hk)).below (fun k hk => by have := hB.out.size; omega))
      have b0 := Hd.mk (b0.out.fr eF (fun h => by have hlt_ := b0.out.lt; (try simp only at h); omega))
      have b1 := Hd.mk (show Blk W (w.heap.size + 1) #[Value.int IntKind.i64 u, Value.slice D3 rc.length d3] 41 by rw [hW]; exact (Blk.all b1.out [Value.int IntKind.i64 u, Value.slice D3 rc.length d3] rfl))
      have b2 := Hd.mk (b2.out.fr eF (fun h => by have hlt_ := b2.out.lt; (try simp only at h); omega))
      have b3 := Hd.mk (b3.out.fr eF (fun h => by have hlt_ := b3.out.lt; (try simp only at h); omega))
      have hL := Hd.mk (R_fr hL.out eF (fun k hk hl h => by skip; (try simp only [rng] at hk); (try simp only at hk); (try simp only at h); omega))
      have hQ := Hd.mk (R_fr hQ.out eF (fun k hk hl h => by skip; (try simp only [rng] at hk); (try simp only at hk); (try simp only at h); omega))
      clear hW eF
      have z15 := Hd.mk hz_; clear hz_
      exact ⟨AL, cL, l, t, ⟨u, rc⟩, [Value.int IntKind.i64 u, Value.slice D3 rc.length d3], rfl, hcL, R_Cv hL.out, tRow_K.2 ⟨_, _, rfl, by first | exact hcD | exact Nat.le_refl _, R_Cv hQ.out⟩, hB.out⟩
    by_cases h1 : z = 1
    · subst h1
      clear h0
      have hE0 := Hd.mk (R_int1 (W0 := w9) 1)
      have z1_ := z1.out; have z2_ := z2.out; have z3_ := z3.out; have z4_ := z4.out; have z5_ := z5.out; have z6_ := z6.out; have z7_ := z7.out; have z8_ := z8.out; have z9_ := z9.out
      have hgx := hG.out
      have hCl := hC.out.lt
      have h3l := b3.out.lt
      have fb0_0 : w9.cell? ⟨w.heap.size, 0, none⟩ = some (Value.slice none 0 0) := b0.out.cell 0 rfl
      have fb0_z := b0.out.frozen
      have fb1_0 : w9.cell? ⟨w.heap.size + 1, 0, none⟩ = some (Value.int IntKind.i64 0) := b1.out.cell 0 rfl
      have fb1_1 : w9.cell? ⟨w.heap.size + 1, 1, none⟩ = some (Value.slice none 0 0) := b1.out.cell 1 rfl
      have fb1_z := b1.out.frozen
      have fb2_0 : w9.cell? ⟨w3.heap.size, 0, none⟩ = some (Value.slice AL l.length cL) := b2.out.cell 0 rfl
      have fb2_z := b2.out.frozen
      have fb3_0 : w9.cell? ⟨w7.heap.size, 0, none⟩ = some (Value.int IntKind.i64 rid) := b3.out.cell 0 rfl
      have fb3_1 : w9.cell? ⟨w7.heap.size, 1, none⟩ = some (Value.slice D3 rc.length d3) := b3.out.cell 1 rfl
      have fb3_z := b3.out.frozen
      go_wp2_with (at_builtin; refine append_scal (h1 := fun _ => rfl) rfl _ _ 22 3 (.int .i64 0) 8 rfl Try.underlying22 info_int rfl (by decide) (S := rng w6.heap.size w7.heap.size) (S' := (fun k => w6.heap.size ≤ k ∧ k ≠ w7.heap.size ∧ k ≠ g)) (v := .slice D3 rc.length d3) (xs := rc) (ys := [1]) (A := some ⟨w9.heap.size, 0, none⟩) (c := 1) rfl rfl (R_below hQ.out (below_alloc (Below.refl _ _) _)) (R_Cv hE0.out) (fun k h => by have h5 := h.1; have h6 := h.2; refine ⟨by omega, by omega, by omega⟩) (fun k h => by simp at h; refine ⟨by omega, by omega, by omega⟩) (by simp; omega) (fun v2 w10 hv2 hX0 => ?_); obtain ⟨l2, hl2⟩ : ∃ z, z = rc ++ [1] := ⟨_, rfl⟩; rw [← hl2] at hv2; clear hl2; obtain ⟨A2, c2, hv2e, hc2, _⟩ := R_C hv2; subst hv2e; have hX := (Fr.of_below (below_alloc (Below.refl w9.heap.size w9) _) _).trans hX0; have Yb0 := b0.out.fr hX (fun h => by (try simp only [rng] at h); (try simp only at h); omega); have yb0_0 := Yb0.cell 0 rfl; have yb0_z := Yb0.frozen; have Yb1 := b1.out.fr hX (fun h => by (try simp only [rng] at h); (try simp only at h); omega); have yb1_0 := Yb1.cell 0 rfl; have yb1_1 := Yb1.cell 1 rfl; have yb1_z := Yb1.frozen; have Yb2 := b2.out.fr hX (fun h => by (try simp only [rng] at h); (try simp only at h); omega); have yb2_0 := Yb2.cell 0 rfl; have yb2_z := Yb2.frozen; have Yb3 := b3.out.fr hX (fun h => by (try simp only [rng] at h); (try simp only at h); omega); have yb3_0 := Yb3.cell 0 rfl; have yb3_1 := Yb3.cell 1 rfl; have yb3_z := Yb3.frozen)
      clear fb0_0 fb0_z fb1_0 fb1_1 fb1_z fb2_0 fb2_z fb3_0 fb3_1 fb3_z
      clear hX0 hE0 hQ hcD Yb0 yb0_0 yb0_z Yb1 yb1_0 yb1_1 yb1_z Yb2 yb2_0 yb2_z Yb3 yb3_0 yb3_1 yb3_z
      have hcD := hc2
      have hQ := Hd.mk (R_bound hv2); clear hv2
      have z1_ := z1.out; have z2_ := z2.out; have z3_ := z3.out; have z4_ := z4.out; have z5_ := z5.out; have z6_ := z6.out; have z7_ := z7.out; have z8_ := z8.out; have z9_ := z9.out
      have hSz := hB.out.size
      have b0 := Hd.mk (b0.out.fr hX (fun h => by have hlt_ := b0.out.lt; skip; (try simp only [rng] at h); (try simp only at h); omega))
      have b1 := Hd.mk (b1.out.fr hX (fun h => by have hlt_ := b1.out.lt; skip; (try simp only [rng] at h); (try simp only at h); omega))
      have b2 := Hd.mk (b2.out.fr hX (fun h => by have hlt_ := b2.out.lt; skip; (try simp only [rng] at h); (try simp only at h); omega))
      have b3 := Hd.mk (b3.out.fr hX (fun h => by have hlt_ := b3.out.lt; skip; (try simp only [rng] at h); (try simp only at h); omega))
      have hL := Hd.mk (R_fr hL.out hX (fun k hk hl h => by skip; (try simp only [rng] at hk h); (try simp only at hk); (try simp only at h); omega))
      have hC := Hd.mk (hC.out.fr hX (fun h => by have hg_ := hG.out; have hlt_ := hC.out.lt; (try simp only [rng] at h); (try simp only at h); omega) (fun k h => by have hg_ := hG.out; have hge_ := hC.out.ge; (try simp only [rng] at h); (try simp only at h); omega))
      have hB := Hd.mk (below_frS hB.out hX (fun k h => by skip; (try simp only [rng] at h); (try simp only at h); omega))
      have hz_ := hX.size
      clear hX
      have z10 := Hd.mk hz_; clear hz_
      apply wp_gen; intro W11 hW
      have hz_ : w10.heap.size ≤ W11.heap.size := by rw [hW]; simp
      have eF : Fr w10 W11 (fun k => k = w7.heap.size ∨ w10.heap.size ≤ k) := by rw [hW]; (repeat (first | with_reducible refine Fr.setCell ?_ _ (fun _ => by simp <;> omega) _ | with_reducible refine Fr.alloc ?_ _ | with_reducible refine Fr.drew ?_)); exact Fr.refl _ _
      have z1_ := z1.out; have z2_ := z2.out; have z3_ := z3.out; have z4_ := z4.out; have z5_ := z5.out; have z6_ := z6.out; have z7_ := z7.out; have z8_ := z8.out; have z9_ := z9.out; have z10_ := z10.out
      have hC := Hd.mk (hC.out.fr eF (fun h => by have hg_ := hG.out; have hlt_ := hC.out.lt; (try simp only [rng] at h); (try simp only at h); omega) (fun k h => by have hg_ := hG.out; have hge_ := hC.out.ge; (try simp only [rng] at h); (try simp only at h); omega))
      have hB := Hd.mk (((Fr.of_below hB.out (fun k => k = w7.heap.size ∨ w10.heap.size ≤ k)).then_ eF (fun k hk _ => hk)).below (fun k hk => by have := hB.out.size; omega))
      have b0 := Hd.mk (b0.out.fr eF (fun h => by have hlt_ := b0.out.lt; (try simp only at h); omega))
      have b1 := Hd.mk (b1.out.fr eF (fun h => by have hlt_ := b1.out.lt; (try simp only at h); omega))
      have b2 := Hd.mk (b2.out.fr eF (fun h => by have hlt_ := b2.out.lt; (try simp only at h); omega))
      have b3 := Hd.mk (show Blk W11 (w7.heap.size) #[Value.int IntKind.i64 rid, Value.slice A2 l2.length c2] 41 by rw [hW]; exact (b3.out.set 1 (Value.slice A2 l2.length c2)))
      have hL := Hd.mk (R_fr hL.out eF (fun k hk hl h => by skip; (try simp only [rng] at hk); (try simp only at hk); (try simp only at h); omega))
      have hQ := Hd.mk (R_fr hQ.out eF (fun k hk hl h => by have q_ := hk.1.1; have q2_ := hk.1.2; have q3_ := hk.2; (try simp only [rng] at hk); (try simp only at hk); (try simp only at h); omega))
      clear hW eF
      have z11 := Hd.mk hz_; clear hz_
      have sb0 := Hd.mk b0.out
      have sb1 := Hd.mk b1.out
      have sb2 := Hd.mk b2.out
      have sb3 := Hd.mk b3.out
      refine region_mixC (fun w2 => Fr W11 w2 (fun k => k = g ∨ k = w.heap.size)) (.q 0 (.p 1 (.q 2 (.b 3 (.b 4 .fin))))) [5] (by kernel_rfl) (Fr.drew (Fr.refl _ _)) (by kernel_rfl) (fun _ _ _ _ _ h => h) ?_
      refine genT ?_
      intro W12 hW
      have hS := Hd.mk (show Fr W11 W12 (fun k => k = g ∨ k = w.heap.size) by rw [hW]; exact Fr.drew (Fr.refl _ _))
      have hz_ : W11.heap.size ≤ W12.heap.size := by rw [hW]; simp
      have hE : Below W11.heap.size W11 W12 := by rw [hW]; (repeat (first | with_reducible refine below_alloc ?_ _ | with_reducible refine below_drew ?_)); exact Below.refl _ _
      have hB := Hd.mk (below_then hB.out hE)
      have hC := Hd.mk (hC.out.below hE)
      have b0 := Hd.mk (b0.out.below hE)
      have b1 := Hd.mk (b1.out.below hE)
      have b2 := Hd.mk (b2.out.below hE)
      have b3 := Hd.mk (b3.out.below hE)
      have hL := Hd.mk (R_below hL.out hE)
      have hQ := Hd.mk (R_below hQ.out hE)
      clear hW hE
      have z12 := Hd.mk hz_; clear hz_
      refine mixT_see rfl (by rfl) (Value.agg #[Value.slice AL l.length cL]) (fun w_ hw_ => by have z1_ := z1.out; have z2_ := z2.out; have z3_ := z3.out; have z4_ := z4.out; have z5_ := z5.out; have z6_ := z6.out; have z7_ := z7.out; have z8_ := z8.out; have z9_ := z9.out; have z10_ := z10.out; have z11_ := z11.out; have z12_ := z12.out; have f0_ := (sb2.out.fr hw_ (fun h => by have hg_ := hG.out; skip; have hlt_ := sb2.out.lt; (try simp only at h); omega)).cell 0 rfl; simp [execOp, go_sem, f0_]) hS.out ?_
      have fb0_0 : W12.cell? ⟨w.heap.size, 0, none⟩ = some (Value.slice none 0 0) := b0.out.cell 0 rfl
      have fb0_z := b0.out.frozen
      have fb1_0 : W12.cell? ⟨w.heap.size + 1, 0, none⟩ = some (Value.int IntKind.i64 0) := b1.out.cell 0 rfl
      have fb1_1 : W12.cell? ⟨w.heap.size + 1, 1, none⟩ = some (Value.slice none 0 0) := b1.out.cell 1 rfl
      have fb1_z := b1.out.frozen
      have fb2_0 : W12.cell? ⟨w3.heap.size, 0, none⟩ = some (Value.slice AL l.length cL) := b2.out.cell 0 rfl
      have fb2_z := b2.out.frozen
      have fb3_0 : W12.cell? ⟨w7.heap.size, 0, none⟩ = some (Value.int IntKind.i64 rid) := b3.out.cell 0 rfl
      have fb3_1 : W12.cell? ⟨w7.heap.size, 1, none⟩ = some (Value.slice A2 l2.length c2) := b3.out.cell 1 rfl
      have fb3_z := b3.out.frozen
      go_wp2_with fail
      refine mixQ_n ?_
      clear fb0_0 fb0_z fb1_0 fb1_1 fb1_z fb2_0 fb2_z fb3_0 fb3_1 fb3_z
      refine mixT_p rfl ?_
      go_big_quiet_want; go_big_quiet_op; go_big_quiet_on; refine wpQuiet_nil ?_
      refine mixT_see rfl (by rfl) (Value.agg #[Value.int IntKind.i64 rid, Value.slice A2 l2.length c2]) (fun w_ hw_ => by have z1_ := z1.out; have z2_ := z2.out; have z3_ := z3.out; have z4_ := z4.out; have z5_ := z5.out; have z6_ := z6.out; have z7_ := z7.out; have z8_ := z8.out; have z9_ := z9.out; have z10_ := z10.out; have z11_ := z11.out; have z12_ := z12.out; have f0_ := (sb3.out.fr hw_ (fun h => by have hg_ := hG.out; skip; have hlt_ := sb3.out.lt; (try simp only at h); omega)).cell 0 rfl; have f1_ := (sb3.out.fr hw_ (fun h => by have hg_ := hG.out; skip; have hlt_ := sb3.out.lt; (try simp only at h); omega)).cell 1 rfl; simp [execOp, go_sem, f0_, f1_]) hS.out ?_
      have fb0_0 : W12.cell? ⟨w.heap.size, 0, none⟩ = some (Value.slice none 0 0) := b0.out.cell 0 rfl
      have fb0_z := b0.out.frozen
      have fb1_0 : W12.cell? ⟨w.heap.size + 1, 0, none⟩ = some (Value.int IntKind.i64 0) := b1.out.cell 0 rfl
      have fb1_1 : W12.cell? ⟨w.heap.size + 1, 1, none⟩ = some (Value.slice none 0 0) := b1.out.cell 1 rfl
      have fb1_z := b1.out.frozen
      have fb2_0 : W12.cell? ⟨w3.heap.size, 0, none⟩ = some (Value.slice AL l.length cL) := b2.out.cell 0 rfl
      have fb2_z := b2.out.frozen
      have fb3_0 : W12.cell? ⟨w7.heap.size, 0, none⟩ = some (Value.int IntKind.i64 rid) := b3.out.cell 0 rfl
      have fb3_1 : W12.cell? ⟨w7.heap.size, 1, none⟩ = some (Value.slice A2 l2.length c2) := b3.out.cell 1 rfl
      have fb3_z := b3.out.frozen
      go_wp2_with fail
      refine mixQ_n ?_
      clear fb0_0 fb0_z fb1_0 fb1_1 fb1_z fb2_0 fb2_z fb3_0 fb3_1 fb3_z
      refine mixT_b rfl ?_ (by rfl)
      have fb0_0 : W12.cell? ⟨w.heap.size, 0, none⟩ = some (Value.slice none 0 0) := b0.out.cell 0 rfl
      have fb0_z := b0.out.frozen
      have fb1_0 : W12.cell? ⟨w.heap.size + 1, 0, none⟩ = some (Value.int IntKind.i64 0) := b1.out.cell 0 rfl
      have fb1_1 : W12.cell? ⟨w.heap.size + 1, 1, none⟩ = some (Value.slice none 0 0) := b1.out.cell 1 rfl
      have fb1_z := b1.out.frozen
      have fb2_0 : W12.cell? ⟨w3.heap.size, 0, none⟩ = some (Value.slice AL l.length cL) := b2.out.cell 0 rfl
      have fb2_z := b2.out.frozen
      have fb3_0 : W12.cell? ⟨w7.heap.size, 0, none⟩ = some (Value.int IntKind.i64 rid) := b3.out.cell 0 rfl
      have fb3_1 : W12.cell? ⟨w7.heap.size, 1, none⟩ = some (Value.slice A2 l2.length c2) := b3.out.cell 1 rfl
      have fb3_z := b3.out.frozen
      go_wp2_with fail
      clear fb0_0 fb0_z fb1_0 fb1_1 fb1_z fb2_0 fb2_z fb3_0 fb3_1 fb3_z
      refine ⟨by repeat (first | exact hS.out | refine Fr.setCell ?_ _ (fun _ => by simp) _), ?_⟩
      refine genT ?_; intro W13 hW
      replace hS := Hd.mk (show Fr W11 W13 (fun k => k = g ∨ k = w.heap.size) by rw [hW]; exact (by repeat (first | exact hS.out | refine Fr.setCell ?_ _ (fun _ => by simp) _)))
      have hz_ : W12.heap.size ≤ W13.heap.size := by rw [hW]; simp
      have eF : Fr W12 W13 (fun k => k = w.heap.size ∨ W12.heap.size ≤ k) := by rw [hW]; (repeat (first | with_reducible refine Fr.setCell ?_ _ (fun _ => by simp <;> omega) _ | with_reducible refine Fr.alloc ?_ _ | with_reducible refine Fr.drew ?_)); exact Fr.refl _ _
      have z1_ := z1.out; have z2_ := z2.out; have z3_ := z3.out; have z4_ := z4.out; have z5_ := z5.out; have z6_ := z6.out; have z7_ := z7.out; have z8_ := z8.out; have z9_ := z9.out; have z10_ := z10.out; have z11_ := z11.out; have z12_ := z12.out
      have hC := Hd.mk (hC.out.fr eF (fun h => by have hg_ := hG.out; have hlt_ := hC.out.lt; (try simp only [rng] at h); (try simp only at h); omega) (fun k h => by have hg_ := hG.out; have hge_ := hC.out.ge; (try simp only [rng] at h); (try simp only at h); omega))
      have hB := Hd.mk (((Fr.of_below hB.out (fun k => k = w.heap.size ∨ W12.heap.size ≤ k)).then_ eF (fun k hk _ => hk)).below (fun k hk => by have := hB.out.size; omega))
      have b0 := Hd.mk (show Blk W13 (w.heap.size) #[Value.slice AL l.length cL] 34 by rw [hW]; exact (Blk.all b0.out [Value.slice AL l.length cL] rfl))
      have b1 := Hd.mk (b1.out.fr eF (fun h => by have hlt_ := b1.out.lt; (try simp only at h); omega))
      have b2 := Hd.mk (b2.out.fr eF (fun h => by have hlt_ := b2.out.lt; (try simp only at h); omega))
      have b3 := Hd.mk (b3.out.fr eF (fun h => by have hlt_ := b3.out.lt; (try simp only at h); omega))
      have hL := Hd.mk (R_fr hL.out eF (fun k hk hl h => by skip; (try simp only [rng] at hk); (try simp only at hk); (try simp only at h); omega))
      have hQ := Hd.mk (R_fr hQ.out eF (fun k hk hl h => by have q_ := hk.1.1; have q2_ := hk.1.2; have q3_ := hk.2; (try simp only [rng] at hk); (try simp only at hk); (try simp only at h); omega))
      clear hW eF
      have z13 := Hd.mk hz_; clear hz_
      refine mixT_b rfl ?_ (by rfl)
      go_wp2_with fail
      refine ⟨hS.out, ?_⟩
      refine mixT_fin ?_
      clear hS
      have fb0_0 : W13.cell? ⟨w.heap.size, 0, none⟩ = some (Value.slice AL l.length cL) := b0.out.cell 0 rfl
      have fb0_z := b0.out.frozen
      have fb1_0 : W13.cell? ⟨w.heap.size + 1, 0, none⟩ = some (Value.int IntKind.i64 0) := b1.out.cell 0 rfl
      have fb1_1 : W13.cell? ⟨w.heap.size + 1, 1, none⟩ = some (Value.slice none 0 0) := b1.out.cell 1 rfl
      have fb1_z := b1.out.frozen
      have fb2_0 : W13.cell? ⟨w3.heap.size, 0, none⟩ = some (Value.slice AL l.length cL) := b2.out.cell 0 rfl
      have fb2_z := b2.out.frozen
      have fb3_0 : W13.cell? ⟨w7.heap.size, 0, none⟩ = some (Value.int IntKind.i64 rid) := b3.out.cell 0 rfl
      have fb3_1 : W13.cell? ⟨w7.heap.size, 1, none⟩ = some (Value.slice A2 l2.length c2) := b3.out.cell 1 rfl
      have fb3_z := b3.out.frozen
      refine tail_b rfl ?_ (by rfl)
      go_wp2_with fail
      refine mixQ_n ?_
      refine tail_nil ?_
      go_wp2_with fail
      refine bodyPost_retW (v := .tuple #[.agg #[Value.slice AL l.length cL], .int .i64 t, .agg #[Value.int IntKind.i64 rid, Value.slice A2 l2.length c2]]) (by simp [results, Try.results35, go_sem, fb0_0, fb0_z, fb1_0, fb1_1, fb1_z, fb2_0, fb2_z, fb3_0, fb3_1, fb3_z]) rfl ?_
      intro W hW
      clear fb0_0 fb0_z fb1_0 fb1_1 fb1_z fb2_0 fb2_z fb3_0 fb3_1 fb3_z
      have hz_ : W13.heap.size ≤ W.heap.size := by rw [hW]; simp
      have eF : Fr W13 W (fun k => k = w.heap.size + 1 ∨ W13.heap.size ≤ k) := by rw [hW]; (repeat (first | with_reducible refine Fr.setCell ?_ _ (fun _ => by simp <;> omega) _ | with_reducible refine Fr.alloc ?_ _ | with_reducible refine Fr.drew ?_)); exact Fr.refl _ _
      have z1_ := z1.out; have z2_ := z2.out; have z3_ := z3.out; have z4_ := z4.out; have z5_ := z5.out; have z6_ := z6.out; have z7_ := z7.out; have z8_ := z8.out; have z9_ := z9.out; have z10_ := z10.out; have z11_ := z11.out; have z12_ := z12.out; have z13_ := z13.out
      have hC := Hd.mk (hC.out.fr eF (fun h => by have hg_ := hG.out; have hlt_ := hC.out.lt; (try simp only [rng] at h); (try simp only at h); omega) (fun k h => by have hg_ := hG.out; have hge_ := hC.out.ge; (try simp only [rng] at h); (try simp only at h); omega))
      have hB := Hd.mk (((Fr.of_below hB.out (fun k => k = w.heap.size + 1 ∨ W13.heap.size ≤ k)).then_ eF (fun k hk _ => hk)).below (fun k hk => by have := hB.out.size; omega))
      have b0 := Hd.mk (b0.out.fr eF (fun h => by have hlt_ := b0.out.lt; (try simp only at h); omega))
      have b1 := Hd.mk (show Blk W (w.heap.size + 1) #[Value.int IntKind.i64 rid, Value.slice A2 l2.length c2] 41 by rw [hW]; exact (Blk.all b1.out [Value.int IntKind.i64 rid, Value.slice A2 l2.length c2] rfl))
      have b2 := Hd.mk (b2.out.fr eF (fun h => by have hlt_ := b2.out.lt; (try simp only at h); omega))
      have b3 := Hd.mk (b3.out.fr eF (fun h => by have hlt_ := b3.out.lt; (try simp only at h); omega))
      have hL := Hd.mk (R_fr hL.out eF (fun k hk hl h => by skip; (try simp only [rng] at hk); (try simp only at hk); (try simp only at h); omega))
      have hQ := Hd.mk (R_fr hQ.out eF (fun k hk hl h => by have q_ := hk.1.1; have q2_ := hk.1.2; have q3_ := hk.2; (try simp only [rng] at hk); (try simp only at hk); (try simp only at h); omega))
      clear hW eF
      have z14 := Hd.mk hz_; clear hz_
      exact ⟨AL, cL, l, t, ⟨rid, l2⟩, [Value.int IntKind.i64 rid, Value.slice A2 l2.length c2], rfl, hcL, R_Cv hL.out, tRow_K.2 ⟨_, _, rfl, by first | exact hcD | exact Nat.le_refl _, R_Cv hQ.out⟩, hB.out⟩
    by_cases h2 : z = 2
    · subst h2
      clear h0 h1
      by_cases hrc0 : 0 < rc.length
      · obtain ⟨u0, us, rfl⟩ : ∃ u0 us, rc = u0 :: us := by cases rc with | nil => simp at hrc0 | cons a b => exact ⟨a, b, rfl⟩
        obtain ⟨gL, capL, hgL, hSg, _⟩ := R_form hQ.out hrc0
        injection hgL with hg1 _ hg2
        subst hg1; subst hg2
        have HSG := Hd.mk hSg; clear hSg
        have fb0_0 : w9.cell? ⟨w.heap.size, 0, none⟩ = some (Value.slice none 0 0) := b0.out.cell 0 rfl
        have fb0_z := b0.out.frozen
        have fb1_0 : w9.cell? ⟨w.heap.size + 1, 0, none⟩ = some (Value.int IntKind.i64 0) := b1.out.cell 0 rfl
        have fb1_1 : w9.cell? ⟨w.heap.size + 1, 1, none⟩ = some (Value.slice none 0 0) := b1.out.cell 1 rfl
        have fb1_z := b1.out.frozen
        have fb2_0 : w9.cell? ⟨w3.heap.size, 0, none⟩ = some (Value.slice AL l.length cL) := b2.out.cell 0 rfl
        have fb2_z := b2.out.frozen
        have fb3_0 : w9.cell? ⟨w7.heap.size, 0, none⟩ = some (Value.int IntKind.i64 rid) := b3.out.cell 0 rfl
        have fb3_1 : w9.cell? ⟨w7.heap.size, 1, none⟩ = some (Value.slice (some ⟨gL, 0, none⟩) (u0 :: us).length d3) := b3.out.cell 1 rfl
        have fb3_z := b3.out.frozen
        go_wp2_with fail
        clear fb0_0 fb0_z fb1_0 fb1_1 fb1_z fb2_0 fb2_z fb3_0 fb3_1 fb3_z
        have sb0 := Hd.mk b0.out
        have sb1 := Hd.mk b1.out
        have sb2 := Hd.mk b2.out
        have sb3 := Hd.mk b3.out
        refine region_mixC (fun w2 => Fr w9 w2 (fun k => k = g)) (.p 0 (.q 1 (.p 2 (.b 3 (.b 4 (.q 5 .fin)))))) [6] (by kernel_rfl) (Fr.drew (Fr.refl _ _)) (by kernel_rfl) (fun _ _ _ _ _ h => h) ?_
        refine genT ?_
        intro W10 hW
        have hS := Hd.mk (show Fr w9 W10 (fun k => k = g) by rw [hW]; exact Fr.drew (Fr.refl _ _))
        have hz_ : w9.heap.size ≤ W10.heap.size := by rw [hW]; simp
        have hE : Below w9.heap.size w9 W10 := by rw [hW]; (repeat (first | with_reducible refine below_alloc ?_ _ | with_reducible refine below_drew ?_)); exact Below.refl _ _
        have hB := Hd.mk (below_then hB.out hE)
        have hC := Hd.mk (hC.out.below hE)
        have b0 := Hd.mk (b0.out.below hE)
        have b1 := Hd.mk (b1.out.below hE)
        have b2 := Hd.mk (b2.out.below hE)
        have b3 := Hd.mk (b3.out.below hE)
        have hL := Hd.mk (R_below hL.out hE)
        have hQ := Hd.mk (R_below hQ.out hE)
        clear hW hE
        have z10 := Hd.mk hz_; clear hz_
        refine mixT_p rfl ?_
        go_big_quiet_want; go_big_quiet_op; go_big_quiet_on; refine wpQuiet_nil ?_
        refine mixT_see rfl (by rfl) (Value.slice (some ⟨gL, 0, none⟩) (u0 :: us).length d3) (fun w_ hw_ => by have z1_ := z1.out; have z2_ := z2.out; have z3_ := z3.out; have z4_ := z4.out; have z5_ := z5.out; have z6_ := z6.out; have z7_ := z7.out; have z8_ := z8.out; have z9_ := z9.out; have z10_ := z10.out; have f0_ := (sb3.out.fr hw_ (fun h => by have hg_ := hG.out; skip; have hlt_ := sb3.out.lt; (try simp only at h); omega)).cell 1 rfl; simp [execOp, go_sem, f0_]) hS.out ?_
        have fb0_0 : W10.cell? ⟨w.heap.size, 0, none⟩ = some (Value.slice none 0 0) := b0.out.cell 0 rfl
        have fb0_z := b0.out.frozen
        have fb1_0 : W10.cell? ⟨w.heap.size + 1, 0, none⟩ = some (Value.int IntKind.i64 0) := b1.out.cell 0 rfl
        have fb1_1 : W10.cell? ⟨w.heap.size + 1, 1, none⟩ = some (Value.slice none 0 0) := b1.out.cell 1 rfl
        have fb1_z := b1.out.frozen
        have fb2_0 : W10.cell? ⟨w3.heap.size, 0, none⟩ = some (Value.slice AL l.length cL) := b2.out.cell 0 rfl
        have fb2_z := b2.out.frozen
        have fb3_0 : W10.cell? ⟨w7.heap.size, 0, none⟩ = some (Value.int IntKind.i64 rid) := b3.out.cell 0 rfl
        have fb3_1 : W10.cell? ⟨w7.heap.size, 1, none⟩ = some (Value.slice (some ⟨gL, 0, none⟩) (u0 :: us).length d3) := b3.out.cell 1 rfl
        have fb3_z := b3.out.frozen
        go_wp2_with fail
        refine mixQ_n ?_
        clear fb0_0 fb0_z fb1_0 fb1_1 fb1_z fb2_0 fb2_z fb3_0 fb3_1 fb3_z
        refine mixT_p rfl ?_
        go_big_quiet_want; go_big_quiet_op; go_big_quiet_on; refine wpQuiet_nil ?_
        refine mixT_b rfl ?_ (by rfl)
        go_wp2_with fail
        refine ⟨hS.out.alloc _, ?_⟩
        refine genT ?_; intro W11 hW
        have hE0 := Hd.mk (show int.R 3 W11 (fun k => k = W10.heap.size) (.slice (some ⟨W10.heap.size, 0, none⟩) 3 3) [1000000000, 1000000001, -1000000001] by rw [hW]; exact R_ints (W0 := W10) [1000000000, 1000000001, -1000000001] (by decide))
        have hz_ : W10.heap.size + 1 ≤ W11.heap.size := by rw [hW]; simp
        have hE : Below W10.heap.size W10 W11 := by rw [hW]; (repeat (first | with_reducible refine below_alloc ?_ _ | with_reducible refine below_drew ?_)); exact Below.refl _ _
        have hB := Hd.mk (below_then hB.out hE)
        have hC := Hd.mk (hC.out.below hE)
        replace hS := Hd.mk (hS.out.trans (Fr.of_below hE _))
        have b0 := Hd.mk (b0.out.below hE)
        have b1 := Hd.mk (b1.out.below hE)
        have b2 := Hd.mk (b2.out.below hE)
        have b3 := Hd.mk (b3.out.below hE)
        have hL := Hd.mk (R_below hL.out hE)
        have hQ := Hd.mk (R_below hQ.out hE)
        clear hW hE
        have z11 := Hd.mk hz_; clear hz_
        refine mixT_b rfl ?_ (by rfl)
        go_wp2_with fail
        apply calls_gen; intro W12 hW
        have hz_ : W11.heap.size ≤ W12.heap.size := by rw [hW]; simp
        have hE : Below W11.heap.size W11 W12 := by rw [hW]; (repeat (first | with_reducible refine below_alloc ?_ _ | with_reducible refine below_drew ?_)); exact Below.refl _ _
        have hB := Hd.mk (below_then hB.out hE)
        have hC := Hd.mk (hC.out.below hE)
        replace hS := Hd.mk (hS.out.trans (Fr.of_below hE _))
        have b0 := Hd.mk (b0.out.below hE)
        have b1 := Hd.mk (b1.out.below hE)
        have b2 := Hd.mk (b2.out.below hE)
        have b3 := Hd.mk (b3.out.below hE)
        have hL := Hd.mk (R_below hL.out hE)
        have hQ := Hd.mk (R_below hQ.out hE)
        have hE0 := Hd.mk (R_below hE0.out hE)
        clear hW hE
        have z12 := Hd.mk hz_; clear hz_
        have hzg := hG.out
        have hzc := hC.out.lt
        have z1_ := z1.out; have z2_ := z2.out; have z3_ := z3.out; have z4_ := z4.out; have z5_ := z5.out; have z6_ := z6.out; have z7_ := z7.out; have z8_ := z8.out; have z9_ := z9.out; have z10_ := z10.out; have z11_ := z11.out; have z12_ := z12.out
        have hEg := Hd.mk (show ¬ (fun k => k = W10.heap.size) g by (try simp only); omega)
        refine (spec_l1PickInt _ _ _ [1000000000, 1000000001, -1000000001] w _ g hE0.out hEg.out rfl (by decide) (by decide) hC.out).mono ?_
        rintro e w13 ⟨y, rfl, _, hC1, hX⟩
        have hC := Hd.mk hC1; clear hC1
        have hSz0 := hB.out.size
        have hg_ := hG.out
        have z1_ := z1.out; have z2_ := z2.out; have z3_ := z3.out; have z4_ := z4.out; have z5_ := z5.out; have z6_ := z6.out; have z7_ := z7.out; have z8_ := z8.out; have z9_ := z9.out; have z10_ := z10.out; have z11_ := z11.out; have z12_ := z12.out
        have b0 := Hd.mk (b0.out.fr hX (fun h => by skip; (try simp only at h); omega))
        have b1 := Hd.mk (b1.out.fr hX (fun h => by skip; (try simp only at h); omega))
        have b2 := Hd.mk (b2.out.fr hX (fun h => by skip; (try simp only at h); omega))
        have b3 := Hd.mk (b3.out.fr hX (fun h => by skip; (try simp only at h); omega))
        have hL := Hd.mk (R_fr hL.out hX (fun k hk hl h => by skip; (try simp only [rng] at hk); (try simp only at hk); (try simp only at h); omega))
        have hQ := Hd.mk (R_fr hQ.out hX (fun k hk hl h => by skip; (try simp only [rng] at hk); (try simp only at hk); (try simp only at h); omega))
        have hE0 := Hd.mk (R_fr hE0.out hX (fun k hk hl h => by skip; (try simp only [rng] at hk); (try simp only at hk); (try simp only at h); omega))
        have hB := Hd.mk (below_frS hB.out hX (fun k h => by (try simp only at h); omega))
        replace hS := Hd.mk (hS.out.trans hX)
        have hz_ := hX.size
        clear hSz0 hg_ hX
        have z13 := Hd.mk hz_; clear hz_
        go_wp2_with fail
        refine ⟨hS.out, ?_⟩
        refine mixT_see rfl (by rfl) (Value.pointer (some ⟨gL, 0, none⟩)) (fun w_ hw_ => by first | (simp [execOp, go_sem]; done) | kernel_rfl) hS.out ?_
        have fb0_0 : w13.cell? ⟨w.heap.size, 0, none⟩ = some (Value.slice none 0 0) := b0.out.cell 0 rfl
        have fb0_z := b0.out.frozen
        have fb1_0 : w13.cell? ⟨w.heap.size + 1, 0, none⟩ = some (Value.int IntKind.i64 0) := b1.out.cell 0 rfl
        have fb1_1 : w13.cell? ⟨w.heap.size + 1, 1, none⟩ = some (Value.slice none 0 0) := b1.out.cell 1 rfl
        have fb1_z := b1.out.frozen
        have fb2_0 : w13.cell? ⟨w3.heap.size, 0, none⟩ = some (Value.slice AL l.length cL) := b2.out.cell 0 rfl
        have fb2_z := b2.out.frozen
        have fb3_0 : w13.cell? ⟨w7.heap.size, 0, none⟩ = some (Value.int IntKind.i64 rid) := b3.out.cell 0 rfl
        have fb3_1 : w13.cell? ⟨w7.heap.size, 1, none⟩ = some (Value.slice (some ⟨gL, 0, none⟩) (u0 :: us).length d3) := b3.out.cell 1 rfl
        have fb3_z := b3.out.frozen
        go_wp2_with fail
        refine mixQ_n ?_
        clear fb0_0 fb0_z fb1_0 fb1_1 fb1_z fb2_0 fb2_z fb3_0 fb3_1 fb3_z
        refine mixT_fin ?_
        clear hS
        have fb0_0 : w13.cell? ⟨w.heap.size, 0, none⟩ = some (Value.slice none 0 0) := b0.out.cell 0 rfl
        have fb0_z := b0.out.frozen
        have fb1_0 : w13.cell? ⟨w.heap.size + 1, 0, none⟩ = some (Value.int IntKind.i64 0) := b1.out.cell 0 rfl
        have fb1_1 : w13.cell? ⟨w.heap.size + 1, 1, none⟩ = some (Value.slice none 0 0) := b1.out.cell 1 rfl
        have fb1_z := b1.out.frozen
        have fb2_0 : w13.cell? ⟨w3.heap.size, 0, none⟩ = some (Value.slice AL l.length cL) := b2.out.cell 0 rfl
        have fb2_z := b2.out.frozen
        have fb3_0 : w13.cell? ⟨w7.heap.size, 0, none⟩ = some (Value.int IntKind.i64 rid) := b3.out.cell 0 rfl
        have fb3_1 : w13.cell? ⟨w7.heap.size, 1, none⟩ = some (Value.slice (some ⟨gL, 0, none⟩) (u0 :: us).length d3) := b3.out.cell 1 rfl
        have fb3_z := b3.out.frozen
        refine tail_b rfl ?_ (by rfl)
        obtain ⟨hgl, k0, kz, hst⟩ := R_store1 (i := 0) (x := u0) (fun _ => rfl) hQ.out rfl
        have HST := Hd.mk (hst y); clear hst
        go_wp2_with fail
        refine mixQ_n ?_
        refine tail_nil ?_
        clear fb0_0 fb0_z fb1_0 fb1_1 fb1_z fb2_0 fb2_z fb3_0 fb3_1 fb3_z
        refine exit_gen ?_; intro W14 hW
        have hQ := Hd.mk (show int.R 3 W14 (rng w6.heap.size w7.heap.size) (.slice (some ⟨gL, 0, none⟩) (u0 :: us).length d3) (y :: us) by rw [hW]; exact HST.out)
        have hX : Fr w13 W14 (rng w6.heap.size w7.heap.size) := by rw [hW]; exact Fr.setCell (Fr.refl _ _) _ (fun _ => HSG.out) _
        clear hW HST k0 kz
        have z1_ := z1.out; have z2_ := z2.out; have z3_ := z3.out; have z4_ := z4.out; have z5_ := z5.out; have z6_ := z6.out; have z7_ := z7.out; have z8_ := z8.out; have z9_ := z9.out; have z10_ := z10.out; have z11_ := z11.out; have z12_ := z12.out; have z13_ := z13.out
        have hSz := hB.out.size
        have b0 := Hd.mk (b0.out.fr hX (fun h => by have hlt_ := b0.out.lt; skip; (try simp only [rng] at h); (try simp only at h); omega))
        have b1 := Hd.mk (b1.out.fr hX (fun h => by have hlt_ := b1.out.lt; skip; (try simp only [rng] at h); (try simp only at h); omega))
        have b2 := Hd.mk (b2.out.fr hX (fun h => by have hlt_ := b2.out.lt; skip; (try simp only [rng] at h); (try simp only at h); omega))
        have b3 := Hd.mk (b3.out.fr hX (fun h => by have hlt_ := b3.out.lt; skip; (try simp only [rng] at h); (try simp only at h); omega))
        have hL := Hd.mk (R_fr hL.out hX (fun k hk hl h => by skip; (try simp only [rng] at hk h); (try simp only at hk); (try simp only at h); omega))
        have hC := Hd.mk (hC.out.fr hX (fun h => by have hg_ := hG.out; have hlt_ := hC.out.lt; (try simp only [rng] at h); (try simp only at h); omega) (fun k h => by have hg_ := hG.out; have hge_ := hC.out.ge; (try simp only [rng] at h); (try simp only at h); omega))
        have hB := Hd.mk (below_frS hB.out hX (fun k h => by skip; (try simp only [rng] at h); (try simp only at h); omega))
        have hz_ := hX.size
        clear hX
        have z14 := Hd.mk hz_; clear hz_
        go_wp2_with fail
        have sb0 := Hd.mk b0.out
        have sb1 := Hd.mk b1.out
        have sb2 := Hd.mk b2.out
        have sb3 := Hd.mk b3.out
        refine region_mixC (fun w2 => Fr W14 w2 (fun k => k = g ∨ k = w.heap.size)) (.q 0 (.p 1 (.q 2 (.b 3 (.b 4 .fin))))) [5] (by kernel_rfl) (Fr.drew (Fr.refl _ _)) (by kernel_rfl) (fun _ _ _ _ _ h => h) ?_
        refine genT ?_
        intro W15 hW
        have hS := Hd.mk (show Fr W14 W15 (fun k => k = g ∨ k = w.heap.size) by rw [hW]; exact Fr.drew (Fr.refl _ _))
        have hz_ : W14.heap.size ≤ W15.heap.size := by rw [hW]; simp
        have hE : Below W14.heap.size W14 W15 := by rw [hW]; (repeat (first | with_reducible refine below_alloc ?_ _ | with_reducible refine below_drew ?_)); exact Below.refl _ _
        have hB := Hd.mk (below_then hB.out hE)
        have hC := Hd.mk (hC.out.below hE)
        have b0 := Hd.mk (b0.out.below hE)
        have b1 := Hd.mk (b1.out.below hE)
        have b2 := Hd.mk (b2.out.below hE)
        have b3 := Hd.mk (b3.out.below hE)
        have hL := Hd.mk (R_below hL.out hE)
        have hQ := Hd.mk (R_below hQ.out hE)
        clear hW hE
        have z15 := Hd.mk hz_; clear hz_
        refine mixT_see rfl (by rfl) (Value.agg #[Value.slice AL l.length cL]) (fun w_ hw_ => by have z1_ := z1.out; have z2_ := z2.out; have z3_ := z3.out; have z4_ := z4.out; have z5_ := z5.out; have z6_ := z6.out; have z7_ := z7.out; have z8_ := z8.out; have z9_ := z9.out; have z10_ := z10.out; have z11_ := z11.out; have z12_ := z12.out; have z13_ := z13.out; have z14_ := z14.out; have z15_ := z15.out; have f0_ := (sb2.out.fr hw_ (fun h => by have hg_ := hG.out; skip; have hlt_ := sb2.out.lt; (try simp only at h); omega)).cell 0 rfl; simp [execOp, go_sem, f0_]) hS.out ?_
        have fb0_0 : W15.cell? ⟨w.heap.size, 0, none⟩ = some (Value.slice none 0 0) := b0.out.cell 0 rfl
        have fb0_z := b0.out.frozen
        have fb1_0 : W15.cell? ⟨w.heap.size + 1, 0, none⟩ = some (Value.int IntKind.i64 0) := b1.out.cell 0 rfl
        have fb1_1 : W15.cell? ⟨w.heap.size + 1, 1, none⟩ = some (Value.slice none 0 0) := b1.out.cell 1 rfl
        have fb1_z := b1.out.frozen
        have fb2_0 : W15.cell? ⟨w3.heap.size, 0, none⟩ = some (Value.slice AL l.length cL) := b2.out.cell 0 rfl
        have fb2_z := b2.out.frozen
        have fb3_0 : W15.cell? ⟨w7.heap.size, 0, none⟩ = some (Value.int IntKind.i64 rid) := b3.out.cell 0 rfl
        have fb3_1 : W15.cell? ⟨w7.heap.size, 1, none⟩ = some (Value.slice (some ⟨gL, 0, none⟩) (y :: us).length d3) := b3.out.cell 1 rfl
        have fb3_z := b3.out.frozen
        go_wp2_with fail
        refine mixQ_n ?_
        clear fb0_0 fb0_z fb1_0 fb1_1 fb1_z fb2_0 fb2_z fb3_0 fb3_1 fb3_z
        refine mixT_p rfl ?_
        go_big_quiet_want; go_big_quiet_op; go_big_quiet_on; refine wpQuiet_nil ?_
        refine mixT_see rfl (by rfl) (Value.agg #[Value.int IntKind.i64 rid, Value.slice (some ⟨gL, 0, none⟩) (y :: us).length d3]) (fun w_ hw_ => by have z1_ := z1.out; have z2_ := z2.out; have z3_ := z3.out; have z4_ := z4.out; have z5_ := z5.out; have z6_ := z6.out; have z7_ := z7.out; have z8_ := z8.out; have z9_ := z9.out; have z10_ := z10.out; have z11_ := z11.out; have z12_ := z12.out; have z13_ := z13.out; have z14_ := z14.out; have z15_ := z15.out; have f0_ := (sb3.out.fr hw_ (fun h => by have hg_ := hG.out; skip; have hlt_ := sb3.out.lt; (try simp only at h); omega)).cell 0 rfl; have f1_ := (sb3.out.fr hw_ (fun h => by have hg_ := hG.out; skip; have hlt_ := sb3.out.lt; (try simp only at h); omega)).cell 1 rfl; simp [execOp, go_sem, f0_, f1_]) hS.out ?_
        have fb0_0 : W15.cell? ⟨w.heap.size, 0, none⟩ = some (Value.slice none 0 0) := b0.out.cell 0 rfl
        have fb0_z := b0.out.frozen
        have fb1_0 : W15.cell? ⟨w.heap.size + 1, 0, none⟩ = some (Value.int IntKind.i64 0) := b1.out.cell 0 rfl
        have fb1_1 : W15.cell? ⟨w.heap.size + 1, 1, none⟩ = some (Value.slice none 0 0) := b1.out.cell 1 rfl
        have fb1_z := b1.out.frozen
        have fb2_0 : W15.cell? ⟨w3.heap.size, 0, none⟩ = some (Value.slice AL l.length cL) := b2.out.cell 0 rfl
        have fb2_z := b2.out.frozen
        have fb3_0 : W15.cell? ⟨w7.heap.size, 0, none⟩ = some (Value.int IntKind.i64 rid) := b3.out.cell 0 rfl
        have fb3_1 : W15.cell? ⟨w7.heap.size, 1, none⟩ = some (Value.slice (some ⟨gL, 0, none⟩) (y :: us).length d3) := b3.out.cell 1 rfl
        have fb3_z := b3.out.frozen
        go_wp2_with fail
        refine mixQ_n ?_
        clear fb0_0 fb0_z fb1_0 fb1_1 fb1_z fb2_0 fb2_z fb3_0 fb3_1 fb3_z
        refine mixT_b rfl ?_ (by rfl)
        have fb0_0 : W15.cell? ⟨w.heap.size, 0, none⟩ = some (Value.slice none 0 0) := b0.out.cell 0 rfl
        have fb0_z := b0.out.frozen
        have fb1_0 : W15.cell? ⟨w.heap.size + 1, 0, none⟩ = some (Value.int IntKind.i64 0) := b1.out.cell 0 rfl
        have fb1_1 : W15.cell? ⟨w.heap.size + 1, 1, none⟩ = some (Value.slice none 0 0) := b1.out.cell 1 rfl
        have fb1_z := b1.out.frozen
        have fb2_0 : W15.cell? ⟨w3.heap.size, 0, none⟩ = some (Value.slice AL l.length cL) := b2.out.cell 0 rfl
        have fb2_z := b2.out.frozen
        have fb3_0 : W15.cell? ⟨w7.heap.size, 0, none⟩ = some (Value.int IntKind.i64 rid) := b3.out.cell 0 rfl
        have fb3_1 : W15.cell? ⟨w7.heap.size, 1, none⟩ = some (Value.slice (some ⟨gL, 0, none⟩) (y :: us).length d3) := b3.out.cell 1 rfl
        have fb3_z := b3.out.frozen
        go_wp2_with fail
        clear fb0_0 fb0_z fb1_0 fb1_1 fb1_z fb2_0 fb2_z fb3_0 fb3_1 fb3_z
        refine ⟨by repeat (first | exact hS.out | refine Fr.setCell ?_ _ (fun _ => by simp) _), ?_⟩
        refine genT ?_; intro W16 hW
        replace hS := Hd.mk (show Fr W14 W16 (fun k => k = g ∨ k = w.heap.size) by rw [hW]; exact (by repeat (first | exact hS.out | refine Fr.setCell ?_ _ (fun _ => by simp) _)))
        have hz_ : W15.heap.size ≤ W16.heap.size := by rw [hW]; simp
        have eF : Fr W15 W16 (fun k => k = w.heap.size ∨ W15.heap.size ≤ k) := by rw [hW]; (repeat (first | with_reducible refine Fr.setCell ?_ _ (fun _ => by simp <;> omega) _ | with_reducible refine Fr.alloc ?_ _ | with_reducible refine Fr.drew ?_)); exact Fr.refl _ _
        have z1_ := z1.out; have z2_ := z2.out; have z3_ := z3.out; have z4_ := z4.out; have z5_ := z5.out; have z6_ := z6.out; have z7_ := z7.out; have z8_ := z8.out; have z9_ := z9.out; have z10_ := z10.out; have z11_ := z11.out; have z12_ := z12.out; have z13_ := z13.out; have z14_ := z14.out; have z15_ := z15.out
        have hC := Hd.mk (hC.out.fr eF (fun h => by have hg_ := hG.out; have hlt_ := hC.out.lt; (try simp only [rng] at h); (try simp only at h); omega) (fun k h => by have hg_ := hG.out; have hge_ := hC.out.ge; (try simp only [rng] at h); (try simp only at h); omega))
        have hB := Hd.mk (((Fr.of_below hB.out (fun k => k = w.heap.size ∨ W15.heap.size ≤ k)).then_ eF (fun k hk _ => hk)).below (fun k hk => by have := hB.out.size; omega))
        have b0 := Hd.mk (show Blk W16 (w.heap.size) #[Value.slice AL l.length cL] 34 by rw [hW]; exact (Blk.all b0.out [Value.slice AL l.length cL] rfl))
        have b1 := Hd.mk (b1.out.fr eF (fun h => by have hlt_ := b1.out.lt; (try simp only at h); omega))
        have b2 := Hd.mk (b2.out.fr eF (fun h => by have hlt_ := b2.out.lt; (try simp only at h); omega))
        have b3 := Hd.mk (b3.out.fr eF (fun h => by have hlt_ := b3.out.lt; (try simp only at h); omega))
        have hL := Hd.mk (R_fr hL.out eF (fun k hk hl h => by skip; (try simp only [rng] at hk); (try simp only at hk); (try simp only at h); omega))
        have hQ := Hd.mk (R_fr hQ.out eF (fun k hk hl h => by skip; (try simp only [rng] at hk); (try simp only at hk); (try simp only at h); omega))
        clear hW eF
        have z16 := Hd.mk hz_; clear hz_
        refine mixT_b rfl ?_ (by rfl)
        go_wp2_with fail
        refine ⟨hS.out, ?_⟩
        refine mixT_fin ?_
        clear hS
        have fb0_0 : W16.cell? ⟨w.heap.size, 0, none⟩ = some (Value.slice AL l.length cL) := b0.out.cell 0 rfl
        have fb0_z := b0.out.frozen
        have fb1_0 : W16.cell? ⟨w.heap.size + 1, 0, none⟩ = some (Value.int IntKind.i64 0) := b1.out.cell 0 rfl
        have fb1_1 : W16.cell? ⟨w.heap.size + 1, 1, none⟩ = some (Value.slice none 0 0) := b1.out.cell 1 rfl
        have fb1_z := b1.out.frozen
        have fb2_0 : W16.cell? ⟨w3.heap.size, 0, none⟩ = some (Value.slice AL l.length cL) := b2.out.cell 0 rfl
        have fb2_z := b2.out.frozen
        have fb3_0 : W16.cell? ⟨w7.heap.size, 0, none⟩ = some (Value.int IntKind.i64 rid) := b3.out.cell 0 rfl
        have fb3_1 : W16.cell? ⟨w7.heap.size, 1, none⟩ = some (Value.slice (some ⟨gL, 0, none⟩) (y :: us).length d3) := b3.out.cell 1 rfl
        have fb3_z := b3.out.frozen
        refine tail_b rfl ?_ (by rfl)
        go_wp2_with fail
        refine mixQ_n ?_
        refine tail_nil ?_
        go_wp2_with fail
        refine bodyPost_retW (v := .tuple #[.agg #[Value.slice AL l.length cL], .int .i64 t, .agg #[Value.int IntKind.i64 rid, Value.slice (some ⟨gL, 0, none⟩) (y :: us).length d3]]) (by simp [results, Try.results35, go_sem, fb0_0, fb0_z, fb1_0, fb1_1, fb1_z, fb2_0, fb2_z, fb3_0, fb3_1, fb3_z]) rfl ?_
        intro W hW
        clear fb0_0 fb0_z fb1_0 fb1_1 fb1_z fb2_0 fb2_z fb3_0 fb3_1 fb3_z
        have hz_ : W16.heap.size ≤ W.heap.size := by rw [hW]; simp
        have eF : Fr W16 W (fun k => k = w.heap.size + 1 ∨ W16.heap.size ≤ k) := by rw [hW]; (repeat (first | with_reducible refine Fr.setCell ?_ _ (fun _ => by simp <;> omega) _ | with_reducible refine Fr.alloc ?_ _ | with_reducible refine Fr.drew ?_)); exact Fr.refl _ _
        have z1_ := z1.out; have z2_ := z2.out; have z3_ := z3.out; have z4_ := z4.out; have z5_ := z5.out; have z6_ := z6.out; have z7_ := z7.out; have z8_ := z8.out; have z9_ := z9.out; have z10_ := z10.out; have z11_ := z11.out; have z12_ := z12.out; have z13_ := z13.out; have z14_ := z14.out; have z15_ := z15.out; have z16_ := z16.out
        have hC := Hd.mk (hC.out.fr eF (fun h => by have hg_ := hG.out; have hlt_ := hC.out.lt; (try simp only [rng] at h); (try simp only at h); omega) (fun k h => by have hg_ := hG.out; have hge_ := hC.out.ge; (try simp only [rng] at h); (try simp only at h); omega))
        have hB := Hd.mk (((Fr.of_below hB.out (fun k => k = w.heap.size + 1 ∨ W16.heap.size ≤ k)).then_ eF (fun k hk _ => hk)).below (fun k hk => by have := hB.out.size; omega))
        have b0 := Hd.mk (b0.out.fr eF (fun h => by have hlt_ := b0.out.lt; (try simp only at h); omega))
        have b1 := Hd.mk (show Blk W (w.heap.size + 1) #[Value.int IntKind.i64 rid, Value.slice (some ⟨gL, 0, none⟩) (y :: us).length d3] 41 by rw [hW]; exact (Blk.all b1.out [Value.int IntKind.i64 rid, Value.slice (some ⟨gL, 0, none⟩) (y :: us).length d3] rfl))
        have b2 := Hd.mk (b2.out.fr eF (fun h => by have hlt_ := b2.out.lt; (try simp only at h); omega))
        have b3 := Hd.mk (b3.out.fr eF (fun h => by have hlt_ := b3.out.lt; (try simp only at h); omega))
        have hL := Hd.mk (R_fr hL.out eF (fun k hk hl h => by skip; (try simp only [rng] at hk); (try simp only at hk); (try simp only at h); omega))
        have hQ := Hd.mk (R_fr hQ.out eF (fun k hk hl h => by skip; (try simp only [rng] at hk); (try simp only at hk); (try simp only at h); omega))
        clear hW eF
        have z17 := Hd.mk hz_; clear hz_
        exact ⟨AL, cL, l, t, ⟨rid, (y :: us)⟩, [Value.int IntKind.i64 rid, Value.slice (some ⟨gL, 0, none⟩) (y :: us).length d3], rfl, hcL, R_Cv hL.out, tRow_K.2 ⟨_, _, rfl, by first | exact hcD | exact Nat.le_refl _, R_Cv hQ.out⟩, hB.out⟩
      have hrd : decide ((0 : Int) < rc.length) = false := decide_eq_false (by omega)
      have fb0_0 : w9.cell? ⟨w.heap.size, 0, none⟩ = some (Value.slice none 0 0) := b0.out.cell 0 rfl
      have fb0_z := b0.out.frozen
      have fb1_0 : w9.cell? ⟨w.heap.size + 1, 0, none⟩ = some (Value.int IntKind.i64 0) := b1.out.cell 0 rfl
      have fb1_1 : w9.cell? ⟨w.heap.size + 1, 1, none⟩ = some (Value.slice none 0 0) := b1.out.cell 1 rfl
      have fb1_z := b1.out.frozen
      have fb2_0 : w9.cell? ⟨w3.heap.size, 0, none⟩ = some (Value.slice AL l.length cL) := b2.out.cell 0 rfl
      have fb2_z := b2.out.frozen
      have fb3_0 : w9.cell? ⟨w7.heap.size, 0, none⟩ = some (Value.int IntKind.i64 rid) := b3.out.cell 0 rfl
      have fb3_1 : w9.cell? ⟨w7.heap.size, 1, none⟩ = some (Value.slice D3 rc.length d3) := b3.out.cell 1 rfl
      have fb3_z := b3.out.frozen
      go_wp2_with fail
      clear fb0_0 fb0_z fb1_0 fb1_1 fb1_z fb2_0 fb2_z fb3_0 fb3_1 fb3_z
      have sb0 := Hd.mk b0.out
      have sb1 := Hd.mk b1.out
      have sb2 := Hd.mk b2.out
      have sb3 := Hd.mk b3.out
      refine region_mixC (fun w2 => Fr w9 w2 (fun k => k = g ∨ k = w.heap.size)) (.q 0 (.p 1 (.q 2 (.b 3 (.b 4 .fin))))) [5] (by kernel_rfl) (Fr.drew (Fr.refl _ _)) (by kernel_rfl) (fun _ _ _ _ _ h => h) ?_
      refine genT ?_
      intro W10 hW
      have hS := Hd.mk (show Fr w9 W10 (fun k => k = g ∨ k = w.heap.size) by rw [hW]; exact Fr.drew (Fr.refl _ _))
      have hz_ : w9.heap.size ≤ W10.heap.size := by rw [hW]; simp
      have hE : Below w9.heap.size w9 W10 := by rw [hW]; (repeat (first | with_reducible refine below_alloc ?_ _ | with_reducible refine below_drew ?_)); exact Below.refl _ _
      have hB := Hd.mk (below_then hB.out hE)
      have hC := Hd.mk (hC.out.below hE)
      have b0 := Hd.mk (b0.out.below hE)
      have b1 := Hd.mk (b1.out.below hE)
      have b2 := Hd.mk (b2.out.below hE)
      have b3 := Hd.mk (b3.out.below hE)
      have hL := Hd.mk (R_below hL.out hE)
      have hQ := Hd.mk (R_below hQ.out hE)
      clear hW hE
      have z10 := Hd.mk hz_; clear hz_
      refine mixT_see rfl (by rfl) (Value.agg #[Value.slice AL l.length cL]) (fun w_ hw_ => by have z1_ := z1.out; have z2_ := z2.out; have z3_ := z3.out; have z4_ := z4.out; have z5_ := z5.out; have z6_ := z6.out; have z7_ := z7.out; have z8_ := z8.out; have z9_ := z9.out; have z10_ := z10.out; have f0_ := (sb2.out.fr hw_ (fun h => by have hg_ := hG.out; skip; have hlt_ := sb2.out.lt; (try simp only at h); omega)).cell 0 rfl; simp [execOp, go_sem, f0_]) hS.out ?_
      have fb0_0 : W10.cell? ⟨w.heap.size, 0, none⟩ = some (Value.slice none 0 0) := b0.out.cell 0 rfl
      have fb0_z := b0.out.frozen
      have fb1_0 : W10.cell? ⟨w.heap.size + 1, 0, none⟩ = some (Value.int IntKind.i64 0) := b1.out.cell 0 rfl
      have fb1_1 : W10.cell? ⟨w.heap.size + 1, 1, none⟩ = some (Value.slice none 0 0) := b1.out.cell 1 rfl
      have fb1_z := b1.out.frozen
      have fb2_0 : W10.cell? ⟨w3.heap.size, 0, none⟩ = some (Value.slice AL l.length cL) := b2.out.cell 0 rfl
      have fb2_z := b2.out.frozen
      have fb3_0 : W10.cell? ⟨w7.heap.size, 0, none⟩ = some (Value.int IntKind.i64 rid) := b3.out.cell 0 rfl
      have fb3_1 : W10.cell? ⟨w7.heap.size, 1, none⟩ = some (Value.slice D3 rc.length d3) := b3.out.cell 1 rfl
      have fb3_z := b3.out.frozen
      go_wp2_with fail
      refine mixQ_n ?_
      clear fb0_0 fb0_z fb1_0 fb1_1 fb1_z fb2_0 fb2_z fb3_0 fb3_1 fb3_z
      refine mixT_p rfl ?_
      go_big_quiet_want; go_big_quiet_op; go_big_quiet_on; refine wpQuiet_nil ?_
      refine mixT_see rfl (by rfl) (Value.agg #[Value.int IntKind.i64 rid, Value.slice D3 rc.length d3]) (fun w_ hw_ => by have z1_ := z1.out; have z2_ := z2.out; have z3_ := z3.out; have z4_ := z4.out; have z5_ := z5.out; have z6_ := z6.out; have z7_ := z7.out; have z8_ := z8.out; have z9_ := z9.out; have z10_ := z10.out; have f0_ := (sb3.out.fr hw_ (fun h => by have hg_ := hG.out; skip; have hlt_ := sb3.out.lt; (try simp only at h); omega)).cell 0 rfl; have f1_ := (sb3.out.fr hw_ (fun h => by have hg_ := hG.out; skip; have hlt_ := sb3.out.lt; (try simp only at h); omega)).cell 1 rfl; simp [execOp, go_sem, f0_, f1_]) hS.out ?_
      have fb0_0 : W10.cell? ⟨w.heap.size, 0, none⟩ = some (Value.slice none 0 0) := b0.out.cell 0 rfl
      have fb0_z := b0.out.frozen
      have fb1_0 : W10.cell? ⟨w.heap.size + 1, 0, none⟩ = some (Value.int IntKind.i64 0) := b1.out.cell 0 rfl
      have fb1_1 : W10.cell? ⟨w.heap.size + 1, 1, none⟩ = some (Value.slice none 0 0) := b1.out.cell 1 rfl
      have fb1_z := b1.out.frozen
      have fb2_0 : W10.cell? ⟨w3.heap.size, 0, none⟩ = some (Value.slice AL l.length cL) := b2.out.cell 0 rfl
      have fb2_z := b2.out.frozen
      have fb3_0 : W10.cell? ⟨w7.heap.size, 0, none⟩ = some (Value.int IntKind.i64 rid) := b3.out.cell 0 rfl
      have fb3_1 : W10.cell? ⟨w7.heap.size, 1, none⟩ = some (Value.slice D3 rc.length d3) := b3.out.cell 1 rfl
      have fb3_z := b3.out.frozen
      go_wp2_with fail
      refine mixQ_n ?_
      clear fb0_0 fb0_z fb1_0 fb1_1 fb1_z fb2_0 fb2_z fb3_0 fb3_1 fb3_z
      refine mixT_b rfl ?_ (by rfl)
      have fb0_0 : W10.cell? ⟨w.heap.size, 0, none⟩ = some (Value.slice none 0 0) := b0.out.cell 0 rfl
      have fb0_z := b0.out.frozen
      have fb1_0 : W10.cell? ⟨w.heap.size + 1, 0, none⟩ = some (Value.int IntKind.i64 0) := b1.out.cell 0 rfl
      have fb1_1 : W10.cell? ⟨w.heap.size + 1, 1, none⟩ = some (Value.slice none 0 0) := b1.out.cell 1 rfl
      have fb1_z := b1.out.frozen
      have fb2_0 : W10.cell? ⟨w3.heap.size, 0, none⟩ = some (Value.slice AL l.length cL) := b2.out.cell 0 rfl
      have fb2_z := b2.out.frozen
      have fb3_0 : W10.cell? ⟨w7.heap.size, 0, none⟩ = some (Value.int IntKind.i64 rid) := b3.out.cell 0 rfl
      have fb3_1 : W10.cell? ⟨w7.heap.size, 1, none⟩ = some (Value.slice D3 rc.length d3) := b3.out.cell 1 rfl
      have fb3_z := b3.out.frozen
      go_wp2_with fail
      clear fb0_0 fb0_z fb1_0 fb1_1 fb1_z fb2_0 fb2_z fb3_0 fb3_1 fb3_z
      refine ⟨by repeat (first | exact hS.out | refine Fr.setCell ?_ _ (fun _ => by simp) _), ?_⟩
      refine genT ?_; intro W11 hW
      replace hS := Hd.mk (show Fr w9 W11 (fun k => k = g ∨ k = w.heap.size) by rw [hW]; exact (by repeat (first | exact hS.out | refine Fr.setCell ?_ _ (fun _ => by simp) _)))
      have hz_ : W10.heap.size ≤ W11.heap.size := by rw [hW]; simp
      have eF : Fr W10 W11 (fun k => k = w.heap.size ∨ W10.heap.size ≤ k) := by rw [hW]; (repeat (first | with_reducible refine Fr.setCell ?_ _ (fun _ => by simp <;> omega) _ | with_reducible refine Fr.alloc ?_ _ | with_reducible refine Fr.drew ?_)); exact Fr.refl _ _
      have z1_ := z1.out; have z2_ := z2.out; have z3_ := z3.out; have z4_ := z4.out; have z5_ := z5.out; have z6_ := z6.out; have z7_ := z7.out; have z8_ := z8.out; have z9_ := z9.out; have z10_ := z10.out
      have hC := Hd.mk (hC.out.fr eF (fun h => by have hg_ := hG.out; have hlt_ := hC.out.lt; (try simp only [rng] at h); (try simp only at h); omega) (fun k h => by have hg_ := hG.out; have hge_ := hC.out.ge; (try simp only [rng] at h); (try simp only at h); omega))
      have hB := Hd.mk (((Fr.of_below hB.out (fun k => k = w.heap.size ∨ W10.heap.size ≤ k)).then_ eF (fun k hk _ => hk)).below (fun k hk => by have := hB.out.size; omega))
      have b0 := Hd.mk (show Blk W11 (w.heap.size) #[Value.slice AL l.length cL] 34 by rw [hW]; exact (Blk.all b0.out [Value.slice AL l.length cL] rfl))
      have b1 := Hd.mk (b1.out.fr eF (fun h => by have hlt_ := b1.out.lt; (try simp only at h); omega))
      have b2 := Hd.mk (b2.out.fr eF (fun h => by have hlt_ := b2.out.lt; (try simp only at h); omega))
      have b3 := Hd.mk (b3.out.fr eF (fun h => by have hlt_ := b3.out.lt; (try simp only at h); omega))
      have hL := Hd.mk (R_fr hL.out eF (fun k hk hl h => by skip; (try simp only [rng] at hk); (try simp only at hk); (try simp only at h); omega))
      have hQ := Hd.mk (R_fr hQ.out eF (fun k hk hl h => by skip; (try simp only [rng] at hk); (try simp only at hk); (try simp only at h); omega))
      clear hW eF
      have z11 := Hd.mk hz_; clear hz_
      refine mixT_b rfl ?_ (by rfl)
      go_wp2_with fail
      refine ⟨hS.out, ?_⟩
      refine mixT_fin ?_
      clear hS
      have fb0_0 : W11.cell? ⟨w.heap.size, 0, none⟩ = some (Value.slice AL l.length cL) := b0.out.cell 0 rfl
      have fb0_z := b0.out.frozen
      have fb1_0 : W11.cell? ⟨w.heap.size + 1, 0, none⟩ = some (Value.int IntKind.i64 0) := b1.out.cell 0 rfl
      have fb1_1 : W11.cell? ⟨w.heap.size + 1, 1, none⟩ = some (Value.slice none 0 0) := b1.out.cell 1 rfl
      have fb1_z := b1.out.frozen
      have fb2_0 : W11.cell? ⟨w3.heap.size, 0, none⟩ = some (Value.slice AL l.length cL) := b2.out.cell 0 rfl
      have fb2_z := b2.out.frozen
      have fb3_0 : W11.cell? ⟨w7.heap.size, 0, none⟩ = some (Value.int IntKind.i64 rid) := b3.out.cell 0 rfl
      have fb3_1 : W11.cell? ⟨w7.heap.size, 1, none⟩ = some (Value.slice D3 rc.length d3) := b3.out.cell 1 rfl
      have fb3_z := b3.out.frozen
      refine tail_b rfl ?_ (by rfl)
      go_wp2_with fail
      refine mixQ_n ?_
      refine tail_nil ?_
      go_wp2_with fail
      refine bodyPost_retW (v := .tuple #[.agg #[Value.slice AL l.length cL], .int .i64 t, .agg #[Value.int IntKind.i64 rid, Value.slice D3 rc.length d3]]) (by simp [results, Try.results35, go_sem, fb0_0, fb0_z, fb1_0, fb1_1, fb1_z, fb2_0, fb2_z, fb3_0, fb3_1, fb3_z]) rfl ?_
      intro W hW
      clear fb0_0 fb0_z fb1_0 fb1_1 fb1_z fb2_0 fb2_z fb3_0 fb3_1 fb3_z
      have hz_ : W11.heap.size ≤ W.heap.size := by rw [hW]; simp
      have eF : Fr W11 W (fun k => k = w.heap.size + 1 ∨ W11.heap.size ≤ k) := by rw [hW]; (repeat (first | with_reducible refine Fr.setCell ?_ _ (fun _ => by simp <;> omega) _ | with_reducible refine Fr.alloc ?_ _ | with_reducible refine Fr.drew ?_)); exact Fr.refl _ _
      have z1_ := z1.out; have z2_ := z2.out; have z3_ := z3.out; have z4_ := z4.out; have z5_ := z5.out; have z6_ := z6.out; have z7_ := z7.out; have z8_ := z8.out; have z9_ := z9.out; have z10_ := z10.out; have z11_ := z11.out
      have hC := Hd.mk (hC.out.fr eF (fun h => by have hg_ := hG.out; have hlt_ := hC.out.lt; (try simp only [rng] at h); (try simp only at h); omega) (fun k h => by have hg_ := hG.out; have hge_ := hC.out.ge; (try simp only [rng] at h); (try simp only at h); omega))
      have hB := Hd.mk (((Fr.of_below hB.out (fun k => k = w.heap.size + 1 ∨ W11.heap.size ≤ k)).then_ eF (fun k hk _ => hk)).below (fun k hk => by have := hB.out.size; omega))
      have b0 := Hd.mk (b0.out.fr eF (fun h => by have hlt_ := b0.out.lt; (try simp only at h); omega))
      have b1 := Hd.mk (show Blk W (w.heap.size + 1) #[Value.int IntKind.i64 rid, Value.slice D3 rc.length d3] 41 by rw [hW]; exact (Blk.all b1.out [Value.int IntKind.i64 rid, Value.slice D3 rc.length d3] rfl))
      have b2 := Hd.mk (b2.out.fr eF (fun h => by have hlt_ := b2.out.lt; (try simp only at h); omega))
      have b3 := Hd.mk (b3.out.fr eF (fun h => by have hlt_ := b3.out.lt; (try simp only at h); omega))
      have hL := Hd.mk (R_fr hL.out eF (fun k hk hl h => by skip; (try simp only [rng] at hk); (try simp only at hk); (try simp only at h); omega))
      have hQ := Hd.mk (R_fr hQ.out eF (fun k hk hl h => by skip; (try simp only [rng] at hk); (try simp only at hk); (try simp only at h); omega))
      clear hW eF
      have z12 := Hd.mk hz_; clear hz_
      exact ⟨AL, cL, l, t, ⟨rid, rc⟩, [Value.int IntKind.i64 rid, Value.slice D3 rc.length d3], rfl, hcL, R_Cv hL.out, tRow_K.2 ⟨_, _, rfl, by first | exact hcD | exact Nat.le_refl _, R_Cv hQ.out⟩, hB.out⟩
    have hd0 : decide (z = 0) = false := decide_eq_false h0
    have hd1 : decide (z = 1) = false := decide_eq_false h1
    have hd2 : decide (z = 2) = false := decide_eq_false h2
    have he0 : (z == 0) = false := by simpa using h0
    have he1 : (z == 1) = false := by simpa using h1
    have he2 : (z == 2) = false := by simpa using h2
    clear h0 h1 h2
    have fb0_0 : w9.cell? ⟨w.heap.size, 0, none⟩ = some (Value.slice none 0 0) := b0.out.cell 0 rfl
    have fb0_z := b0.out.frozen
    have fb1_0 : w9.cell? ⟨w.heap.size + 1, 0, none⟩ = some (Value.int IntKind.i64 0) := b1.out.cell 0 rfl
    have fb1_1 : w9.cell? ⟨w.heap.size + 1, 1, none⟩ = some (Value.slice none 0 0) := b1.out.cell 1 rfl
    have fb1_z := b1.out.frozen
    have fb2_0 : w9.cell? ⟨w3.heap.size, 0, none⟩ = some (Value.slice AL l.length cL) := b2.out.cell 0 rfl
    have fb2_z := b2.out.frozen
    have fb3_0 : w9.cell? ⟨w7.heap.size, 0, none⟩ = some (Value.int IntKind.i64 rid) := b3.out.cell 0 rfl
    have fb3_1 : w9.cell? ⟨w7.heap.size, 1, none⟩ = some (Value.slice D3 rc.length d3) := b3.out.cell 1 rfl
    have fb3_z := b3.out.frozen
    go_wp2_with fail
    clear fb0_0 fb0_z fb1_0 fb1_1 fb1_z fb2_0 fb2_z fb3_0 fb3_1 fb3_z
    have sb0 := Hd.mk b0.out
    have sb1 := Hd.mk b1.out
    have sb2 := Hd.mk b2.out
    have sb3 := Hd.mk b3.out
    refine region_mixC (fun w2 => Fr w9 w2 (fun k => k = g ∨ k = w.heap.size)) (.q 0 (.p 1 (.q 2 (.b 3 (.b 4 .fin))))) [5] (by kernel_rfl) (Fr.drew (Fr.refl _ _)) (by kernel_rfl) (fun _ _ _ _ _ h => h) ?_
    refine genT ?_
    intro W10 hW
    have hS := Hd.mk (show Fr w9 W10 (fun k => k = g ∨ k = w.heap.size) by rw [hW]; exact Fr.drew (Fr.refl _ _))
    have hz_ : w9.heap.size ≤ W10.heap.size := by rw [hW]; simp
    have hE : Below w9.heap.size w9 W10 := by rw [hW]; (repeat (first | with_reducible refine below_alloc ?_ _ | with_reducible refine below_drew ?_)); exact Below.refl _ _
    have hB := Hd.mk (below_then hB.out hE)
    have hC := Hd.mk (hC.out.below hE)
    have b0 := Hd.mk (b0.out.below hE)
    have b1 := Hd.mk (b1.out.below hE)
    have b2 := Hd.mk (b2.out.below hE)
    have b3 := Hd.mk (b3.out.below hE)
    have hL := Hd.mk (R_below hL.out hE)
    have hQ := Hd.mk (R_below hQ.out hE)
    clear hW hE
    have z10 := Hd.mk hz_; clear hz_
    refine mixT_see rfl (by rfl) (Value.agg #[Value.slice AL l.length cL]) (fun w_ hw_ => by have z1_ := z1.out; have z2_ := z2.out; have z3_ := z3.out; have z4_ := z4.out; have z5_ := z5.out; have z6_ := z6.out; have z7_ := z7.out; have z8_ := z8.out; have z9_ := z9.out; have z10_ := z10.out; have f0_ := (sb2.out.fr hw_ (fun h => by have hg_ := hG.out; skip; have hlt_ := sb2.out.lt; (try simp only at h); omega)).cell 0 rfl; simp [execOp, go_sem, f0_]) hS.out ?_
    have fb0_0 : W10.cell? ⟨w.heap.size, 0, none⟩ = some (Value.slice none 0 0) := b0.out.cell 0 rfl
    have fb0_z := b0.out.frozen
    have fb1_0 : W10.cell? ⟨w.heap.size + 1, 0, none⟩ = some (Value.int IntKind.i64 0) := b1.out.cell 0 rfl
    have fb1_1 : W10.cell? ⟨w.heap.size + 1, 1, none⟩ = some (Value.slice none 0 0) := b1.out.cell 1 rfl
    have fb1_z := b1.out.frozen
    have fb2_0 : W10.cell? ⟨w3.heap.size, 0, none⟩ = some (Value.slice AL l.length cL) := b2.out.cell 0 rfl
    have fb2_z := b2.out.frozen
    have fb3_0 : W10.cell? ⟨w7.heap.size, 0, none⟩ = some (Value.int IntKind.i64 rid) := b3.out.cell 0 rfl
    have fb3_1 : W10.cell? ⟨w7.heap.size, 1, none⟩ = some (Value.slice D3 rc.length d3) := b3.out.cell 1 rfl
    have fb3_z := b3.out.frozen
    go_wp2_with fail
    refine mixQ_n ?_
    clear fb0_0 fb0_z fb1_0 fb1_1 fb1_z fb2_0 fb2_z fb3_0 fb3_1 fb3_z
    refine mixT_p rfl ?_
    go_big_quiet_want; go_big_quiet_op; go_big_quiet_on; refine wpQuiet_nil ?_
    refine mixT_see rfl (by rfl) (Value.agg #[Value.int IntKind.i64 rid, Value.slice D3 rc.length d3]) (fun w_ hw_ => by have z1_ := z1.out; have z2_ := z2.out; have z3_ := z3.out; have z4_ := z4.out; have z5_ := z5.out; have z6_ := z6.out; have z7_ := z7.out; have z8_ := z8.out; have z9_ := z9.out; have z10_ := z10.out; have f0_ := (sb3.out.fr hw_ (fun h => by have hg_ := hG.out; skip; have hlt_ := sb3.out.lt; (try simp only at h); omega)).cell 0 rfl; have f1_ := (sb3.out.fr hw_ (fun h => by have hg_ := hG.out; skip; have hlt_ := sb3.out.lt; (try simp only at h); omega)).cell 1 rfl; simp [execOp, go_sem, f0_, f1_]) hS.out ?_
    have fb0_0 : W10.cell? ⟨w.heap.size, 0, none⟩ = some (Value.slice none 0 0) := b0.out.cell 0 rfl
    have fb0_z := b0.out.frozen
    have fb1_0 : W10.cell? ⟨w.heap.size + 1, 0, none⟩ = some (Value.int IntKind.i64 0) := b1.out.cell 0 rfl
    have fb1_1 : W10.cell? ⟨w.heap.size + 1, 1, none⟩ = some (Value.slice none 0 0) := b1.out.cell 1 rfl
    have fb1_z := b1.out.frozen
    have fb2_0 : W10.cell? ⟨w3.heap.size, 0, none⟩ = some (Value.slice AL l.length cL) := b2.out.cell 0 rfl
    have fb2_z := b2.out.frozen
    have fb3_0 : W10.cell? ⟨w7.heap.size, 0, none⟩ = some (Value.int IntKind.i64 rid) := b3.out.cell 0 rfl
    have fb3_1 : W10.cell? ⟨w7.heap.size, 1, none⟩ = some (Value.slice D3 rc.length d3) := b3.out.cell 1 rfl
    have fb3_z := b3.out.frozen
    go_wp2_with fail
    refine mixQ_n ?_
    clear fb0_0 fb0_z fb1_0 fb1_1 fb1_z fb2_0 fb2_z fb3_0 fb3_1 fb3_z
    refine mixT_b rfl ?_ (by rfl)
    have fb0_0 : W10.cell? ⟨w.heap.size, 0, none⟩ = some (Value.slice none 0 0) := b0.out.cell 0 rfl
    have fb0_z := b0.out.frozen
    have fb1_0 : W10.cell? ⟨w.heap.size + 1, 0, none⟩ = some (Value.int IntKind.i64 0) := b1.out.cell 0 rfl
    have fb1_1 : W10.cell? ⟨w.heap.size + 1, 1, none⟩ = some (Value.slice none 0 0) := b1.out.cell 1 rfl
    have fb1_z := b1.out.frozen
    have fb2_0 : W10.cell? ⟨w3.heap.size, 0, none⟩ = some (Value.slice AL l.length cL) := b2.out.cell 0 rfl
    have fb2_z := b2.out.frozen
    have fb3_0 : W10.cell? ⟨w7.heap.size, 0, none⟩ = some (Value.int IntKind.i64 rid) := b3.out.cell 0 rfl
    have fb3_1 : W10.cell? ⟨w7.heap.size, 1, none⟩ = some (Value.slice D3 rc.length d3) := b3.out.cell 1 rfl
    have fb3_z := b3.out.frozen
    go_wp2_with fail
    clear fb0_0 fb0_z fb1_0 fb1_1 fb1_z fb2_0 fb2_z fb3_0 fb3_1 fb3_z
    refine ⟨by repeat (first | exact hS.out | refine Fr.setCell ?_ _ (fun _ => by simp) _), ?_⟩
    refine genT ?_; intro W11 hW
    replace hS := Hd.mk (show Fr w9 W11 (fun k => k = g ∨ k = w.heap.size) by rw [hW]; exact (by repeat (first | exact hS.out | refine Fr.setCell ?_ _ (fun _ => by simp) _)))
    have hz_ : W10.heap.size ≤ W11.heap.size := by rw [hW]; simp
    have eF : Fr W10 W11 (fun k => k = w.heap.size ∨ W10.heap.size ≤ k) := by rw [hW]; (repeat (first | with_reducible refine Fr.setCell ?_ _ (fun _ => by simp <;> omega) _ | with_reducible refine Fr.alloc ?_ _ | with_reducible refine Fr.drew ?_)); exact Fr.refl _ _
    have z1_ := z1.out; have z2_ := z2.out; have z3_ := z3.out; have z4_ := z4.out; have z5_ := z5.out; have z6_ := z6.out; have z7_ := z7.out; have z8_ := z8.out; have z9_ := z9.out; have z10_ := z10.out
    have hC := Hd.mk (hC.out.fr eF (fun h => by have hg_ := hG.out; have hlt_ := hC.out.lt; (try simp only [rng] at h); (try simp only at h); omega) (fun k h => by have hg_ := hG.out; have hge_ := hC.out.ge; (try simp only [rng] at h); (try simp only at h); omega))
    have hB := Hd.mk (((Fr.of_below hB.out (fun k => k = w.heap.size ∨ W10.heap.size ≤ k)).then_ eF (fun k hk _ => hk)).below (fun k hk => by have := hB.out.size; omega))
    have b0 := Hd.mk (show Blk W11 (w.heap.size) #[Value.slice AL l.length cL] 34 by rw [hW]; exact (Blk.all b0.out [Value.slice AL l.length cL] rfl))
    have b1 := Hd.mk (b1.out.fr eF (fun h => by have hlt_ := b1.out.lt; (try simp only at h); omega))
    have b2 := Hd.mk (b2.out.fr eF (fun h => by have hlt_ := b2.out.lt; (try simp only at h); omega))
    have b3 := Hd.mk (b3.out.fr eF (fun h => by have hlt_ := b3.out.lt; (try simp only at h); omega))
    have hL := Hd.mk (R_fr hL.out eF (fun k hk hl h => by skip; (try simp only [rng] at hk); (try simp only at hk); (try simp only at h); omega))
    have hQ := Hd.mk (R_fr hQ.out eF (fun k hk hl h => by skip; (try simp only [rng] at hk); (try simp only at hk); (try simp only at h); omega))
    clear hW eF
    have z11 := Hd.mk hz_; clear hz_
    refine mixT_b rfl ?_ (by rfl)
    go_wp2_with fail
    refine ⟨hS.out, ?_⟩
    refine mixT_fin ?_
    clear hS
    have fb0_0 : W11.cell? ⟨w.heap.size, 0, none⟩ = some (Value.slice AL l.length cL) := b0.out.cell 0 rfl
    have fb0_z := b0.out.frozen
    have fb1_0 : W11.cell? ⟨w.heap.size + 1, 0, none⟩ = some (Value.int IntKind.i64 0) := b1.out.cell 0 rfl
    have fb1_1 : W11.cell? ⟨w.heap.size + 1, 1, none⟩ = some (Value.slice none 0 0) := b1.out.cell 1 rfl
    have fb1_z := b1.out.frozen
    have fb2_0 : W11.cell? ⟨w3.heap.size, 0, none⟩ = some (Value.slice AL l.length cL) := b2.out.cell 0 rfl
    have fb2_z := b2.out.frozen
    have fb3_0 : W11.cell? ⟨w7.heap.size, 0, none⟩ = some (Value.int IntKind.i64 rid) := b3.out.cell 0 rfl
    have fb3_1 : W11.cell? ⟨w7.heap.size, 1, none⟩ = some (Value.slice D3 rc.length d3) := b3.out.cell 1 rfl
    have fb3_z := b3.out.frozen
    refine tail_b rfl ?_ (by rfl)
    go_wp2_with fail
    refine mixQ_n ?_
    refine tail_nil ?_
    go_wp2_with fail
    refine bodyPost_retW (v := .tuple #[.agg #[Value.slice AL l.length cL], .int .i64 t, .agg #[Value.int IntKind.i64 rid, Value.slice D3 rc.length d3]]) (by simp [results, Try.results35, go_sem, fb0_0, fb0_z, fb1_0, fb1_1, fb1_z, fb2_0, fb2_z, fb3_0, fb3_1, fb3_z]) rfl ?_
    intro W hW
    clear fb0_0 fb0_z fb1_0 fb1_1 fb1_z fb2_0 fb2_z fb3_0 fb3_1 fb3_z
    have hz_ : W11.heap.size ≤ W.heap.size := by rw [hW]; simp
    have eF : Fr W11 W (fun k => k = w.heap.size + 1 ∨ W11.heap.size ≤ k) := by rw [hW]; (repeat (first | with_reducible refine Fr.setCell ?_ _ (fun _ => by simp <;> omega) _ | with_reducible refine Fr.alloc ?_ _ | with_reducible refine Fr.drew ?_)); exact Fr.refl _ _
    have z1_ := z1.out; have z2_ := z2.out; have z3_ := z3.out; have z4_ := z4.out; have z5_ := z5.out; have z6_ := z6.out; have z7_ := z7.out; have z8_ := z8.out; have z9_ := z9.out; have z10_ := z10.out; have z11_ := z11.out
    have hC := Hd.mk (hC.out.fr eF (fun h => by have hg_ := hG.out; have hlt_ := hC.out.lt; (try simp only [rng] at h); (try simp only at h); omega) (fun k h => by have hg_ := hG.out; have hge_ := hC.out.ge; (try simp only [rng] at h); (try simp only at h); omega))
    have hB := Hd.mk (((Fr.of_below hB.out (fun k => k = w.heap.size + 1 ∨ W11.heap.size ≤ k)).then_ eF (fun k hk _ => hk)).below (fun k hk => by have := hB.out.size; omega))
    have b0 := Hd.mk (b0.out.fr eF (fun h => by have hlt_ := b0.out.lt; (try simp only at h); omega))
    have b1 := Hd.mk (show Blk W (w.heap.size + 1) #[Value.int IntKind.i64 rid, Value.slice D3 rc.length d3] 41 by rw [hW]; exact (Blk.all b1.out [Value.int IntKind.i64 rid, Value.slice D3 rc.length d3] rfl))
    have b2 := Hd.mk (b2.out.fr eF (fun h => by have hlt_ := b2.out.lt; (try simp only at h); omega))
    have b3 := Hd.mk (b3.out.fr eF (fun h => by have hlt_ := b3.out.lt; (try simp only at h); omega))
    have hL := Hd.mk (R_fr hL.out eF (fun k hk hl h => by skip; (try simp only [rng] at hk); (try simp only at hk); (try simp only at h); omega))
    have hQ := Hd.mk (R_fr hQ.out eF (fun k hk hl h => by skip; (try simp only [rng] at hk); (try simp only at hk); (try simp only at h); omega))
    clear hW eF
    have z12 := Hd.mk hz_; clear hz_
    exact ⟨AL, cL, l, t, ⟨rid, rc⟩, [Value.int IntKind.i64 rid, Value.slice D3 rc.length d3], rfl, hcL, R_Cv hL.out, tRow_K.2 ⟨_, _, rfl, by first | exact hcD | exact Nat.le_refl _, R_Cv hQ.out⟩, hB.out⟩
  · obtain ⟨t0, t1⟩ := inB_iff.1 hin
    obtain ⟨j, rfl⟩ := Int.eq_ofNat_of_zero_le t0
    have hj : j < l.length := by omega
    clear hin
    obtain ⟨ad, had, yj⟩ := C_int_at (R_Cv hL.out) (Below.refl _ _) j hj
    subst had
    obtain ⟨n, hn⟩ : ∃ z, z = l[j] := ⟨_, rfl⟩
    rw [← hn] at yj
    have hn5 : n ≤ 5 := by rw [hn]; exact (hP.out _ (List.getElem_mem hj)).2
    clear hn
    have fb0_0 : w6.cell? ⟨w.heap.size, 0, none⟩ = some (Value.slice none 0 0) := b0.out.cell 0 rfl
    have fb0_z := b0.out.frozen
    have fb1_0 : w6.cell? ⟨w.heap.size + 1, 0, none⟩ = some (Value.int IntKind.i64 0) := b1.out.cell 0 rfl
    have fb1_1 : w6.cell? ⟨w.heap.size + 1, 1, none⟩ = some (Value.slice none 0 0) := b1.out.cell 1 rfl
    have fb1_z := b1.out.frozen
    have fb2_0 : w6.cell? ⟨w3.heap.size, 0, none⟩ = some (Value.slice (some ad) l.length cL) := b2.out.cell 0 rfl
    have fb2_z := b2.out.frozen
    go_wp2_with fail
    clear fb0_0 fb0_z fb1_0 fb1_1 fb1_z fb2_0 fb2_z
    clear yj
    refine (spec_l6DrawRow n (by omega) w _ g hC.out).mono ?_
    rintro e w7 ⟨r, cs0, rfl, hO0, _, _, hr0, hC1, hX⟩
    have hC := Hd.mk hC1; clear hC1
    have hSz0 := hB.out.size
    have hg_ := hG.out
    have z1_ := z1.out; have z2_ := z2.out; have z3_ := z3.out; have z4_ := z4.out; have z5_ := z5.out; have z6_ := z6.out
    have b0 := Hd.mk (b0.out.fr hX (fun h => by skip; (try simp only at h); omega))
    have b1 := Hd.mk (b1.out.fr hX (fun h => by skip; (try simp only at h); omega))
    have b2 := Hd.mk (b2.out.fr hX (fun h => by skip; (try simp only at h); omega))
    have hL := Hd.mk (R_fr hL.out hX (fun k hk hl h => by skip; (try simp only [rng] at hk); (try simp only at hk); (try simp only at h); omega))
    have hB := Hd.mk (below_frS hB.out hX (fun k h => by (try simp only at h); omega))
    have hz_ := hX.size
    clear hSz0 hg_ hX
    have z7 := Hd.mk hz_; clear hz_
    obtain ⟨rid, rc⟩ := r
    obtain ⟨v3, hcs0, hv3⟩ := tRow_O.1 hO0
    simp only at hcs0 hv3 hr0
    subst hcs0
    obtain ⟨D3, d3, rfl, hcD, _⟩ := R_C hv3
    have hQ := Hd.mk (show int.R 3 w7 (rng w6.heap.size w7.heap.size) (.slice D3 rc.length d3) rc from R_bound hv3); clear hv3
    have hrc5 : rc.length ≤ 5 := by omega
    clear hr0
    have fb0_0 : w7.cell? ⟨w.heap.size, 0, none⟩ = some (Value.slice none 0 0) := b0.out.cell 0 rfl
    have fb0_z := b0.out.frozen
    have fb1_0 : w7.cell? ⟨w.heap.size + 1, 0, none⟩ = some (Value.int IntKind.i64 0) := b1.out.cell 0 rfl
    have fb1_1 : w7.cell? ⟨w.heap.size + 1, 1, none⟩ = some (Value.slice none 0 0) := b1.out.cell 1 rfl
    have fb1_z := b1.out.frozen
    have fb2_0 : w7.cell? ⟨w3.heap.size, 0, none⟩ = some (Value.slice (some ad) l.length cL) := b2.out.cell 0 rfl
    have fb2_z := b2.out.frozen
    go_wp2_with fail
    clear fb0_0 fb0_z fb1_0 fb1_1 fb1_z fb2_0 fb2_z
    apply calls_gen; intro W8 hW
    have hz_ : w7.heap.size + 1 ≤ W8.heap.size := by rw [hW]; simp
    have hE : Below w7.heap.size w7 W8 := by rw [hW]; (repeat (first | with_reducible refine below_alloc ?_ _ | with_reducible refine below_drew ?_)); exact Below.refl _ _
    have hB := Hd.mk (below_then hB.out hE)
    have hC := Hd.mk (hC.out.below hE)
    have b0 := Hd.mk (b0.out.below hE)
    have b1 := Hd.mk (b1.out.below hE)
    have b2 := Hd.mk (b2.out.below hE)
    have b3 := Hd.mk (show Blk W8 (w7.heap.size) #[Value.int IntKind.i64 rid, Value.slice D3 rc.length d3] 41 by rw [hW]; first | exact (Blk.new _ _ _) | (simpa using (Blk.new _ _ _)))
    have hL := Hd.mk (R_below hL.out hE)
    have hQ := Hd.mk (R_below hQ.out hE)
    clear hW hE
    have z8 := Hd.mk hz_; clear hz_
    refine (spec_l1Below 9 w _ g hC.out).mono ?_
    rintro e w9 ⟨z, rfl, z0_, z1_, _, hC1, hX⟩
    have hC := Hd.mk hC1; clear hC1
    have hSz0 := hB.out.size
    have hg_ := hG.out
    have z1_ := z1.out; have z2_ := z2.out; have z3_ := z3.out; have z4_ := z4.out; have z5_ := z5.out; have z6_ := z6.out; have z7_ := z7.out; have z8_ := z8.out
    have b0 := Hd.mk (b0.out.fr hX (fun h => by skip; (try simp only at h); omega))
    have b1 := Hd.mk (b1.out.fr hX (fun h => by skip; (try simp only at h); omega))
    have b2 := Hd.mk (b2.out.fr hX (fun h => by skip; (try simp only at h); omega))
    have b3 := Hd.mk (b3.out.fr hX (fun h => by skip; (try simp only at h); omega))
    have hL := Hd.mk (R_fr hL.out hX (fun k hk hl h => by skip; (try simp only [rng] at hk); (try simp only at hk); (try simp only at h); omega))
    have hQ := Hd.mk (R_fr hQ.out hX (fun k hk hl h => by skip; (try simp only [rng] at hk); (try simp only at hk); (try simp only at h); omega))
    have hB := Hd.mk (below_frS hB.out hX (fun k h => by (try simp only at h); omega))
    have hz_ := hX.size
    clear hSz0 hg_ hX
    have z9 := Hd.mk hz_; clear hz_
    clear z0_ z1_
    by_cases h0 : z = 0
    · subst h0
      have fb0_0 : w9.cell? ⟨w.heap.size, 0, none⟩ = some (Value.slice none 0 0) := b0.out.cell 0 rfl
      have fb0_z := b0.out.frozen
      have fb1_0 : w9.cell? ⟨w.heap.size + 1, 0, none⟩ = some (Value.int IntKind.i64 0) := b1.out.cell 0 rfl
      have fb1_1 : w9.cell? ⟨w.heap.size + 1, 1, none⟩ = some (Value.slice none 0 0) := b1.out.cell 1 rfl
      have fb1_z := b1.out.frozen
      have fb2_0 : w9.cell? ⟨w3.heap.size, 0, none⟩ = some (Value.slice (some ad) l.length cL) := b2.out.cell 0 rfl
      have fb2_z := b2.out.frozen
      have fb3_0 : w9.cell? ⟨w7.heap.size, 0, none⟩ = some (Value.int IntKind.i64 rid) := b3.out.cell 0 rfl
      have fb3_1 : w9.cell? ⟨w7.heap.size, 1, none⟩ = some (Value.slice D3 rc.length d3) := b3.out.cell 1 rfl
      have fb3_z := b3.out.frozen
      go_wp2_with fail
      clear fb0_0 fb0_z fb1_0 fb1_1 fb1_z fb2_0 fb2_z fb3_0 fb3_1 fb3_z
      apply calls_gen; intro W10 hW
      have hE0 := Hd.mk (show int.R 3 W10 (fun k => k = w9.heap.size) (.slice (some ⟨w9.heap.size, 0, none⟩) 3 3) [0, 999, 1000] by rw [hW]; exact R_ints (W0 := w9) [0, 999, 1000] (by decide))
      have hz_ : w9.heap.size + 1 ≤ W10.heap.size := by rw [hW]; simp
      have hE : Below w9.heap.size w9 W10 := by rw [hW]; (repeat (first | with_reducible refine below_alloc ?_ _ | with_reducible refine below_drew ?_)); exact Below.refl _ _
      have hB := Hd.mk (below_then hB.out hE)
      have hC := Hd.mk (hC.out.below hE)
      have b0 := Hd.mk (b0.out.below hE)
      have b1 := Hd.mk (b1.out.below hE)
      have b2 := Hd.mk (b2.out.below hE)
      have b3 := Hd.mk (b3.out.below hE)
      have hL := Hd.mk (R_below hL.out hE)
      have hQ := Hd.mk (R_below hQ.out hE)
      clear hW hE
      have z10 := Hd.mk hz_; clear hz_
      have z1_ := z1.out; have z2_ := z2.out; have z3_ := z3.out; have z4_ := z4.out; have z5_ := z5.out; have z6_ := z6.out; have z7_ := z7.out; have z8_ := z8.out; have z9_ := z9.out; have z10_ := z10.out
      have hgx := hG.out
      have hCl := hC.out.lt
      have hEg := Hd.mk (show ¬ (fun k => k = w9.heap.size) g by (try simp only); omega)
      refine (spec_l1PickInt _ _ _ [0, 999, 1000] w _ g hE0.out hEg.out rfl (by decide) (by decide) hC.out).mono ?_
      rintro e w11 ⟨u, rfl, _, hC1, hX⟩
      have hC := Hd.mk hC1; clear hC1
      have hSz0 := hB.out.size
      have hg_ := hG.out
      have z1_ := z1.out; have z2_ := z2.out; have z3_ := z3.out; have z4_ := z4.out; have z5_ := z5.out; have z6_ := z6.out; have z7_ := z7.out; have z8_ := z8.out; have z9_ := z9.out; have z10_ := z10.out
      have b0 := Hd.mk (b0.out.fr hX (fun h => by skip; (try simp only at h); omega))
      have b1 := Hd.mk (b1.out.fr hX (fun h => by skip; (try simp only at h); omega))
      have b2 := Hd.mk (b2.out.fr hX (fun h => by skip; (try simp only at h); omega))
      have b3 := Hd.mk (b3.out.fr hX (fun h => by skip; (try simp only at h); omega))
      have hL := Hd.mk (R_fr hL.out hX (fun k hk hl h => by skip; (try simp only [rng] at hk); (try simp only at hk); (try simp only at h); omega))
      have hQ := Hd.mk (R_fr hQ.out hX (fun k hk hl h => by skip; (try simp only [rng] at hk); (try simp only at hk); (try simp only at h); omega))
      have hB := Hd.mk (below_frS hB.out hX (fun k h => by (try simp only at h); omega))
      have hz_ := hX.size
      clear hSz0 hg_ hX
      have z11 := Hd.mk hz_; clear hz_
      clear hE0 hEg
      have fb0_0 : w11.cell? ⟨w.heap.size, 0, none⟩ = some (Value.slice none 0 0) := b0.out.cell 0 rfl
      have fb0_z := b0.out.frozen
      have fb1_0 : w11.cell? ⟨w.heap.size + 1, 0, none⟩ = some (Value.int IntKind.i64 0) := b1.out.cell 0 rfl
      have fb1_1 : w11.cell? ⟨w.heap.size + 1, 1, none⟩ = some (Value.slice none 0 0) := b1.out.cell 1 rfl
      have fb1_z := b1.out.frozen
      have fb2_0 : w11.cell? ⟨w3.heap.size, 0, none⟩ = some (Value.slice (some ad) l.length cL) := b2.out.cell 0 rfl
      have fb2_z := b2.out.frozen
      have fb3_0 : w11.cell? ⟨w7.heap.size, 0, none⟩ = some (Value.int IntKind.i64 rid) := b3.out.cell 0 rfl
      have fb3_1 : w11.cell? ⟨w7.heap.size, 1, none⟩ = some (Value.slice D3 rc.length d3) := b3.out.cell 1 rfl
      have fb3_z := b3.out.frozen
      go_wp2_with fail
      clear fb0_0 fb0_z fb1_0 fb1_1 fb1_z fb2_0 fb2_z fb3_0 fb3_1 fb3_z
      apply wp_gen; intro W12 hW
      have hz_ : w11.heap.size ≤ W12.heap.size := by rw [hW]; simp
      have eF : Fr w11 W12 (fun k => k = w7.heap.size ∨ w11.heap.size ≤ k) := by rw [hW]; (repeat (first | with_reducible refine Fr.setCell ?_ _ (fun _ => by simp <;> omega) _ | with_reducible refine Fr.alloc ?_ _ | with_reducible refine Fr.drew ?_)); exact Fr.refl _ _
      have z1_ := z1.out; have z2_ := z2.out; have z3_ := z3.out; have z4_ := z4.out; have z5_ := z5.out; have z6_ := z6.out; have z7_ := z7.out; have z8_ := z8.out; have z9_ := z9.out; have z10_ := z10.out; have z11_ := z11.out
      have hC := Hd.mk (hC.out.fr eF (fun h => by have hg_ := hG.out; have hlt_ := hC.out.lt; (try simp only [rng] at h); (try simp only at h); omega) (fun k h => by have hg_ := hG.out; have hge_ := hC.out.ge; (try simp only [rng] at h); (try simp only at h); omega))
      have hB := Hd.mk (((Fr.of_below hB.out (fun k => k = w7.heap.size ∨ w11.heap.size ≤ k)).then_ eF (fun k hk _ => hk)).below (fun k hk => by have := hB.out.size; omega))
      have b0 := Hd.mk (b0.out.fr eF (fun h => by have hlt_ := b0.out.lt; (try simp only at h); omega))
      have b1 := Hd.mk (b1.out.fr eF (fun h => by have hlt_ := b1.out.lt; (try simp only at h); omega))
      have b2 := Hd.mk (b2.out.fr eF (fun h => by have hlt_ := b2.out.lt; (try simp only at h); omega))
      have b3 := Hd.mk (show Blk W12 (w7.heap.size) #[Value.int IntKind.i64 u, Value.slice D3 rc.length d3] 41 by rw [hW]; exact (b3.out.set 0 (Value.int IntKind.i64 u)))
      have hL := Hd.mk (R_fr hL.out eF (fun k hk hl h => by skip; (try simp only [rng] at hk); (try simp only at hk); (try simp only at h); omega))
      have hQ := Hd.mk (R_fr hQ.out eF (fun k hk hl h => by skip; (try simp only [rng] at hk); (try simp only at hk); (try simp only at h); omega))
      clear hW eF
      have z12 := Hd.mk hz_; clear hz_
      have sb0 := Hd.mk b0.out
      have sb1 := Hd.mk b1.out
      have sb2 := Hd.mk b2.out
      have sb3 := Hd.mk b3.out
      refine region_mixC (fun w2 => Fr W12 w2 (fun k => k = g ∨ k = w.heap.size)) (.q 0 (.p 1 (.q 2 (.b 3 (.b 4 .fin))))) [5] (by kernel_rfl) (Fr.drew (Fr.refl _ _)) (by kernel_rfl) (fun _ _ _ _ _ h => h) ?_
      refine genT ?_
      intro W13 hW
      have hS := Hd.mk (show Fr W12 W13 (fun k => k = g ∨ k = w.heap.size) by rw [hW]; exact Fr.drew (Fr.refl _ _))
      have hz_ : W12.heap.size ≤ W13.heap.size := by rw [hW]; simp
      have hE : Below W12.heap.size W12 W13 := by rw [hW]; (repeat (first | with_reducible refine below_alloc ?_ _ | with_reducible refine below_drew ?_)); exact Below.refl _ _
      have hB := Hd.mk (below_then hB.out hE)
      have hC := Hd.mk (hC.out.below hE)
      have b0 := Hd.mk (b0.out.below hE)
      have b1 := Hd.mk (b1.out.below hE)
      have b2 := Hd.mk (b2.out.below hE)
      have b3 := Hd.mk (b3.out.below hE)
      have hL := Hd.mk (R_below hL.out hE)
      have hQ := Hd.mk (R_below hQ.out hE)
      clear hW hE
      have z13 := Hd.mk hz_; clear hz_
      refine mixT_see rfl (by rfl) (Value.agg #[Value.slice (some ad) l.length cL]) (fun w_ hw_ => by have z1_ := z1.out; have z2_ := z2.out; have z3_ := z3.out; have z4_ := z4.out; have z5_ := z5.out; have z6_ := z6.out; have z7_ := z7.out; have z8_ := z8.out; have z9_ := z9.out; have z10_ := z10.out; have z11_ := z11.out; have z12_ := z12.out; have z13_ := z13.out; have f0_ := (sb2.out.fr hw_ (fun h => by have hg_ := hG.out; skip; have hlt_ := sb2.out.lt; (try simp only at h); omega)).cell 0 rfl; simp [execOp, go_sem, f0_]) hS.out ?_
      have fb0_0 : W13.cell? ⟨w.heap.size, 0, none⟩ = some (Value.slice none 0 0) := b0.out.cell 0 rfl
      have fb0_z := b0.out.frozen
      have fb1_0 : W13.cell? ⟨w.heap.size + 1, 0, none⟩ = some (Value.int IntKind.i64 0) := b1.out.cell 0 rfl
      have fb1_1 : W13.cell? ⟨w.heap.size + 1, 1, none⟩ = some (Value.slice none 0 0) := b1.out.cell 1 rfl
      have fb1_z := b1.out.frozen
      have fb2_0 : W13.cell? ⟨w3.heap.size, 0, none⟩ = some (Value.slice (some ad) l.length cL) := b2.out.cell 0 rfl
      have fb2_z := b2.out.frozen
      have fb3_0 : W13.cell? ⟨w7.heap.size, 0, none⟩ = some (Value.int IntKind.i64 u) := b3.out.cell 0 rfl
      have fb3_1 : W13.cell? ⟨w7.heap.size, 1, none⟩ = some (Value.slice D3 rc.length d3) := b3.out.cell 1 rfl
      have fb3_z := b3.out.frozen
      go_wp2_with fail
      refine mixQ_n ?_
      clear fb0_0 fb0_z fb1_0 fb1_1 fb1_z fb2_0 fb2_z fb3_0 fb3_1 fb3_z
      refine mixT_p rfl ?_
      go_big_quiet_want; go_big_quiet_op; go_big_quiet_on; refine wpQuiet_nil ?_
      refine mixT_see rfl (by rfl) (Value.agg #[Value.int IntKind.i64 u, Value.slice D3 rc.length d3]) (fun w_ hw_ => by have z1_ := z1.out; have z2_ := z2.out; have z3_ := z3.out; have z4_ := z4.out; have z5_ := z5.out; have z6_ := z6.out; have z7_ := z7.out; have z8_ := z8.out; have z9_ := z9.out; have z10_ := z10.out; have z11_ := z11.out; have z12_ := z12.out; have z13_ := z13.out; have f0_ := (sb3.out.fr hw_ (fun h => by have hg_ := hG.out; skip; have hlt_ := sb3.out.lt; (try simp only at h); omega)).cell 0 rfl; have f1_ := (sb3.out.fr hw_ (fun h => by have hg_ := hG.out; skip; have hlt_ := sb3.out.lt; (try simp only at h); omega)).cell 1 rfl; simp [execOp, go_sem, f0_, f1_]) hS.out ?_
      have fb0_0 : W13.cell? ⟨w.heap.size, 0, none⟩ = some (Value.slice none 0 0) := b0.out.cell 0 rfl
      have fb0_z := b0.out.frozen
      have fb1_0 : W13.cell? ⟨w.heap.size + 1, 0, none⟩ = some (Value.int IntKind.i64 0) := b1.out.cell 0 rfl
      have fb1_1 : W13.cell? ⟨w.heap.size + 1, 1, none⟩ = some (Value.slice none 0 0) := b1.out.cell 1 rfl
      have fb1_z := b1.out.frozen
      have fb2_0 : W13.cell? ⟨w3.heap.size, 0, none⟩ = some (Value.slice (some ad) l.length cL) := b2.out.cell 0 rfl
      have fb2_z := b2.out.frozen
      have fb3_0 : W13.cell? ⟨w7.heap.size, 0, none⟩ = some (Value.int IntKind.i64 u) := b3.out.cell 0 rfl
      have fb3_1 : W13.cell? ⟨w7.heap.size, 1, none⟩ = some (Value.slice D3 rc.length d3) := b3.out.cell 1 rfl
      have fb3_z := b3.out.frozen
      go_wp2_with fail
      refine mixQ_n ?_
      clear fb0_0 fb0_z fb1_0 fb1_1 fb1_z fb2_0 fb2_z fb3_0 fb3_1 fb3_z
      refine mixT_b rfl ?_ (by rfl)
      have fb0_0 : W13.cell? ⟨w.heap.size, 0, none⟩ = some (Value.slice none 0 0) := b0.out.cell 0 rfl
      have fb0_z := b0.out.frozen
      have fb1_0 : W13.cell? ⟨w.heap.size + 1, 0, none⟩ = some (Value.int IntKind.i64 0) := b1.out.cell 0 rfl
      have fb1_1 : W13.cell? ⟨w.heap.size + 1, 1, none⟩ = some (Value.slice none 0 0) := b1.out.cell 1 rfl
      have fb1_z := b1.out.frozen
      have fb2_0 : W13.cell? ⟨w3.heap.size, 0, none⟩ = some (Value.slice (some ad) l.length cL) := b2.out.cell 0 rfl
      have fb2_z := b2.out.frozen
      have fb3_0 : W13.cell? ⟨w7.heap.size, 0, none⟩ = some (Value.int IntKind.i64 u) := b3.out.cell 0 rfl
      have fb3_1 : W13.cell? ⟨w7.heap.size, 1, none⟩ = some (Value.slice D3 rc.length d3) := b3.out.cell 1 rfl
      have fb3_z := b3.out.frozen
      go_wp2_with fail
      clear fb0_0 fb0_z fb1_0 fb1_1 fb1_z fb2_0 fb2_z fb3_0 fb3_1 fb3_z
      refine ⟨by repeat (first | exact hS.out | refine Fr.setCell ?_ _ (fun _ => by simp) _), ?_⟩
      refine genT ?_; intro W14 hW
      replace hS := Hd.mk (show Fr W12 W14 (fun k => k = g ∨ k = w.heap.size) by rw [hW]; exact (by repeat (first | exact hS.out | refine Fr.setCell ?_ _ (fun _ => by simp) _)))
      have hz_ : W13.heap.size ≤ W14.heap.size := by rw [hW]; simp
      have eF : Fr W13 W14 (fun k => k = w.heap.size ∨ W13.heap.size ≤ k) := by rw [hW]; (repeat (first | with_reducible refine Fr.setCell ?_ _ (fun _ => by simp <;> omega) _ | with_reducible refine Fr.alloc ?_ _ | with_reducible refine Fr.drew ?_)); exact Fr.refl _ _
      have z1_ := z1.out; have z2_ := z2.out; have z3_ := z3.out; have z4_ := z4.out; have z5_ := z5.out; have z6_ := z6.out; have z7_ := z7.out; have z8_ := z8.out; have z9_ := z9.out; have z10_ := z10.out; have z11_ := z11.out; have z12_ := z12.out; have z13_ := z13.out
      have hC := Hd.mk (hC.out.fr eF (fun h => by have hg_ := hG.out; have hlt_ := hC.out.lt; (try simp only [rng] at h); (try simp only at h); omega) (fun k h => by have hg_ := hG.out; have hge_ := hC.out.ge; (try simp only [rng] at h); (try simp only at h); omega))
      have hB := Hd.mk (((Fr.of_below hB.out (fun k => k = w.heap.size ∨ W13.heap.size ≤ k)).then_ eF (fun k hk _ => hk)).below (fun k hk => by have := hB.out.size; omega))
      have b0 := Hd.mk (show Blk W14 (w.heap.size) #[Value.slice (some ad) l.length cL] 34 by rw [hW]; exact (Blk.all b0.out [Value.slice (some ad) l.length cL] rfl))
      have b1 := Hd.mk (b1.out.fr eF (fun h => by have hlt_ := b1.out.lt; (try simp only at h); omega))
      have b2 := Hd.mk (b2.out.fr eF (fun h => by have hlt_ := b2.out.lt; (try simp only at h); omega))
      have b3 := Hd.mk (b3.out.fr eF (fun h => by have hlt_ := b3.out.lt; (try simp only at h); omega))
      have hL := Hd.mk (R_fr hL.out eF (fun k hk hl h => by skip; (try simp only [rng] at hk); (try simp only at hk); (try simp only at h); omega))
      have hQ := Hd.mk (R_fr hQ.out eF (fun k hk hl h => by skip; (try simp only [rng] at hk); (try simp only at hk); (try simp only at h); omega))
      clear hW eF
      have z14 := Hd.mk hz_; clear hz_
      refine mixT_b rfl ?_ (by rfl)
      go_wp2_with fail
      refine ⟨hS.out, ?_⟩
      refine mixT_fin ?_
      clear hS
      have fb0_0 : W14.cell? ⟨w.heap.size, 0, none⟩ = some (Value.slice (some ad) l.length cL) := b0.out.cell 0 rfl
      have fb0_z := b0.out.frozen
      have fb1_0 : W14.cell? ⟨w.heap.size + 1, 0, none⟩ = some (Value.int IntKind.i64 0) := b1.out.cell 0 rfl
      have fb1_1 : W14.cell? ⟨w.heap.size + 1, 1, none⟩ = some (Value.slice none 0 0) := b1.out.cell 1 rfl
      have fb1_z := b1.out.frozen
      have fb2_0 : W14.cell? ⟨w3.heap.size, 0, none⟩ = some (Value.slice (some ad) l.length cL) := b2.out.cell 0 rfl
      have fb2_z := b2.out.frozen
      have fb3_0 : W14.cell? ⟨w7.heap.size, 0, none⟩ = some (Value.int IntKind.i64 u) := b3.out.cell 0 rfl
      have fb3_1 : W14.cell? ⟨w7.heap.size, 1, none⟩ = some (Value.slice D3 rc.length d3) := b3.out.cell 1 rfl
      have fb3_z := b3.out.frozen
      refine tail_b rfl ?_ (by rfl)
      go_wp2_with fail
      refine mixQ_n ?_
      refine tail_nil ?_
      go_wp2_with fail
      refine bodyPost_retW (v := .tuple #[.agg #[Value.slice (some ad) l.length cL], .int .i64 (j : Int), .agg #[Value.int IntKind.i64 u, Value.slice D3 rc.length d3]]) (by simp [results, Try.results35, go_sem, fb0_0, fb0_z, fb1_0, fb1_1, fb1_z, fb2_0, fb2_z, fb3_0, fb3_1, fb3_z]) rfl ?_
      intro W hW
      clear fb0_0 fb0_z fb1_0 fb1_1 fb1_z fb2_0 fb2_z fb3_0 fb3_1 fb3_z
      have hz_ : W14.heap.size ≤ W.heap.size := by rw [hW]; simp
      have eF : Fr W14 W (fun k => k = w.heap.size + 1 ∨ W14.heap.size ≤ k) := by rw [hW]; (repeat (first | with_reducible refine Fr.setCell ?_ _ (fun _ => by simp <;> omega) _ | with_reducible refine Fr.alloc ?_ _ | with_reducible refine Fr.drew ?_)); exact Fr.refl _ _
      have z1_ := z1.out; have z2_ := z2.out; have z3_ := z3.out; have z4_ := z4.out; have z5_ := z5.out; have z6_ := z6.out; have z7_ := z7.out; have z8_ := z8.out; have z9_ := z9.out; have z10_ := z10.out; have z11_ := z11.out; have z12_ := z12.out; have z13_ := z13.out; have z14_ := z14.out
      have hC := Hd.mk (hC.out.fr eF (fun h => by have hg_ := hG.out; have hlt_ := hC.out.lt; (try simp only [rng] at h); (try simp only at h); omega) (fun k h => by have hg_ := hG.out; have hge_ := hC.out.ge; (try simp only [rng] at h); (try simp only at h); omega))
      have hB := Hd.mk (((Fr.of_below hB.out (fun k => k = w.heap.size + 1 ∨ W14.heap.size ≤ k)).then_ eF (fun k hk _ => hk)).below (fun k hk => by have := hB.out.size; omega))
      have b0 := Hd.mk (b0.out.fr eF (fun h => by have hlt_ := b0.out.lt; (try simp only at h); omega))
      have b1 := Hd.mk (show Blk W (w.heap.size + 1) #[Value.int IntKind.i64 u, Value.slice D3 rc.length d3] 41 by rw [hW]; exact (Blk.all b1.out [Value.int IntKind.i64 u, Value.slice D3 rc.length d3] rfl))
      have b2 := Hd.mk (b2.out.fr eF (fun h => by have hlt_ := b2.out.lt; (try simp only at h); omega))
      have b3 := Hd.mk (b3.out.fr eF (fun h => by have hlt_ := b3.out.lt; (try simp only at h); omega))
      have hL := Hd.mk (R_fr hL.out eF (fun k hk hl h => by skip; (try simp only [rng] at hk); (try simp only at hk); (try simp only at h); omega))
      have hQ := Hd.mk (R_fr hQ.out eF (fun k hk hl h => by skip; (try simp only [rng] at hk); (try simp only at hk); (try simp only at h); omega))
      clear hW eF
      have z15 := Hd.mk hz_; clear hz_
      exact ⟨(some ad), cL, l, j, ⟨u, rc⟩, [Value.int IntKind.i64 u, Value.slice D3 rc.length d3], rfl, hcL, R_Cv hL.out, tRow_K.2 ⟨_, _, rfl, by first | exact hcD | exact Nat.le_refl _, R_Cv hQ.out⟩, hB.out⟩
    by_cases h1 : z = 1
    · subst h1
      clear h0
      have hE0 := Hd.mk (R_int1 (W0 := w9) 1)
      have z1_ := z1.out; have z2_ := z2.out; have z3_ := z3.out; have z4_ := z4.out; have z5_ := z5.out; have z6_ := z6.out; have z7_ := z7.out; have z8_ := z8.out; have z9_ := z9.out
      have hgx := hG.out
      have hCl := hC.out.lt
      have h3l := b3.out.lt
      have fb0_0 : w9.cell? ⟨w.heap.size, 0, none⟩ = some (Value.slice none 0 0) := b0.out.cell 0 rfl
      have fb0_z := b0.out.frozen
      have fb1_0 : w9.cell? ⟨w.heap.size + 1, 0, none⟩ = some (Value.int IntKind.i64 0) := b1.out.cell 0 rfl
      have fb1_1 : w9.cell? ⟨w.heap.size + 1, 1, none⟩ = some (Value.slice none 0 0) := b1.out.cell 1 rfl
      have fb1_z := b1.out.frozen
      have fb2_0 : w9.cell? ⟨w3.heap.size, 0, none⟩ = some (Value.slice (some ad) l.length cL) := b2.out.cell 0 rfl
      have fb2_z := b2.out.frozen
      have fb3_0 : w9.cell? ⟨w7.heap.size, 0, none⟩ = some (Value.int IntKind.i64 rid) := b3.out.cell 0 rfl
      have fb3_1 : w9.cell? ⟨w7.heap.size, 1, none⟩ = some (Value.slice D3 rc.length d3) := b3.out.cell 1 rfl
      have fb3_z := b3.out.frozen
      go_wp2_with (at_builtin; refine append_scal (h1 := fun _ => rfl) rfl _ _ 22 3 (.int .i64 0) 8 rfl Try.underlying22 info_int rfl (by decide) (S := rng w6.heap.size w7.heap.size) (S' := (fun k => w6.heap.size ≤ k ∧ k ≠ w7.heap.size ∧ k ≠ g)) (v := .slice D3 rc.length d3) (xs := rc) (ys := [1]) (A := some ⟨w9.heap.size, 0, none⟩) (c := 1) rfl rfl (R_below hQ.out (below_alloc (Below.refl _ _) _)) (R_Cv hE0.out) (fun k h => by have h5 := h.1; have h6 := h.2; refine ⟨by omega, by omega, by omega⟩) (fun k h => by simp at h; refine ⟨by omega, by omega, by omega⟩) (by simp; omega) (fun v2 w10 hv2 hX0 => ?_); obtain ⟨l2, hl2⟩ : ∃ z, z = rc ++ [1] := ⟨_, rfl⟩; rw [← hl2] at hv2; clear hl2; obtain ⟨A2, c2, hv2e, hc2, _⟩ := R_C hv2; subst hv2e; have hX := (Fr.of_below (below_alloc (Below.refl w9.heap.size w9) _) _).trans hX0; have Yb0 := b0.out.fr hX (fun h => by (try simp only [rng] at h); (try simp only at h); omega); have yb0_0 := Yb0.cell 0 rfl; have yb0_z := Yb0.frozen; have Yb1 := b1.out.fr hX (fun h => by (try simp only [rng] at h); (try simp only at h); omega); have yb1_0 := Yb1.cell 0 rfl; have yb1_1 := Yb1.cell 1 rfl; have yb1_z := Yb1.frozen; have Yb2 := b2.out.fr hX (fun h => by (try simp only [rng] at h); (try simp only at h); omega); have yb2_0 := Yb2.cell 0 rfl; have yb2_z := Yb2.frozen; have Yb3 := b3.out.fr hX (fun h => by (try simp only [rng] at h); (try simp only at h); omega); have yb3_0 := Yb3.cell 0 rfl; have yb3_1 := Yb3.cell 1 rfl; have yb3_z := Yb3.frozen)
      clear fb0_0 fb0_z fb1_0 fb1_1 fb1_z fb2_0 fb2_z fb3_0 fb3_1 fb3_z
      clear hX0 hE0 hQ hcD Yb0 yb0_0 yb0_z Yb1 yb1_0 yb1_1 yb1_z Yb2 yb2_0 yb2_z Yb3 yb3_0 yb3_1 yb3_z
      have hcD := hc2
      have hQ := Hd.mk (R_bound hv2); clear hv2
      have z1_ := z1.out; have z2_ := z2.out; have z3_ := z3.out; have z4_ := z4.out; have z5_ := z5.out; have z6_ := z6.out; have z7_ := z7.out; have z8_ := z8.out; have z9_ := z9.out
      have hSz := hB.out.size
      have b0 := Hd.mk (b0.out.fr hX (fun h => by have hlt_ := b0.out.lt; skip; (try simp only [rng] at h); (try simp only at h); omega))
      have b1 := Hd.mk (b1.out.fr hX (fun h => by have hlt_ := b1.out.lt; skip; (try simp only [rng] at h); (try simp only at h); omega))
      have b2 := Hd.mk (b2.out.fr hX (fun h => by have hlt_ := b2.out.lt; skip; (try simp only [rng] at h); (try simp only at h); omega))
      have b3 := Hd.mk (b3.out.fr hX (fun h => by have hlt_ := b3.out.lt; skip; (try simp only [rng] at h); (try simp only at h); omega))
      have hL := Hd.mk (R_fr hL.out hX (fun k hk hl h => by skip; (try simp only [rng] at hk h); (try simp only at hk); (try simp only at h); omega))
      have hC := Hd.mk (hC.out.fr hX (fun h => by have hg_ := hG.out; have hlt_ := hC.out.lt; (try simp only [rng] at h); (try simp only at h); omega) (fun k h => by have hg_ := hG.out; have hge_ := hC.out.ge; (try simp only [rng] at h); (try simp only at h); omega))
      have hB := Hd.mk (below_frS hB.out hX (fun k h => by skip; (try simp only [rng] at h); (try simp only at h); omega))
      have hz_ := hX.size
      clear hX
      have z10 := Hd.mk hz_; clear hz_
      apply wp_gen; intro W11 hW
      have hz_ : w10.heap.size ≤ W11.heap.size := by rw [hW]; simp
      have eF : Fr w10 W11 (fun k => k = w7.heap.size ∨ w10.heap.size ≤ k) := by rw [hW]; (repeat (first | with_reducible refine Fr.setCell ?_ _ (fun _ => by simp <;> omega) _ | with_reducible refine Fr.alloc ?_ _ | with_reducible refine Fr.drew ?_)); exact Fr.refl _ _
      have z1_ := z1.out; have z2_ := z2.out; have z3_ := z3.out; have z4_ := z4.out; have z5_ := z5.out; have z6_ := z6.out; have z7_ := z7.out; have z8_ := z8.out; have z9_ := z9.out; have z10_ := z10.out
      have hC := Hd.mk (hC.out.fr eF (fun h => by have hg_ := hG.out; have hlt_ := hC.out.lt; (try simp only [rng] at h); (try simp only at h); omega) (fun k h => by have hg_ := hG.out; have hge_ := hC.out.ge; (try simp only [rng] at h); (try simp only at h); omega))
      have hB := Hd.mk (((Fr.of_below hB.out (fun k => k = w7.heap.size ∨ w10.heap.size ≤ k)).then_ eF (fun k hk _ => hk)).below (fun k hk => by have := hB.out.size; omega))
      have b0 := Hd.mk (b0.out.fr eF (fun h => by have hlt_ := b0.out.lt; (try simp only at h); omega))
      have b1 := Hd.mk (b1.out.fr eF (fun h => by have hlt_ := b1.out.lt; (try simp only at h); omega))
      have b2 := Hd.mk (b2.out.fr eF (fun h => by have hlt_ := b2.out.lt; (try simp only at h); omega))
      have b3 := Hd.mk (show Blk W11 (w7.heap.size) #[Value.int IntKind.i64 rid, Value.slice A2 l2.length c2] 41 by rw [hW]; exact (b3.out.set 1 (Value.slice A2 l2.length c2)))
      have hL := Hd.mk (R_fr hL.out eF (fun k hk hl h => by skip; (try simp only [rng] at hk); (try simp only at hk); (try simp only at h); omega))
      have hQ := Hd.mk (R_fr hQ.out eF (fun k hk hl h => by have q_ := hk.1.1; have q2_ := hk.1.2; have q3_ := hk.2; (try simp only [rng] at hk); (try simp only at hk); (try simp only at h); omega))
      clear hW eF
      have z11 := Hd.mk hz_; clear hz_
      have sb0 := Hd.mk b0.out
      have sb1 := Hd.mk b1.out
      have sb2 := Hd.mk b2.out
      have sb3 := Hd.mk b3.out
      refine region_mixC (fun w2 => Fr W11 w2 (fun k => k = g ∨ k = w.heap.size)) (.q 0 (.p 1 (.q 2 (.b 3 (.b 4 .fin))))) [5] (by kernel_rfl) (Fr.drew (Fr.refl _ _)) (by kernel_rfl) (fun _ _ _ _ _ h => h) ?_
      refine genT ?_
      intro W12 hW
      have hS := Hd.mk (show Fr W11 W12 (fun k => k = g ∨ k = w.heap.size) by rw [hW]; exact Fr.drew (Fr.refl _ _))
      have hz_ : W11.heap.size ≤ W12.heap.size := by rw [hW]; simp
      have hE : Below W11.heap.size W11 W12 := by rw [hW]; (repeat (first | with_reducible refine below_alloc ?_ _ | with_reducible refine below_drew ?_)); exact Below.refl _ _
      have hB := Hd.mk (below_then hB.out hE)
      have hC := Hd.mk (hC.out.below hE)
      have b0 := Hd.mk (b0.out.below hE)
      have b1 := Hd.mk (b1.out.below hE)
      have b2 := Hd.mk (b2.out.below hE)
      have b3 := Hd.mk (b3.out.below hE)
      have hL := Hd.mk (R_below hL.out hE)
      have hQ := Hd.mk (R_below hQ.out hE)
      clear hW hE
      have z12 := Hd.mk hz_; clear hz_
      refine mixT_see rfl (by rfl) (Value.agg #[Value.slice (some ad) l.length cL]) (fun w_ hw_ => by have z1_ := z1.out; have z2_ := z2.out; have z3_ := z3.out; have z4_ := z4.out; have z5_ := z5.out; have z6_ := z6.out; have z7_ := z7.out; have z8_ := z8.out; have z9_ := z9.out; have z10_ := z10.out; have z11_ := z11.out; have z12_ := z12.out; have f0_ := (sb2.out.fr hw_ (fun h => by have hg_ := hG.out; skip; have hlt_ := sb2.out.lt; (try simp only at h); omega)).cell 0 rfl; simp [execOp, go_sem, f0_]) hS.out ?_
      have fb0_0 : W12.cell? ⟨w.heap.size, 0, none⟩ = some (Value.slice none 0 0) := b0.out.cell 0 rfl
      have fb0_z := b0.out.frozen
      have fb1_0 : W12.cell? ⟨w.heap.size + 1, 0, none⟩ = some (Value.int IntKind.i64 0) := b1.out.cell 0 rfl
      have fb1_1 : W12.cell? ⟨w.heap.size + 1, 1, none⟩ = some (Value.slice none 0 0) := b1.out.cell 1 rfl
      have fb1_z := b1.out.frozen
      have fb2_0 : W12.cell? ⟨w3.heap.size, 0, none⟩ = some (Value.slice (some ad) l.length cL) := b2.out.cell 0 rfl
      have fb2_z := b2.out.frozen
      have fb3_0 : W12.cell? ⟨w7.heap.size, 0, none⟩ = some (Value.int IntKind.i64 rid) := b3.out.cell 0 rfl
      have fb3_1 : W12.cell? ⟨w7.heap.size, 1, none⟩ = some (Value.slice A2 l2.length c2) := b3.out.cell 1 rfl
      have fb3_z := b3.out.frozen
      go_wp2_with fail
      refine mixQ_n ?_
      clear fb0_0 fb0_z fb1_0 fb1_1 fb1_z fb2_0 fb2_z fb3_0 fb3_1 fb3_z
      refine mixT_p rfl ?_
      go_big_quiet_want; go_big_quiet_op; go_big_quiet_on; refine wpQuiet_nil ?_
      refine mixT_see rfl (by rfl) (Value.agg #[Value.int IntKind.i64 rid, Value.slice A2 l2.length c2]) (fun w_ hw_ => by have z1_ := z1.out; have z2_ := z2.out; have z3_ := z3.out; have z4_ := z4.out; have z5_ := z5.out; have z6_ := z6.out; have z7_ := z7.out; have z8_ := z8.out; have z9_ := z9.out; have z10_ := z10.out; have z11_ := z11.out; have z12_ := z12.out; have f0_ := (sb3.out.fr hw_ (fun h => by have hg_ := hG.out; skip; have hlt_ := sb3.out.lt; (try simp only at h); omega)).cell 0 rfl; have f1_ := (sb3.out.fr hw_ (fun h => by have hg_ := hG.out; skip; have hlt_ := sb3.out.lt; (try simp only at h); omega)).cell 1 rfl; simp [execOp, go_sem, f0_, f1_]) hS.out ?_
      have fb0_0 : W12.cell? ⟨w.heap.size, 0, none⟩ = some (Value.slice none 0 0) := b0.out.cell 0 rfl
      have fb0_z := b0.out.frozen
      have fb1_0 : W12.cell? ⟨w.heap.size + 1, 0, none⟩ = some (Value.int IntKind.i64 0) := b1.out.cell 0 rfl
      have fb1_1 : W12.cell? ⟨w.heap.size + 1, 1, none⟩ = some (Value.slice none 0 0) := b1.out.cell 1 rfl
      have fb1_z := b1.out.frozen
      have fb2_0 : W12.cell? ⟨w3.heap.size, 0, none⟩ = some (Value.slice (some ad) l.length cL) := b2.out.cell 0 rfl
      have fb2_z := b2.out.frozen
      have fb3_0 : W12.cell? ⟨w7.heap.size, 0, none⟩ = some (Value.int IntKind.i64 rid) := b3.out.cell 0 rfl
      have fb3_1 : W12.cell? ⟨w7.heap.size, 1, none⟩ = some (Value.slice A2 l2.length c2) := b3.out.cell 1 rfl
      have fb3_z := b3.out.frozen
      go_wp2_with fail
      refine mixQ_n ?_
      clear fb0_0 fb0_z fb1_0 fb1_1 fb1_z fb2_0 fb2_z fb3_0 fb3_1 fb3_z
      refine mixT_b rfl ?_ (by rfl)
      have fb0_0 : W12.cell? ⟨w.heap.size, 0, none⟩ = some (Value.slice none 0 0) := b0.out.cell 0 rfl
      have fb0_z := b0.out.frozen
      have fb1_0 : W12.cell? ⟨w.heap.size + 1, 0, none⟩ = some (Value.int IntKind.i64 0) := b1.out.cell 0 rfl
      have fb1_1 : W12.cell? ⟨w.heap.size + 1, 1, none⟩ = some (Value.slice none 0 0) := b1.out.cell 1 rfl
      have fb1_z := b1.out.frozen
      have fb2_0 : W12.cell? ⟨w3.heap.size, 0, none⟩ = some (Value.slice (some ad) l.length cL) := b2.out.cell 0 rfl
      have fb2_z := b2.out.frozen
      have fb3_0 : W12.cell? ⟨w7.heap.size, 0, none⟩ = some (Value.int IntKind.i64 rid) := b3.out.cell 0 rfl
      have fb3_1 : W12.cell? ⟨w7.heap.size, 1, none⟩ = some (Value.slice A2 l2.length c2) := b3.out.cell 1 rfl
      have fb3_z := b3.out.frozen
      go_wp2_with fail
      clear fb0_0 fb0_z fb1_0 fb1_1 fb1_z fb2_0 fb2_z fb3_0 fb3_1 fb3_z
      refine ⟨by repeat (first | exact hS.out | refine Fr.setCell ?_ _ (fun _ => by simp) _), ?_⟩
      refine genT ?_; intro W13 hW
      replace hS := Hd.mk (show Fr W11 W13 (fun k => k = g ∨ k = w.heap.size) by rw [hW]; exact (by repeat (first | exact hS.out | refine Fr.setCell ?_ _ (fun _ => by simp) _)))
      have hz_ : W12.heap.size ≤ W13.heap.size := by rw [hW]; simp
      have eF : Fr W12 W13 (fun k => k = w.heap.size ∨ W12.heap.size ≤ k) := by rw [hW]; (repeat (first | with_reducible refine Fr.setCell ?_ _ (fun _ => by simp <;> omega) _ | with_reducible refine Fr.alloc ?_ _ | with_reducible refine Fr.drew ?_)); exact Fr.refl _ _
      have z1_ := z1.out; have z2_ := z2.out; have z3_ := z3.out; have z4_ := z4.out; have z5_ := z5.out; have z6_ := z6.out; have z7_ := z7.out; have z8_ := z8.out; have z9_ := z9.out; have z10_ := z10.out; have z11_ := z11.out; have z12_ := z12.out
      have hC := Hd.mk (hC.out.fr eF (fun h => by have hg_ := hG.out; have hlt_ := hC.out.lt; (try simp only [rng] at h); (try simp only at h); omega) (fun k h => by have hg_ := hG.out; have hge_ := hC.out.ge; (try simp only [rng] at h); (try simp only at h); omega))
      have hB := Hd.mk (((Fr.of_below hB.out (fun k => k = w.heap.size ∨ W12.heap.size ≤ k)).then_ eF (fun k hk _ => hk)).below (fun k hk => by have := hB.out.size; omega))
      have b0 := Hd.mk (show Blk W13 (w.heap.size) #[Value.slice (some ad) l.length cL] 34 by rw [hW]; exact (Blk.all b0.out [Value.slice (some ad) l.length cL] rfl))
      have b1 := Hd.mk (b1.out.fr eF (fun h => by have hlt_ := b1.out.lt; (try simp only at h); omega))
      have b2 := Hd.mk (b2.out.fr eF (fun h => by have hlt_ := b2.out.lt; (try simp only at h); omega))
      have b3 := Hd.mk (b3.out.fr eF (fun h => by have hlt_ := b3.out.lt; (try simp only at h); omega))
      have hL := Hd.mk (R_fr hL.out eF (fun k hk hl h => by skip; (try simp only [rng] at hk); (try simp only at hk); (try simp only at h); omega))
      have hQ := Hd.mk (R_fr hQ.out eF (fun k hk hl h => by have q_ := hk.1.1; have q2_ := hk.1.2; have q3_ := hk.2; (try simp only [rng] at hk); (try simp only at hk); (try simp only at h); omega))
      clear hW eF
      have z13 := Hd.mk hz_; clear hz_
      refine mixT_b rfl ?_ (by rfl)
      go_wp2_with fail
      refine ⟨hS.out, ?_⟩
      refine mixT_fin ?_
      clear hS
      have fb0_0 : W13.cell? ⟨w.heap.size, 0, none⟩ = some (Value.slice (some ad) l.length cL) := b0.out.cell 0 rfl
      have fb0_z := b0.out.frozen
      have fb1_0 : W13.cell? ⟨w.heap.size + 1, 0, none⟩ = some (Value.int IntKind.i64 0) := b1.out.cell 0 rfl
      have fb1_1 : W13.cell? ⟨w.heap.size + 1, 1, none⟩ = some (Value.slice none 0 0) := b1.out.cell 1 rfl
      have fb1_z := b1.out.frozen
      have fb2_0 : W13.cell? ⟨w3.heap.size, 0, none⟩ = some (Value.slice (some ad) l.length cL) := b2.out.cell 0 rfl
      have fb2_z := b2.out.frozen
      have fb3_0 : W13.cell? ⟨w7.heap.size, 0, none⟩ = some (Value.int IntKind.i64 rid) := b3.out.cell 0 rfl
      have fb3_1 : W13.cell? ⟨w7.heap.size, 1, none⟩ = some (Value.slice A2 l2.length c2) := b3.out.cell 1 rfl
      have fb3_z := b3.out.frozen
      refine tail_b rfl ?_ (by rfl)
      go_wp2_with fail
      refine mixQ_n ?_
      refine tail_nil ?_
      go_wp2_with fail
      refine bodyPost_retW (v := .tuple #[.agg #[Value.slice (some ad) l.length cL], .int .i64 (j : Int), .agg #[Value.int IntKind.i64 rid, Value.slice A2 l2.length c2]]) (by simp [results, Try.results35, go_sem, fb0_0, fb0_z, fb1_0, fb1_1, fb1_z, fb2_0, fb2_z, fb3_0, fb3_1, fb3_z]) rfl ?_
      intro W hW
      clear fb0_0 fb0_z fb1_0 fb1_1 fb1_z fb2_0 fb2_z fb3_0 fb3_1 fb3_z
      have hz_ : W13.heap.size ≤ W.heap.size := by rw [hW]; simp
      have eF : Fr W13 W (fun k => k = w.heap.size + 1 ∨ W13.heap.size ≤ k) := by rw [hW]; (repeat (first | with_reducible refine Fr.setCell ?_ _ (fun _ => by simp <;> omega) _ | with_reducible refine Fr.alloc ?_ _ | with_reducible refine Fr.drew ?_)); exact Fr.refl _ _
      have z1_ := z1.out; have z2_ := z2.out; have z3_ := z3.out; have z4_ := z4.out; have z5_ := z5.out; have z6_ := z6.out; have z7_ := z7.out; have z8_ := z8.out; have z9_ := z9.out; have z10_ := z10.out; have z11_ := z11.out; have z12_ := z12.out; have z13_ := z13.out
      have hC := Hd.mk (hC.out.fr eF (fun h => by have hg_ := hG.out; have hlt_ := hC.out.lt; (try simp only [rng] at h); (try simp only at h); omega) (fun k h => by have hg_ := hG.out; have hge_ := hC.out.ge; (try simp only [rng] at h); (try simp only at h); omega))
      have hB := Hd.mk (((Fr.of_below hB.out (fun k => k = w.heap.size + 1 ∨ W13.heap.size ≤ k)).then_ eF (fun k hk _ => hk)).below (fun k hk => by have := hB.out.size; omega))
      have b0 := Hd.mk (b0.out.fr eF (fun h => by have hlt_ := b0.out.lt; (try simp only at h); omega))
      have b1 := Hd.mk (show Blk W (w.heap.size + 1) #[Value.int IntKind.i64 rid, Value.slice A2 l2.length c2] 41 by rw [hW]; exact (Blk.all b1.out [Value.int IntKind.i64 rid, Value.slice A2 l2.length c2] rfl))
      have b2 := Hd.mk (b2.out.fr eF (fun h => by have hlt_ := b2.out.lt; (try simp only at h); omega))
      have b3 := Hd.mk (b3.out.fr eF (fun h => by have hlt_ := b3.out.lt; (try simp only at h); omega))
      have hL := Hd.mk (R_fr hL.out eF (fun k hk hl h => by skip; (try simp only [rng] at hk); (try simp only at hk); (try simp only at h); omega))
      have hQ := Hd.mk (R_fr hQ.out eF (fun k hk hl h => by have q_ := hk.1.1; have q2_ := hk.1.2; have q3_ := hk.2; (try simp only [rng] at hk); (try simp only at hk); (try simp only at h); omega))
      clear hW eF
      have z14 := Hd.mk hz_; clear hz_
      exact ⟨(some ad), cL, l, j, ⟨rid, l2⟩, [Value.int IntKind.i64 rid, Value.slice A2 l2.length c2], rfl, hcL, R_Cv hL.out, tRow_K.2 ⟨_, _, rfl, by first | exact hcD | exact Nat.le_refl _, R_Cv hQ.out⟩, hB.out⟩
    by_cases h2 : z = 2
    · subst h2
      clear h0 h1
      by_cases hrc0 : 0 < rc.length
      · obtain ⟨u0, us, rfl⟩ : ∃ u0 us, rc = u0 :: us := by cases rc with | nil => simp at hrc0 | cons a b => exact ⟨a, b, rfl⟩
        obtain ⟨gL, capL, hgL, hSg, _⟩ := R_form hQ.out hrc0
        injection hgL with hg1 _ hg2
        subst hg1; subst hg2
        have HSG := Hd.mk hSg; clear hSg
        have fb0_0 : w9.cell? ⟨w.heap.size, 0, none⟩ = some (Value.slice none 0 0) := b0.out.cell 0 rfl
        have fb0_z := b0.out.frozen
        have fb1_0 : w9.cell? ⟨w.heap.size + 1, 0, none⟩ = some (Value.int IntKind.i64 0) := b1.out.cell 0 rfl
        have fb1_1 : w9.cell? ⟨w.heap.size + 1, 1, none⟩ = some (Value.slice none 0 0) := b1.out.cell 1 rfl
        have fb1_z := b1.out.frozen
        have fb2_0 : w9.cell? ⟨w3.heap.size, 0, none⟩ = some (Value.slice (some ad) l.length cL) := b2.out.cell 0 rfl
        have fb2_z := b2.out.frozen
        have fb3_0 : w9.cell? ⟨w7.heap.size, 0, none⟩ = some (Value.int IntKind.i64 rid) := b3.out.cell 0 rfl
        have fb3_1 : w9.cell? ⟨w7.heap.size, 1, none⟩ = some (Value.slice (some ⟨gL, 0, none⟩) (u0 :: us).length d3) := b3.out.cell 1 rfl
        have fb3_z := b3.out.frozen
        go_wp2_with fail
        clear fb0_0 fb0_z fb1_0 fb1_1 fb1_z fb2_0 fb2_z fb3_0 fb3_1 fb3_z
        have sb0 := Hd.mk b0.out
        have sb1 := Hd.mk b1.out
        have sb2 := Hd.mk b2.out
        have sb3 := Hd.mk b3.out
        refine region_mixC (fun w2 => Fr w9 w2 (fun k => k = g)) (.p 0 (.q 1 (.p 2 (.b 3 (.b 4 (.q 5 .fin)))))) [6] (by kernel_rfl) (Fr.drew (Fr.refl _ _)) (by kernel_rfl) (fun _ _ _ _ _ h => h) ?_
        refine genT ?_
        intro W10 hW
        have hS := Hd.mk (show Fr w9 W10 (fun k => k = g) by rw [hW]; exact Fr.drew (Fr.refl _ _))
        have hz_ : w9.heap.size ≤ W10.heap.size := by rw [hW]; simp
        have hE : Below w9.heap.size w9 W10 := by rw [hW]; (repeat (first | with_reducible refine below_alloc ?_ _ | with_reducible refine below_drew ?_)); exact Below.refl _ _
        have hB := Hd.mk (below_then hB.out hE)
        have hC := Hd.mk (hC.out.below hE)
        have b0 := Hd.mk (b0.out.below hE)
        have b1 := Hd.mk (b1.out.below hE)
        have b2 := Hd.mk (b2.out.below hE)
        have b3 := Hd.mk (b3.out.below hE)
        have hL := Hd.mk (R_below hL.out hE)
        have hQ := Hd.mk (R_below hQ.out hE)
        clear hW hE
        have z10 := Hd.mk hz_; clear hz_
        refine mixT_p rfl ?_
        go_big_quiet_want; go_big_quiet_op; go_big_quiet_on; refine wpQuiet_nil ?_
        refine mixT_see rfl (by rfl) (Value.slice (some ⟨gL, 0, none⟩) (u0 :: us).length d3) (fun w_ hw_ => by have z1_ := z1.out; have z2_ := z2.out; have z3_ := z3.out; have z4_ := z4.out; have z5_ := z5.out; have z6_ := z6.out; have z7_ := z7.out; have z8_ := z8.out; have z9_ := z9.out; have z10_ := z10.out; have f0_ := (sb3.out.fr hw_ (fun h => by have hg_ := hG.out; skip; have hlt_ := sb3.out.lt; (try simp only at h); omega)).cell 1 rfl; simp [execOp, go_sem, f0_]) hS.out ?_
        have fb0_0 : W10.cell? ⟨w.heap.size, 0, none⟩ = some (Value.slice none 0 0) := b0.out.cell 0 rfl
        have fb0_z := b0.out.frozen
        have fb1_0 : W10.cell? ⟨w.heap.size + 1, 0, none⟩ = some (Value.int IntKind.i64 0) := b1.out.cell 0 rfl
        have fb1_1 : W10.cell? ⟨w.heap.size + 1, 1, none⟩ = some (Value.slice none 0 0) := b1.out.cell 1 rfl
        have fb1_z := b1.out.frozen
        have fb2_0 : W10.cell? ⟨w3.heap.size, 0, none⟩ = some (Value.slice (some ad) l.length cL) := b2.out.cell 0 rfl
        have fb2_z := b2.out.frozen
        have fb3_0 : W10.cell? ⟨w7.heap.size, 0, none⟩ = some (Value.int IntKind.i64 rid) := b3.out.cell 0 rfl
        have fb3_1 : W10.cell? ⟨w7.heap.size, 1, none⟩ = some (Value.slice (some ⟨gL, 0, none⟩) (u0 :: us).length d3) := b3.out.cell 1 rfl
        have fb3_z := b3.out.frozen
        go_wp2_with fail
        refine mixQ_n ?_
        clear fb0_0 fb0_z fb1_0 fb1_1 fb1_z fb2_0 fb2_z fb3_0 fb3_1 fb3_z
        refine mixT_p rfl ?_
        go_big_quiet_want; go_big_quiet_op; go_big_quiet_on; refine wpQuiet_nil ?_
        refine mixT_b rfl ?_ (by rfl)
        go_wp2_with fail
        refine ⟨hS.out.alloc _, ?_⟩
        refine genT ?_; intro W11 hW
        have hE0 := Hd.mk (show int.R 3 W11 (fun k => k = W10.heap.size) (.slice (some ⟨W10.heap.size, 0, none⟩) 3 3) [1000000000, 1000000001, -1000000001] by rw [hW]; exact R_ints (W0 := W10) [1000000000, 1000000001, -1000000001] (by decide))
        have hz_ : W10.heap.size + 1 ≤ W11.heap.size := by rw [hW]; simp
        have hE : Below W10.heap.size W10 W11 := by rw [hW]; (repeat (first | with_reducible refine below_alloc ?_ _ | with_reducible refine below_drew ?_)); exact Below.refl _ _
        have hB := Hd.mk (below_then hB.out hE)
        have hC := Hd.mk (hC.out.below hE)
        replace hS := Hd.mk (hS.out.trans (Fr.of_below hE _))
        have b0 := Hd.mk (b0.out.below hE)
        have b1 := Hd.mk (b1.out.below hE)
        have b2 := Hd.mk (b2.out.below hE)
        have b3 := Hd.mk (b3.out.below hE)
        have hL := Hd.mk (R_below hL.out hE)
        have hQ := Hd.mk (R_below hQ.out hE)
        clear hW hE
        have z11 := Hd.mk hz_; clear hz_
        refine mixT_b rfl ?_ (by rfl)
        go_wp2_with fail
        apply calls_gen; intro W12 hW
        have hz_ : W11.heap.size ≤ W12.heap.size := by rw [hW]; simp
        have hE : Below W11.heap.size W11 W12 := by rw [hW]; (repeat (first | with_reducible refine below_alloc ?_ _ | with_reducible refine below_drew ?_)); exact Below.refl _ _
        have hB := Hd.mk (below_then hB.out hE)
        have hC := Hd.mk (hC.out.below hE)
        replace hS := Hd.mk (hS.out.trans (Fr.of_below hE _))
        have b0 := Hd.mk (b0.out.below hE)
        have b1 := Hd.mk (b1.out.below hE)
        have b2 := Hd.mk (b2.out.below hE)
        have b3 := Hd.mk (b3.out.below hE)
        have hL := Hd.mk (R_below hL.out hE)
        have hQ := Hd.mk (R_below hQ.out hE)
        have hE0 := Hd.mk (R_below hE0.out hE)
        clear hW hE
        have z12 := Hd.mk hz_; clear hz_
        have hzg := hG.out
        have hzc := hC.out.lt
        have z1_ := z1.out; have z2_ := z2.out; have z3_ := z3.out; have z4_ := z4.out; have z5_ := z5.out; have z6_ := z6.out; have z7_ := z7.out; have z8_ := z8.out; have z9_ := z9.out; have z10_ := z10.out; have z11_ := z11.out; have z12_ := z12.out
        have hEg := Hd.mk (show ¬ (fun k => k = W10.heap.size) g by (try simp only); omega)
        refine (spec_l1PickInt _ _ _ [1000000000, 1000000001, -1000000001] w _ g hE0.out hEg.out rfl (by decide) (by decide) hC.out).mono ?_
        rintro e w13 ⟨y, rfl, _, hC1, hX⟩
        have hC := Hd.mk hC1; clear hC1
        have hSz0 := hB.out.size
        have hg_ := hG.out
        have z1_ := z1.out; have z2_ := z2.out; have z3_ := z3.out; have z4_ := z4.out; have z5_ := z5.out; have z6_ := z6.out; have z7_ := z7.out; have z8_ := z8.out; have z9_ := z9.out; have z10_ := z10.out; have z11_ := z11.out; have z12_ := z12.out
        have b0 := Hd.mk (b0.out.fr hX (fun h => by skip; (try simp only at h); omega))
        have b1 := Hd.mk (b1.out.fr hX (fun h => by skip; (try simp only at h); omega))
        have b2 := Hd.mk (b2.out.fr hX (fun h => by skip; (try simp only at h); omega))
        have b3 := Hd.mk (b3.out.fr hX (fun h => by skip; (try simp only at h); omega))
        have hL := Hd.mk (R_fr hL.out hX (fun k hk hl h => by skip; (try simp only [rng] at hk); (try simp only at hk); (try simp only at h); omega))
        have hQ := Hd.mk (R_fr hQ.out hX (fun k hk hl h => by skip; (try simp only [rng] at hk); (try simp only at hk); (try simp only at h); omega))
        have hE0 := Hd.mk (R_fr hE0.out hX (fun k hk hl h => by skip; (try simp only [rng] at hk); (try simp only at hk); (try simp only at h); omega))
        have hB := Hd.mk (below_frS hB.out hX (fun k h => by (try simp only at h); omega))
        replace hS := Hd.mk (hS.out.trans hX)
        have hz_ := hX.size
        clear hSz0 hg_ hX
        have z13 := Hd.mk hz_; clear hz_
        go_wp2_with fail
        refine ⟨hS.out, ?_⟩
        refine mixT_see rfl (by rfl) (Value.pointer (some ⟨gL, 0, none⟩)) (fun w_ hw_ => by first | (simp [execOp, go_sem]; done) | kernel_rfl) hS.out ?_
        have fb0_0 : w13.cell? ⟨w.heap.size, 0, none⟩ = some (Value.slice none 0 0) := b0.out.cell 0 rfl
        have fb0_z := b0.out.frozen
        have fb1_0 : w13.cell? ⟨w.heap.size + 1, 0, none⟩ = some (Value.int IntKind.i64 0) := b1.out.cell 0 rfl
        have fb1_1 : w13.cell? ⟨w.heap.size + 1, 1, none⟩ = some (Value.slice none 0 0) := b1.out.cell 1 rfl
        have fb1_z := b1.out.frozen
        have fb2_0 : w13.cell? ⟨w3.heap.size, 0, none⟩ = some (Value.slice (some ad) l.length cL) := b2.out.cell 0 rfl
        have fb2_z := b2.out.frozen
        have fb3_0 : w13.cell? ⟨w7.heap.size, 0, none⟩ = some (Value.int IntKind.i64 rid) := b3.out.cell 0 rfl
        have fb3_1 : w13.cell? ⟨w7.heap.size, 1, none⟩ = some (Value.slice (some ⟨gL, 0, none⟩) (u0 :: us).length d3) := b3.out.cell 1 rfl
        have fb3_z := b3.out.frozen
        go_wp2_with fail
        refine mixQ_n ?_
        clear fb0_0 fb0_z fb1_0 fb1_1 fb1_z fb2_0 fb2_z fb3_0 fb3_1 fb3_z
        refine mixT_fin ?_
        clear hS
        have fb0_0 : w13.cell? ⟨w.heap.size, 0, none⟩ = some (Value.slice none 0 0) := b0.out.cell 0 rfl
        have fb0_z := b0.out.frozen
        have fb1_0 : w13.cell? ⟨w.heap.size + 1, 0, none⟩ = some (Value.int IntKind.i64 0) := b1.out.cell 0 rfl
        have fb1_1 : w13.cell? ⟨w.heap.size + 1, 1, none⟩ = some (Value.slice none 0 0) := b1.out.cell 1 rfl
        have fb1_z := b1.out.frozen
        have fb2_0 : w13.cell? ⟨w3.heap.size, 0, none⟩ = some (Value.slice (some ad) l.length cL) := b2.out.cell 0 rfl
        have fb2_z := b2.out.frozen
        have fb3_0 : w13.cell? ⟨w7.heap.size, 0, none⟩ = some (Value.int IntKind.i64 rid) := b3.out.cell 0 rfl
        have fb3_1 : w13.cell? ⟨w7.heap.size, 1, none⟩ = some (Value.slice (some ⟨gL, 0, none⟩) (u0 :: us).length d3) := b3.out.cell 1 rfl
        have fb3_z := b3.out.frozen
        refine tail_b rfl ?_ (by rfl)
        obtain ⟨hgl, k0, kz, hst⟩ := R_store1 (i := 0) (x := u0) (fun _ => rfl) hQ.out rfl
        have HST := Hd.mk (hst y); clear hst
        go_wp2_with fail
        refine mixQ_n ?_
        refine tail_nil ?_
        clear fb0_0 fb0_z fb1_0 fb1_1 fb1_z fb2_0 fb2_z fb3_0 fb3_1 fb3_z
        refine exit_gen ?_; intro W14 hW
        have hQ := Hd.mk (show int.R 3 W14 (rng w6.heap.size w7.heap.size) (.slice (some ⟨gL, 0, none⟩) (u0 :: us).length d3) (y :: us) by rw [hW]; exact HST.out)
        have hX : Fr w13 W14 (rng w6.heap.size w7.heap.size) := by rw [hW]; exact Fr.setCell (Fr.refl _ _) _ (fun _ => HSG.out) _
        clear hW HST k0 kz
        have z1_ := z1.out; have z2_ := z2.out; have z3_ := z3.out; have z4_ := z4.out; have z5_ := z5.out; have z6_ := z6.out; have z7_ := z7.out; have z8_ := z8.out; have z9_ := z9.out; have z10_ := z10.out; have z11_ := z11.out; have z12_ := z12.out; have z13_ := z13.out
        have hSz := hB.out.size
        have b0 := Hd.mk (b0.out.fr hX (fun h => by have hlt_ := b0.out.lt; skip; (try simp only [rng] at h); (try simp only at h); omega))
        have b1 := Hd.mk (b1.out.fr hX (fun h => by have hlt_ := b1.out.lt; skip; (try simp only [rng] at h); (try simp only at h); omega))
        have b2 := Hd.mk (b2.out.fr hX (fun h => by have hlt_ := b2.out.lt; skip; (try simp only [rng] at h); (try simp only at h); omega))
        have b3 := Hd.mk (b3.out.fr hX (fun h => by have hlt_ := b3.out.lt; skip; (try simp only [rng] at h); (try simp only at h); omega))
        have hL := Hd.mk (R_fr hL.out hX (fun k hk hl h => by skip; (try simp only [rng] at hk h); (try simp only at hk); (try simp only at h); omega))
        have hC := Hd.mk (hC.out.fr hX (fun h => by have hg_ := hG.out; have hlt_ := hC.out.lt; (try simp only [rng] at h); (try simp only at h); omega) (fun k h => by have hg_ := hG.out; have hge_ := hC.out.ge; (try simp only [rng] at h); (try simp only at h); omega))
        have hB := Hd.mk (below_frS hB.out hX (fun k h => by skip; (try simp only [rng] at h); (try simp only at h); omega))
        have hz_ := hX.size
        clear hX
        have z14 := Hd.mk hz_; clear hz_
        go_wp2_with fail
        have sb0 := Hd.mk b0.out
        have sb1 := Hd.mk b1.out
        have sb2 := Hd.mk b2.out
        have sb3 := Hd.mk b3.out
        refine region_mixC (fun w2 => Fr W14 w2 (fun k => k = g ∨ k = w.heap.size)) (.q 0 (.p 1 (.q 2 (.b 3 (.b 4 .fin))))) [5] (by kernel_rfl) (Fr.drew (Fr.refl _ _)) (by kernel_rfl) (fun _ _ _ _ _ h => h) ?_
        refine genT ?_
        intro W15 hW
        have hS := Hd.mk (show Fr W14 W15 (fun k => k = g ∨ k = w.heap.size) by rw [hW]; exact Fr.drew (Fr.refl _ _))
        have hz_ : W14.heap.size ≤ W15.heap.size := by rw [hW]; simp
        have hE : Below W14.heap.size W14 W15 := by rw [hW]; (repeat (first | with_reducible refine below_alloc ?_ _ | with_reducible refine below_drew ?_)); exact Below.refl _ _
        have hB := Hd.mk (below_then hB.out hE)
        have hC := Hd.mk (hC.out.below hE)
        have b0 := Hd.mk (b0.out.below hE)
        have b1 := Hd.mk (b1.out.below hE)
        have b2 := Hd.mk (b2.out.below hE)
        have b3 := Hd.mk (b3.out.below hE)
        have hL := Hd.mk (R_below hL.out hE)
        have hQ := Hd.mk (R_below hQ.out hE)
        clear hW hE
        have z15 := Hd.mk hz_; clear hz_
        refine mixT_see rfl (by rfl) (Value.agg #[Value.slice (some ad) l.length cL]) (fun w_ hw_ => by have z1_ := z1.out; have z2_ := z2.out; have z3_ := z3.out; have z4_ := z4.out; have z5_ := z5.out; have z6_ := z6.out; have z7_ := z7.out; have z8_ := z8.out; have z9_ := z9.out; have z10_ := z10.out; have z11_ := z11.out; have z12_ := z12.out; have z13_ := z13.out; have z14_ := z14.out; have z15_ := z15.out; have f0_ := (sb2.out.fr hw_ (fun h => by have hg_ := hG.out; skip; have hlt_ := sb2.out.lt; (try simp only at h); omega)).cell 0 rfl; simp [execOp, go_sem, f0_]) hS.out ?_
        have fb0_0 : W15.cell? ⟨w.heap.size, 0, none⟩ = some (Value.slice none 0 0) := b0.out.cell 0 rfl
        have fb0_z := b0.out.frozen
        have fb1_0 : W15.cell? ⟨w.heap.size + 1, 0, none⟩ = some (Value.int IntKind.i64 0) := b1.out.cell 0 rfl
        have fb1_1 : W15.cell? ⟨w.heap.size + 1, 1, none⟩ = some (Value.slice none 0 0) := b1.out.cell 1 rfl
        have fb1_z := b1.out.frozen
        have fb2_0 : W15.cell? ⟨w3.heap.size, 0, none⟩ = some (Value.slice (some ad) l.length cL) := b2.out.cell 0 rfl
        have fb2_z := b2.out.frozen
        have fb3_0 : W15.cell? ⟨w7.heap.size, 0, none⟩ = some (Value.int IntKind.i64 rid) := b3.out.cell 0 rfl
        have fb3_1 : W15.cell? ⟨w7.heap.size, 1, none⟩ = some (Value.slice (some ⟨gL, 0, none⟩) (y :: us).length d3) := b3.out.cell 1 rfl
        have fb3_z := b3.out.frozen
        go_wp2_with fail
        refine mixQ_n ?_
        clear fb0_0 fb0_z fb1_0 fb1_1 fb1_z fb2_0 fb2_z fb3_0 fb3_1 fb3_z
        refine mixT_p rfl ?_
        go_big_quiet_want; go_big_quiet_op; go_big_quiet_on; refine wpQuiet_nil ?_
        refine mixT_see rfl (by rfl) (Value.agg #[Value.int IntKind.i64 rid, Value.slice (some ⟨gL, 0, none⟩) (y :: us).length d3]) (fun w_ hw_ => by have z1_ := z1.out; have z2_ := z2.out; have z3_ := z3.out; have z4_ := z4.out; have z5_ := z5.out; have z6_ := z6.out; have z7_ := z7.out; have z8_ := z8.out; have z9_ := z9.out; have z10_ := z10.out; have z11_ := z11.out; have z12_ := z12.out; have z13_ := z13.out; have z14_ := z14.out; have z15_ := z15.out; have f0_ := (sb3.out.fr hw_ (fun h => by have hg_ := hG.out; skip; have hlt_ := sb3.out.lt; (try simp only at h); omega)).cell 0 rfl; have f1_ := (sb3.out.fr hw_ (fun h => by have hg_ := hG.out; skip; have hlt_ := sb3.out.lt; (try simp only at h); omega)).cell 1 rfl; simp [execOp, go_sem, f0_, f1_]) hS.out ?_
        have fb0_0 : W15.cell? ⟨w.heap.size, 0, none⟩ = some (Value.slice none 0 0) := b0.out.cell 0 rfl
        have fb0_z := b0.out.frozen
        have fb1_0 : W15.cell? ⟨w.heap.size + 1, 0, none⟩ = some (Value.int IntKind.i64 0) := b1.out.cell 0 rfl
        have fb1_1 : W15.cell? ⟨w.heap.size + 1, 1, none⟩ = some (Value.slice none 0 0) := b1.out.cell 1 rfl
        have fb1_z := b1.out.frozen
        have fb2_0 : W15.cell? ⟨w3.heap.size, 0, none⟩ = some (Value.slice (some ad) l.length cL) := b2.out.cell 0 rfl
        have fb2_z := b2.out.frozen
        have fb3_0 : W15.cell? ⟨w7.heap.size, 0, none⟩ = some (Value.int IntKind.i64 rid) := b3.out.cell 0 rfl
        have fb3_1 : W15.cell? ⟨w7.heap.size, 1, none⟩ = some (Value.slice (some ⟨gL, 0, none⟩) (y :: us).length d3) := b3.out.cell 1 rfl
        have fb3_z := b3.out.frozen
        go_wp2_with fail
        refine mixQ_n ?_
        clear fb0_0 fb0_z fb1_0 fb1_1 fb1_z fb2_0 fb2_z fb3_0 fb3_1 fb3_z
        refine mixT_b rfl ?_ (by rfl)
        have fb0_0 : W15.cell? ⟨w.heap.size, 0, none⟩ = some (Value.slice none 0 0) := b0.out.cell 0 rfl
        have fb0_z := b0.out.frozen
        have fb1_0 : W15.cell? ⟨w.heap.size + 1, 0, none⟩ = some (Value.int IntKind.i64 0) := b1.out.cell 0 rfl
        have fb1_1 : W15.cell? ⟨w.heap.size + 1, 1, none⟩ = some (Value.slice none 0 0) := b1.out.cell 1 rfl
        have fb1_z := b1.out.frozen
        have fb2_0 : W15.cell? ⟨w3.heap.size, 0, none⟩ = some (Value.slice (some ad) l.length cL) := b2.out.cell 0 rfl
        have fb2_z := b2.out.frozen
        have fb3_0 : W15.cell? ⟨w7.heap.size, 0, none⟩ = some (Value.int IntKind.i64 rid) := b3.out.cell 0 rfl
        have fb3_1 : W15.cell? ⟨w7.heap.size, 1, none⟩ = some (Value.slice (some ⟨gL, 0, none⟩) (y :: us).length d3) := b3.out.cell 1 rfl
        have fb3_z := b3.out.frozen
        go_wp2_with fail
        clear fb0_0 fb0_z fb1_0 fb1_1 fb1_z fb2_0 fb2_z fb3_0 fb3_1 fb3_z
        refine ⟨by repeat (first | exact hS.out | refine Fr.setCell ?_ _ (fun _ => by simp) _), ?_⟩
        refine genT ?_; intro W16 hW
        replace hS := Hd.mk (show Fr W14 W16 (fun k => k = g ∨ k = w.heap.size) by rw [hW]; exact (by repeat (first | exact hS.out | refine Fr.setCell ?_ _ (fun _ => by simp) _)))
        have hz_ : W15.heap.size ≤ W16.heap.size := by rw [hW]; simp
        have eF : Fr W15 W16 (fun k => k = w.heap.size ∨ W15.heap.size ≤ k) := by rw [hW]; (repeat (first | with_reducible refine Fr.setCell ?_ _ (fun _ => by simp <;> omega) _ | with_reducible refine Fr.alloc ?_ _ | with_reducible refine Fr.drew ?_)); exact Fr.refl _ _
        have z1_ := z1.out; have z2_ := z2.out; have z3_ := z3.out; have z4_ := z4.out; have z5_ := z5.out; have z6_ := z6.out; have z7_ := z7.out; have z8_ := z8.out; have z9_ := z9.out; have z10_ := z10.out; have z11_ := z11.out; have z12_ := z12.out; have z13_ := z13.out; have z14_ := z14.out; have z15_ := z15.out
        have hC := Hd.mk (hC.out.fr eF (fun h => by have hg_ := hG.out; have hlt_ := hC.out.lt; (try simp only [rng] at h); (try simp only at h); omega) (fun k h => by have hg_ := hG.out; have hge_ := hC.out.ge; (try simp only [rng] at h); (try simp only at h); omega))
        have hB := Hd.mk (((Fr.of_below hB.out (fun k => k = w.heap.size ∨ W15.heap.size ≤ k)).then_ eF (fun k hk _ => hk)).below (fun k hk => by have := hB.out.size; omega))
        have b0 := Hd.mk (show Blk W16 (w.heap.size) #[Value.slice (some ad) l.length cL] 34 by rw [hW]; exact (Blk.all b0.out [Value.slice (some ad) l.length cL] rfl))
        have b1 := Hd.mk (b1.out.fr eF (fun h => by have hlt_ := b1.out.lt; (try simp only at h); omega))
        have b2 := Hd.mk (b2.out.fr eF (fun h => by have hlt_ := b2.out.lt; (try simp only at h); omega))
        have b3 := Hd.mk (b3.out.fr eF (fun h => by have hlt_ := b3.out.lt; (try simp only at h); omega))
        have hL := Hd.mk (R_fr hL.out eF (fun k hk hl h => by skip; (try simp only [rng] at hk); (try simp only at hk); (try simp only at h); omega))
        have hQ := Hd.mk (R_fr hQ.out eF (fun k hk hl h => by skip; (try simp only [rng] at hk); (try simp only at hk); (try simp only at h); omega))
        clear hW eF
        have z16 := Hd.mk hz_; clear hz_
        refine mixT_b rfl ?_ (by rfl)
        go_wp2_with fail
        refine ⟨hS.out, ?_⟩
        refine mixT_fin ?_
        clear hS
        have fb0_0 : W16.cell? ⟨w.heap.size, 0, none⟩ = some (Value.slice (some ad) l.length cL) := b0.out.cell 0 rfl
        have fb0_z := b0.out.frozen
        have fb1_0 : W16.cell? ⟨w.heap.size + 1, 0, none⟩ = some (Value.int IntKind.i64 0) := b1.out.cell 0 rfl
        have fb1_1 : W16.cell? ⟨w.heap.size + 1, 1, none⟩ = some (Value.slice none 0 0) := b1.out.cell 1 rfl
        have fb1_z := b1.out.frozen
        have fb2_0 : W16.cell? ⟨w3.heap.size, 0, none⟩ = some (Value.slice (some ad) l.length cL) := b2.out.cell 0 rfl
        have fb2_z := b2.out.frozen
        have fb3_0 : W16.cell? ⟨w7.heap.size, 0, none⟩ = some (Value.int IntKind.i64 rid) := b3.out.cell 0 rfl
        have fb3_1 : W16.cell? ⟨w7.heap.size, 1, none⟩ = some (Value.slice (some ⟨gL, 0, none⟩) (y :: us).length d3) := b3.out.cell 1 rfl
        have fb3_z := b3.out.frozen
        refine tail_b rfl ?_ (by rfl)
        go_wp2_with fail
        refine mixQ_n ?_
        refine tail_nil ?_
        go_wp2_with fail
        refine bodyPost_retW (v := .tuple #[.agg #[Value.slice (some ad) l.length cL], .int .i64 (j : Int), .agg #[Value.int IntKind.i64 rid, Value.slice (some ⟨gL, 0, none⟩) (y :: us).length d3]]) (by simp [results, Try.results35, go_sem, fb0_0, fb0_z, fb1_0, fb1_1, fb1_z, fb2_0, fb2_z, fb3_0, fb3_1, fb3_z]) rfl ?_
        intro W hW
        clear fb0_0 fb0_z fb1_0 fb1_1 fb1_z fb2_0 fb2_z fb3_0 fb3_1 fb3_z
        have hz_ : W16.heap.size ≤ W.heap.size := by rw [hW]; simp
        have eF : Fr W16 W (fun k => k = w.heap.size + 1 ∨ W16.heap.size ≤ k) := by rw [hW]; (repeat (first | with_reducible refine Fr.setCell ?_ _ (fun _ => by simp <;> omega) _ | with_reducible refine Fr.alloc ?_ _ | with_reducible refine Fr.drew ?_)); exact Fr.refl _ _
        have z1_ := z1.out; have z2_ := z2.out; have z3_ := z3.out; have z4_ := z4.out; have z5_ := z5.out; have z6_ := z6.out; have z7_ := z7.out; have z8_ := z8.out; have z9_ := z9.out; have z10_ := z10.out; have z11_ := z11.out; have z12_ := z12.out; have z13_ := z13.out; have z14_ := z14.out; have z15_ := z15.out; have z16_ := z16.out
        have hC := Hd.mk (hC.out.fr eF (fun h => by have hg_ := hG.out; have hlt_ := hC.out.lt; (try simp only [rng] at h); (try simp only at h); omega) (fun k h => by have hg_ := hG.out; have hge_ := hC.out.ge; (try simp only [rng] at h); (try simp only at h); omega))
        have hB := Hd.mk (((Fr.of_below hB.out (fun k => k = w.heap.size + 1 ∨ W16.heap.size ≤ k)).then_ eF (fun k hk _ => hk)).below (fun k hk => by have := hB.out.size; omega))
        have b0 := Hd.mk (b0.out.fr eF (fun h => by have hlt_ := b0.out.lt; (try simp only at h); omega))
        have b1 := Hd.mk (show Blk W (w.heap.size + 1) #[Value.int IntKind.i64 rid, Value.slice (some ⟨gL, 0, none⟩) (y :: us).length d3] 41 by rw [hW]; exact (Blk.all b1.out [Value.int IntKind.i64 rid, Value.slice (some ⟨gL, 0, none⟩) (y :: us).length d3] rfl))
        have b2 := Hd.mk (b2.out.fr eF (fun h => by have hlt_ := b2.out.lt; (try simp only at h); omega))
        have b3 := Hd.mk (b3.out.fr eF (fun h => by have hlt_ := b3.out.lt; (try simp only at h); omega))
        have hL := Hd.mk (R_fr hL.out eF (fun k hk hl h => by skip; (try simp only [rng] at hk); (try simp only at hk); (try simp only at h); omega))
        have hQ := Hd.mk (R_fr hQ.out eF (fun k hk hl h => by skip; (try simp only [rng] at hk); (try simp only at hk); (try simp only at h); omega))
        clear hW eF
        have z17 := Hd.mk hz_; clear hz_
        exact ⟨(some ad), cL, l, j, ⟨rid, (y :: us)⟩, [Value.int IntKind.i64 rid, Value.slice (some ⟨gL, 0, none⟩) (y :: us).length d3], rfl, hcL, R_Cv hL.out, tRow_K.2 ⟨_, _, rfl, by first | exact hcD | exact Nat.le_refl _, R_Cv hQ.out⟩, hB.out⟩
      have hrd : decide ((0 : Int) < rc.length) = false := decide_eq_false (by omega)
      have fb0_0 : w9.cell? ⟨w.heap.size, 0, none⟩ = some (Value.slice none 0 0) := b0.out.cell 0 rfl
      have fb0_z := b0.out.frozen
      have fb1_0 : w9.cell? ⟨w.heap.size + 1, 0, none⟩ = some (Value.int IntKind.i64 0) := b1.out.cell 0 rfl
      have fb1_1 : w9.cell? ⟨w.heap.size + 1, 1, none⟩ = some (Value.slice none 0 0) := b1.out.cell 1 rfl
      have fb1_z := b1.out.frozen
      have fb2_0 : w9.cell? ⟨w3.heap.size, 0, none⟩ = some (Value.slice (some ad) l.length cL) := b2.out.cell 0 rfl
      have fb2_z := b2.out.frozen
      have fb3_0 : w9.cell? ⟨w7.heap.size, 0, none⟩ = some (Value.int IntKind.i64 rid) := b3.out.cell 0 rfl
      have fb3_1 : w9.cell? ⟨w7.heap.size, 1, none⟩ = some (Value.slice D3 rc.length d3) := b3.out.cell 1 rfl
      have fb3_z := b3.out.frozen
      go_wp2_with fail
      clear fb0_0 fb0_z fb1_0 fb1_1 fb1_z fb2_0 fb2_z fb3_0 fb3_1 fb3_z
      have sb0 := Hd.mk b0.out
      have sb1 := Hd.mk b1.out
      have sb2 := Hd.mk b2.out
      have sb3 := Hd.mk b3.out
      refine region_mixC (fun w2 => Fr w9 w2 (fun k => k = g ∨ k = w.heap.size)) (.q 0 (.p 1 (.q 2 (.b 3 (.b 4 .fin))))) [5] (by kernel_rfl) (Fr.drew (Fr.refl _ _)) (by kernel_rfl) (fun _ _ _ _ _ h => h) ?_
      refine genT ?_
      intro W10 hW
      have hS := Hd.mk (show Fr w9 W10 (fun k => k = g ∨ k = w.heap.size) by rw [hW]; exact Fr.drew (Fr.refl _ _))
      have hz_ : w9.heap.size ≤ W10.heap.size := by rw [hW]; simp
      have hE : Below w9.heap.size w9 W10 := by rw [hW]; (repeat (first | with_reducible refine below_alloc ?_ _ | with_reducible refine below_drew ?_)); exact Below.refl _ _
      have hB := Hd.mk (below_then hB.out hE)
      have hC := Hd.mk (hC.out.below hE)
      have b0 := Hd.mk (b0.out.below hE)
      have b1 := Hd.mk (b1.out.below hE)
      have b2 := Hd.mk (b2.out.below hE)
      have b3 := Hd.mk (b3.out.below hE)
      have hL := Hd.mk (R_below hL.out hE)
      have hQ := Hd.mk (R_below hQ.out hE)
      clear hW hE
      have z10 := Hd.mk hz_; clear hz_
      refine mixT_see rfl (by rfl) (Value.agg #[Value.slice (some ad) l.length cL]) (fun w_ hw_ => by have z1_ := z1.out; have z2_ := z2.out; have z3_ := z3.out; have z4_ := z4.out; have z5_ := z5.out; have z6_ := z6.out; have z7_ := z7.out; have z8_ := z8.out; have z9_ := z9.out; have z10_ := z10.out; have f0_ := (sb2.out.fr hw_ (fun h => by have hg_ := hG.out; skip; have hlt_ := sb2.out.lt; (try simp only at h); omega)).cell 0 rfl; simp [execOp, go_sem, f0_]) hS.out ?_
      have fb0_0 : W10.cell? ⟨w.heap.size, 0, none⟩ = some (Value.slice none 0 0) := b0.out.cell 0 rfl
      have fb0_z := b0.out.frozen
      have fb1_0 : W10.cell? ⟨w.heap.size + 1, 0, none⟩ = some (Value.int IntKind.i64 0) := b1.out.cell 0 rfl
      have fb1_1 : W10.cell? ⟨w.heap.size + 1, 1, none⟩ = some (Value.slice none 0 0) := b1.out.cell 1 rfl
      have fb1_z := b1.out.frozen
      have fb2_0 : W10.cell? ⟨w3.heap.size, 0, none⟩ = some (Value.slice (some ad) l.length cL) := b2.out.cell 0 rfl
      have fb2_z := b2.out.frozen
      have fb3_0 : W10.cell? ⟨w7.heap.size, 0, none⟩ = some (Value.int IntKind.i64 rid) := b3.out.cell 0 rfl
      have fb3_1 : W10.cell? ⟨w7.heap.size, 1, none⟩ = some (Value.slice D3 rc.length d3) := b3.out.cell 1 rfl
      have fb3_z := b3.out.frozen
      go_wp2_with fail
      refine mixQ_n ?_
      clear fb0_0 fb0_z fb1_0 fb1_1 fb1_z fb2_0 fb2_z fb3_0 fb3_1 fb3_z
      refine mixT_p rfl ?_
      go_big_quiet_want; go_big_quiet_op; go_big_quiet_on; refine wpQuiet_nil ?_
      refine mixT_see rfl (by rfl) (Value.agg #[Value.int IntKind.i64 rid, Value.slice D3 rc.length d3]) (fun w_ hw_ => by have z1_ := z1.out; have z2_ := z2.out; have z3_ := z3.out; have z4_ := z4.out; have z5_ := z5.out; have z6_ := z6.out; have z7_ := z7.out; have z8_ := z8.out; have z9_ := z9.out; have z10_ := z10.out; have f0_ := (sb3.out.fr hw_ (fun h => by have hg_ := hG.out; skip; have hlt_ := sb3.out.lt; (try simp only at h); omega)).cell 0 rfl; have f1_ := (sb3.out.fr hw_ (fun h => by have hg_ := hG.out; skip; have hlt_ := sb3.out.lt; (try simp only at h); omega)).cell 1 rfl; simp [execOp, go_sem, f0_, f1_]) hS.out ?_
      have fb0_0 : W10.cell? ⟨w.heap.size, 0, none⟩ = some (Value.slice none 0 0) := b0.out.cell 0 rfl
      have fb0_z := b0.out.frozen
      have fb1_0 : W10.cell? ⟨w.heap.size + 1, 0, none⟩ = some (Value.int IntKind.i64 0) := b1.out.cell 0 rfl
      have fb1_1 : W10.cell? ⟨w.heap.size + 1, 1, none⟩ = some (Value.slice none 0 0) := b1.out.cell 1 rfl
      have fb1_z := b1.out.frozen
      have fb2_0 : W10.cell? ⟨w3.heap.size, 0, none⟩ = some (Value.slice (some ad) l.length cL) := b2.out.cell 0 rfl
      have fb2_z := b2.out.frozen
      have fb3_0 : W10.cell? ⟨w7.heap.size, 0, none⟩ = some (Value.int IntKind.i64 rid) := b3.out.cell 0 rfl
      have fb3_1 : W10.cell? ⟨w7.heap.size, 1, none⟩ = some (Value.slice D3 rc.length d3) := b3.out.cell 1 rfl
      have fb3_z := b3.out.frozen
      go_wp2_with fail
      refine mixQ_n ?_
      clear fb0_0 fb0_z fb1_0 fb1_1 fb1_z fb2_0 fb2_z fb3_0 fb3_1 fb3_z
      refine mixT_b rfl ?_ (by rfl)
      have fb0_0 : W10.cell? ⟨w.heap.size, 0, none⟩ = some (Value.slice none 0 0) := b0.out.cell 0 rfl
      have fb0_z := b0.out.frozen
      have fb1_0 : W10.cell? ⟨w.heap.size + 1, 0, none⟩ = some (Value.int IntKind.i64 0) := b1.out.cell 0 rfl
      have fb1_1 : W10.cell? ⟨w.heap.size + 1, 1, none⟩ = some (Value.slice none 0 0) := b1.out.cell 1 rfl
      have fb1_z := b1.out.frozen
      have fb2_0 : W10.cell? ⟨w3.heap.size, 0, none⟩ = some (Value.slice (some ad) l.length cL) := b2.out.cell 0 rfl
      have fb2_z := b2.out.frozen
      have fb3_0 : W10.cell? ⟨w7.heap.size, 0, none⟩ = some (Value.int IntKind.i64 rid) := b3.out.cell 0 rfl
      have fb3_1 : W10.cell? ⟨w7.heap.size, 1, none⟩ = some (Value.slice D3 rc.length d3) := b3.out.cell 1 rfl
      have fb3_z := b3.out.frozen
      go_wp2_with fail
      clear fb0_0 fb0_z fb1_0 fb1_1 fb1_z fb2_0 fb2_z fb3_0 fb3_1 fb3_z
      refine ⟨by repeat (first | exact hS.out | refine Fr.setCell ?_ _ (fun _ => by simp) _), ?_⟩
      refine genT ?_; intro W11 hW
      replace hS := Hd.mk (show Fr w9 W11 (fun k => k = g ∨ k = w.heap.size) by rw [hW]; exact (by repeat (first | exact hS.out | refine Fr.setCell ?_ _ (fun _ => by simp) _)))
      have hz_ : W10.heap.size ≤ W11.heap.size := by rw [hW]; simp
      have eF : Fr W10 W11 (fun k => k = w.heap.size ∨ W10.heap.size ≤ k) := by rw [hW]; (repeat (first | with_reducible refine Fr.setCell ?_ _ (fun _ => by simp <;> omega) _ | with_reducible refine Fr.alloc ?_ _ | with_reducible refine Fr.drew ?_)); exact Fr.refl _ _
      have z1_ := z1.out; have z2_ := z2.out; have z3_ := z3.out; have z4_ := z4.out; have z5_ := z5.out; have z6_ := z6.out; have z7_ := z7.out; have z8_ := z8.out; have z9_ := z9.out; have z10_ := z10.out
      have hC := Hd.mk (hC.out.fr eF (fun h => by have hg_ := hG.out; have hlt_ := hC.out.lt; (try simp only [rng] at h); (try simp only at h); omega) (fun k h => by have hg_ := hG.out; have hge_ := hC.out.ge; (try simp only [rng] at h); (try simp only at h); omega))
      have hB := Hd.mk (((Fr.of_below hB.out (fun k => k = w.heap.size ∨ W10.heap.size ≤ k)).then_ eF (fun k hk _ => hk)).below (fun k hk => by have := hB.out.size; omega))
      have b0 := Hd.mk (show Blk W11 (w.heap.size) #[Value.slice (some ad) l.length cL] 34 by rw [hW]; exact (Blk.all b0.out [Value.slice (some ad) l.length cL] rfl))
      have b1 := Hd.mk (b1.out.fr eF (fun h => by have hlt_ := b1.out.lt; (try simp only at h); omega))
      have b2 := Hd.mk (b2.out.fr eF (fun h => by have hlt_ := b2.out.lt; (try simp only at h); omega))
      have b3 := Hd.mk (b3.out.fr eF (fun h => by have hlt_ := b3.out.lt; (try simp only at h); omega))
      have hL := Hd.mk (R_fr hL.out eF (fun k hk hl h => by skip; (try simp only [rng] at hk); (try simp only at hk); (try simp only at h); omega))
      have hQ := Hd.mk (R_fr hQ.out eF (fun k hk hl h => by skip; (try simp only [rng] at hk); (try simp only at hk); (try simp only at h); omega))
      clear hW eF
      have z11 := Hd.mk hz_; clear hz_
      refine mixT_b rfl ?_ (by rfl)
      go_wp2_with fail
      refine ⟨hS.out, ?_⟩
      refine mixT_fin ?_
      clear hS
      have fb0_0 : W11.cell? ⟨w.heap.size, 0, none⟩ = some (Value.slice (some ad) l.length cL) := b0.out.cell 0 rfl
      have fb0_z := b0.out.frozen
      have fb1_0 : W11.cell? ⟨w.heap.size + 1, 0, none⟩ = some (Value.int IntKind.i64 0) := b1.out.cell 0 rfl
      have fb1_1 : W11.cell? ⟨w.heap.size + 1, 1, none⟩ = some (Value.slice none 0 0) := b1.out.cell 1 rfl
      have fb1_z := b1.out.frozen
      have fb2_0 : W11.cell? ⟨w3.heap.size, 0, none⟩ = some (Value.slice (some ad) l.length cL) := b2.out.cell 0 rfl
      have fb2_z := b2.out.frozen
      have fb3_0 : W11.cell? ⟨w7.heap.size, 0, none⟩ = some (Value.int IntKind.i64 rid) := b3.out.cell 0 rfl
      have fb3_1 : W11.cell? ⟨w7.heap.size, 1, none⟩ = some (Value.slice D3 rc.length d3) := b3.out.cell 1 rfl
      have fb3_z := b3.out.frozen
      refine tail_b rfl ?_ (by rfl)
      go_wp2_with fail
      refine mixQ_n ?_
      refine tail_nil ?_
      go_wp2_with fail
      refine bodyPost_retW (v := .tuple #[.agg #[Value.slice (some ad) l.length cL], .int .i64 (j : Int), .agg #[Value.int IntKind.i64 rid, Value.slice D3 rc.length d3]]) (by simp [results, Try.results35, go_sem, fb0_0, fb0_z, fb1_0, fb1_1, fb1_z, fb2_0, fb2_z, fb3_0, fb3_1, fb3_z]) rfl ?_
      intro W hW
      clear fb0_0 fb0_z fb1_0 fb1_1 fb1_z fb2_0 fb2_z fb3_0 fb3_1 fb3_z
      have hz_ : W11.heap.size ≤ W.heap.size := by rw [hW]; simp
      have eF : Fr W11 W (fun k => k = w.heap.size + 1 ∨ W11.heap.size ≤ k) := by rw [hW]; (repeat (first | with_reducible refine Fr.setCell ?_ _ (fun _ => by simp <;> omega) _ | with_reducible refine Fr.alloc ?_ _ | with_reducible refine Fr.drew ?_)); exact Fr.refl _ _
      have z1_ := z1.out; have z2_ := z2.out; have z3_ := z3.out; have z4_ := z4.out; have z5_ := z5.out; have z6_ := z6.out; have z7_ := z7.out; have z8_ := z8.out; have z9_ := z9.out; have z10_ := z10.out; have z11_ := z11.out
      have hC := Hd.mk (hC.out.fr eF (fun h => by have hg_ := hG.out; have hlt_ := hC.out.lt; (try simp only [rng] at h); (try simp only at h); omega) (fun k h => by have hg_ := hG.out; have hge_ := hC.out.ge; (try simp only [rng] at h); (try simp only at h); omega))
      have hB := Hd.mk (((Fr.of_below hB.out (fun k => k = w.heap.size + 1 ∨ W11.heap.size ≤ k)).then_ eF (fun k hk _ => hk)).below (fun k hk => by have := hB.out.size; omega))
      have b0 := Hd.mk (b0.out.fr eF (fun h => by have hlt_ := b0.out.lt; (try simp only at h); omega))
      have b1 := Hd.mk (show Blk W (w.heap.size + 1) #[Value.int IntKind.i64 rid, Value.slice D3 rc.length d3] 41 by rw [hW]; exact (Blk.all b1.out [Value.int IntKind.i64 rid, Value.slice D3 rc.length d3] rfl))
      have b2 := Hd.mk (b2.out.fr eF (fun h => by have hlt_ := b2.out.lt; (try simp only at h); omega))
      have b3 := Hd.mk (b3.out.fr eF (fun h => by have hlt_ := b3.out.lt; (try simp only at h); omega))
      have hL := Hd.mk (R_fr hL.out eF (fun k hk hl h => by skip; (try simp only [rng] at hk); (try simp only at hk); (try simp only at h); omega))
      have hQ := Hd.mk (R_fr hQ.out eF (fun k hk hl h => by skip; (try simp only [rng] at hk); (try simp only at hk); (try simp only at h); omega))
      clear hW eF
      have z12 := Hd.mk hz_; clear hz_
      exact ⟨(some ad), cL, l, j, ⟨rid, rc⟩, [Value.int IntKind.i64 rid, Value.slice D3 rc.length d3], rfl, hcL, R_Cv hL.out, tRow_K.2 ⟨_, _, rfl, by first | exact hcD | exact Nat.le_refl _, R_Cv hQ.out⟩, hB.out⟩
    have hd0 : decide (z = 0) = false := decide_eq_false h0
    have hd1 : decide (z = 1) = false := decide_eq_false h1
    have hd2 : decide (z = 2) = false := decide_eq_false h2
    have he0 : (z == 0) = false := by simpa using h0
    have he1 : (z == 1) = false := by simpa using h1
    have he2 : (z == 2) = false := by simpa using h2
    clear h0 h1 h2
    have fb0_0 : w9.cell? ⟨w.heap.size, 0, none⟩ = some (Value.slice none 0 0) := b0.out.cell 0 rfl
    have fb0_z := b0.out.frozen
    have fb1_0 : w9.cell? ⟨w.heap.size + 1, 0, none⟩ = some (Value.int IntKind.i64 0) := b1.out.cell 0 rfl
    have fb1_1 : w9.cell? ⟨w.heap.size + 1, 1, none⟩ = some (Value.slice none 0 0) := b1.out.cell 1 rfl
    have fb1_z := b1.out.frozen
    have fb2_0 : w9.cell? ⟨w3.heap.size, 0, none⟩ = some (Value.slice (some ad) l.length cL) := b2.out.cell 0 rfl
    have fb2_z := b2.out.frozen
    have fb3_0 : w9.cell? ⟨w7.heap.size, 0, none⟩ = some (Value.int IntKind.i64 rid) := b3.out.cell 0 rfl
    have fb3_1 : w9.cell? ⟨w7.heap.size, 1, none⟩ = some (Value.slice D3 rc.length d3) := b3.out.cell 1 rfl
    have fb3_z := b3.out.frozen
    go_wp2_with fail
    clear fb0_0 fb0_z fb1_0 fb1_1 fb1_z fb2_0 fb2_z fb3_0 fb3_1 fb3_z
    have sb0 := Hd.mk b0.out
    have sb1 := Hd.mk b1.out
    have sb2 := Hd.mk b2.out
    have sb3 := Hd.mk b3.out
    refine region_mixC (fun w2 => Fr w9 w2 (fun k => k = g ∨ k = w.heap.size)) (.q 0 (.p 1 (.q 2 (.b 3 (.b 4 .fin))))) [5] (by kernel_rfl) (Fr.drew (Fr.refl _ _)) (by kernel_rfl) (fun _ _ _ _ _ h => h) ?_
    refine genT ?_
    intro W10 hW
    have hS := Hd.mk (show Fr w9 W10 (fun k => k = g ∨ k = w.heap.size) by rw [hW]; exact Fr.drew (Fr.refl _ _))
    have hz_ : w9.heap.size ≤ W10.heap.size := by rw [hW]; simp
    have hE : Below w9.heap.size w9 W10 := by rw [hW]; (repeat (first | with_reducible refine below_alloc ?_ _ | with_reducible refine below_drew ?_)); exact Below.refl _ _
    have hB := Hd.mk (below_then hB.out hE)
    have hC := Hd.mk (hC.out.below hE)
    have b0 := Hd.mk (b0.out.below hE)
    have b1 := Hd.mk (b1.out.below hE)
    have b2 := Hd.mk (b2.out.below hE)
    have b3 := Hd.mk (b3.out.below hE)
    have hL := Hd.mk (R_below hL.out hE)
    have hQ := Hd.mk (R_below hQ.out hE)
    clear hW hE
    have z10 := Hd.mk hz_; clear hz_
    refine mixT_see rfl (by rfl) (Value.agg #[Value.slice (some ad) l.length cL]) (fun w_ hw_ => by have z1_ := z1.out; have z2_ := z2.out; have z3_ := z3.out; have z4_ := z4.out; have z5_ := z5.out; have z6_ := z6.out; have z7_ := z7.out; have z8_ := z8.out; have z9_ := z9.out; have z10_ := z10.out; have f0_ := (sb2.out.fr hw_ (fun h => by have hg_ := hG.out; skip; have hlt_ := sb2.out.lt; (try simp only at h); omega)).cell 0 rfl; simp [execOp, go_sem, f0_]) hS.out ?_
    have fb0_0 : W10.cell? ⟨w.heap.size, 0, none⟩ = some (Value.slice none 0 0) := b0.out.cell 0 rfl
    have fb0_z := b0.out.frozen
    have fb1_0 : W10.cell? ⟨w.heap.size + 1, 0, none⟩ = some (Value.int IntKind.i64 0) := b1.out.cell 0 rfl
    have fb1_1 : W10.cell? ⟨w.heap.size + 1, 1, none⟩ = some (Value.slice none 0 0) := b1.out.cell 1 rfl
    have fb1_z := b1.out.frozen
    have fb2_0 : W10.cell? ⟨w3.heap.size, 0, none⟩ = some (Value.slice (some ad) l.length cL) := b2.out.cell 0 rfl
    have fb2_z := b2.out.frozen
    have fb3_0 : W10.cell? ⟨w7.heap.size, 0, none⟩ = some (Value.int IntKind.i64 rid) := b3.out.cell 0 rfl
    have fb3_1 : W10.cell? ⟨w7.heap.size, 1, none⟩ = some (Value.slice D3 rc.length d3) := b3.out.cell 1 rfl
    have fb3_z := b3.out.frozen
    go_wp2_with fail
    refine mixQ_n ?_
    clear fb0_0 fb0_z fb1_0 fb1_1 fb1_z fb2_0 fb2_z fb3_0 fb3_1 fb3_z
    refine mixT_p rfl ?_
    go_big_quiet_want; go_big_quiet_op; go_big_quiet_on; refine wpQuiet_nil ?_
    refine mixT_see rfl (by rfl) (Value.agg #[Value.int IntKind.i64 rid, Value.slice D3 rc.length d3]) (fun w_ hw_ => by have z1_ := z1.out; have z2_ := z2.out; have z3_ := z3.out; have z4_ := z4.out; have z5_ := z5.out; have z6_ := z6.out; have z7_ := z7.out; have z8_ := z8.out; have z9_ := z9.out; have z10_ := z10.out; have f0_ := (sb3.out.fr hw_ (fun h => by have hg_ := hG.out; skip; have hlt_ := sb3.out.lt; (try simp only at h); omega)).cell 0 rfl; have f1_ := (sb3.out.fr hw_ (fun h => by have hg_ := hG.out; skip; have hlt_ := sb3.out.lt; (try simp only at h); omega)).cell 1 rfl; simp [execOp, go_sem, f0_, f1_]) hS.out ?_
    have fb0_0 : W10.cell? ⟨w.heap.size, 0, none⟩ = some (Value.slice none 0 0) := b0.out.cell 0 rfl
    have fb0_z := b0.out.frozen
    have fb1_0 : W10.cell? ⟨w.heap.size + 1, 0, none⟩ = some (Value.int IntKind.i64 0) := b1.out.cell 0 rfl
    have fb1_1 : W10.cell? ⟨w.heap.size + 1, 1, none⟩ = some (Value.slice none 0 0) := b1.out.cell 1 rfl
    have fb1_z := b1.out.frozen
    have fb2_0 : W10.cell? ⟨w3.heap.size, 0, none⟩ = some (Value.slice (some ad) l.length cL) := b2.out.cell 0 rfl
    have fb2_z := b2.out.frozen
    have fb3_0 : W10.cell? ⟨w7.heap.size, 0, none⟩ = some (Value.int IntKind.i64 rid) := b3.out.cell 0 rfl
    have fb3_1 : W10.cell? ⟨w7.heap.size, 1, none⟩ = some (Value.slice D3 rc.length d3) := b3.out.cell 1 rfl
    have fb3_z := b3.out.frozen
    go_wp2_with fail
    refine mixQ_n ?_
    clear fb0_0 fb0_z fb1_0 fb1_1 fb1_z fb2_0 fb2_z fb3_0 fb3_1 fb3_z
    refine mixT_b rfl ?_ (by rfl)
    have fb0_0 : W10.cell? ⟨w.heap.size, 0, none⟩ = some (Value.slice none 0 0) := b0.out.cell 0 rfl
    have fb0_z := b0.out.frozen
    have fb1_0 : W10.cell? ⟨w.heap.size + 1, 0, none⟩ = some (Value.int IntKind.i64 0) := b1.out.cell 0 rfl
    have fb1_1 : W10.cell? ⟨w.heap.size + 1, 1, none⟩ = some (Value.slice none 0 0) := b1.out.cell 1 rfl
    have fb1_z := b1.out.frozen
    have fb2_0 : W10.cell? ⟨w3.heap.size, 0, none⟩ = some (Value.slice (some ad) l.length cL) := b2.out.cell 0 rfl
    have fb2_z := b2.out.frozen
    have fb3_0 : W10.cell? ⟨w7.heap.size, 0, none⟩ = some (Value.int IntKind.i64 rid) := b3.out.cell 0 rfl
    have fb3_1 : W10.cell? ⟨w7.heap.size, 1, none⟩ = some (Value.slice D3 rc.length d3) := b3.out.cell 1 rfl
    have fb3_z := b3.out.frozen
    go_wp2_with fail
    clear fb0_0 fb0_z fb1_0 fb1_1 fb1_z fb2_0 fb2_z fb3_0 fb3_1 fb3_z
    refine ⟨by repeat (first | exact hS.out | refine Fr.setCell ?_ _ (fun _ => by simp) _), ?_⟩
    refine genT ?_; intro W11 hW
    replace hS := Hd.mk (show Fr w9 W11 (fun k => k = g ∨ k = w.heap.size) by rw [hW]; exact (by repeat (first | exact hS.out | refine Fr.setCell ?_ _ (fun _ => by simp) _)))
    have hz_ : W10.heap.size ≤ W11.heap.size := by rw [hW]; simp
    have eF : Fr W10 W11 (fun k => k = w.heap.size ∨ W10.heap.size ≤ k) := by rw [hW]; (repeat (first | with_reducible refine Fr.setCell ?_ _ (fun _ => by simp <;> omega) _ | with_reducible refine Fr.alloc ?_ _ | with_reducible refine Fr.drew ?_)); exact Fr.refl _ _
    have z1_ := z1.out; have z2_ := z2.out; have z3_ := z3.out; have z4_ := z4.out; have z5_ := z5.out; have z6_ := z6.out; have z7_ := z7.out; have z8_ := z8.out; have z9_ := z9.out; have z10_ := z10.out
    have hC := Hd.mk (hC.out.fr eF (fun h => by have hg_ := hG.out; have hlt_ := hC.out.lt; (try simp only [rng] at h); (try simp only at h); omega) (fun k h => by have hg_ := hG.out; have hge_ := hC.out.ge; (try simp only [rng] at h); (try simp only at h); omega))
    have hB := Hd.mk (((Fr.of_below hB.out (fun k => k = w.heap.size ∨ W10.heap.size ≤ k)).then_ eF (fun k hk _ => hk)).below (fun k hk => by have := hB.out.size; omega))
    have b0 := Hd.mk (show Blk W11 (w.heap.size) #[Value.slice (some ad) l.length cL] 34 by rw [hW]; exact (Blk.all b0.out [Value.slice (some ad) l.length cL] rfl))
    have b1 := Hd.mk (b1.out.fr eF (fun h => by have hlt_ := b1.out.lt; (try simp only at h); omega))
    have b2 := Hd.mk (b2.out.fr eF (fun h => by have hlt_ := b2.out.lt; (try simp only at h); omega))
    have b3 := Hd.mk (b3.out.fr eF (fun h => by have hlt_ := b3.out.lt; (try simp only at h); omega))
    have hL := Hd.mk (R_fr hL.out eF (fun k hk hl h => by skip; (try simp only [rng] at hk); (try simp only at hk); (try simp only at h); omega))
    have hQ := Hd.mk (R_fr hQ.out eF (fun k hk hl h => by skip; (try simp only [rng] at hk); (try simp only at hk); (try simp only at h); omega))
    clear hW eF
    have z11 := Hd.mk hz_; clear hz_
    refine mixT_b rfl ?_ (by rfl)
    go_wp2_with fail
    refine ⟨hS.out, ?_⟩
    refine mixT_fin ?_
    clear hS
    have fb0_0 : W11.cell? ⟨w.heap.size, 0, none⟩ = some (Value.slice (some ad) l.length cL) := b0.out.cell 0 rfl
    have fb0_z := b0.out.frozen
    have fb1_0 : W11.cell? ⟨w.heap.size + 1, 0, none⟩ = some (Value.int IntKind.i64 0) := b1.out.cell 0 rfl
    have fb1_1 : W11.cell? ⟨w.heap.size + 1, 1, none⟩ = some (Value.slice none 0 0) := b1.out.cell 1 rfl
    have fb1_z := b1.out.frozen
    have fb2_0 : W11.cell? ⟨w3.heap.size, 0, none⟩ = some (Value.slice (some ad) l.length cL) := b2.out.cell 0 rfl
    have fb2_z := b2.out.frozen
    have fb3_0 : W11.cell? ⟨w7.heap.size, 0, none⟩ = some (Value.int IntKind.i64 rid) := b3.out.cell 0 rfl
    have fb3_1 : W11.cell? ⟨w7.heap.size, 1, none⟩ = some (Value.slice D3 rc.length d3) := b3.out.cell 1 rfl
    have fb3_z := b3.out.frozen
    refine tail_b rfl ?_ (by rfl)
    go_wp2_with fail
    refine mixQ_n ?_
    refine tail_nil ?_
    go_wp2_with fail
    refine bodyPost_retW (v := .tuple #[.agg #[Value.slice (some ad) l.length cL], .int .i64 (j : Int), .agg #[Value.int IntKind.i64 rid, Value.slice D3 rc.length d3]]) (by simp [results, Try.results35, go_sem, fb0_0, fb0_z, fb1_0, fb1_1, fb1_z, fb2_0, fb2_z, fb3_0, fb3_1, fb3_z]) rfl ?_
    intro W hW
    clear fb0_0 fb0_z fb1_0 fb1_1 fb1_z fb2_0 fb2_z fb3_0 fb3_1 fb3_z
    have hz_ : W11.heap.size ≤ W.heap.size := by rw [hW]; simp
    have eF : Fr W11 W (fun k => k = w.heap.size + 1 ∨ W11.heap.size ≤ k) := by rw [hW]; (repeat (first | with_reducible refine Fr.setCell ?_ _ (fun _ => by simp <;> omega) _ | with_reducible refine Fr.alloc ?_ _ | with_reducible refine Fr.drew ?_)); exact Fr.refl _ _
    have z1_ := z1.out; have z2_ := z2.out; have z3_ := z3.out; have z4_ := z4.out; have z5_ := z5.out; have z6_ := z6.out; have z7_ := z7.out; have z8_ := z8.out; have z9_ := z9.out; have z10_ := z10.out; have z11_ := z11.out
    have hC := Hd.mk (hC.out.fr eF (fun h => by have hg_ := hG.out; have hlt_ := hC.out.lt; (try simp only [rng] at h); (try simp only at h); omega) (fun k h => by have hg_ := hG.out; have hge_ := hC.out.ge; (try simp only [rng] at h); (try simp only at h); omega))
    have hB := Hd.mk (((Fr.of_below hB.out (fun k => k = w.heap.size + 1 ∨ W11.heap.size ≤ k)).then_ eF (fun k hk _ => hk)).below (fun k hk => by have := hB.out.size; omega))
    have b0 := Hd.mk (b0.out.fr eF (fun h => by have hlt_ := b0.out.lt; (try simp only at h); omega))
    have b1 := Hd.mk (show Blk W (w.heap.size + 1) #[Value.int IntKind.i64 rid, Value.slice D3 rc.length d3] 41 by rw [hW]; exact (Blk.all b1.out [Value.int IntKind.i64 rid, Value.slice D3 rc.length d3] rfl))
    have b2 := Hd.mk (b2.out.fr eF (fun h => by have hlt_ := b2.out.lt; (try simp only at h); omega))
    have b3 := Hd.mk (b3.out.fr eF (fun h => by have hlt_ := b3.out.lt; (try simp only at h); omega))
    have hL := Hd.mk (R_fr hL.out eF (fun k hk hl h => by skip; (try simp only [rng] at hk); (try simp only at hk); (try simp only at h); omega))
    have hQ := Hd.mk (R_fr hQ.out eF (fun k hk hl h => by skip; (try simp only [rng] at hk); (try simp only at hk); (try simp only at h); omega))
    clear hW eF
    have z12 := Hd.mk hz_; clear hz_
    exact ⟨(some ad), cL, l, j, ⟨rid, rc⟩, [Value.int IntKind.i64 rid, Value.slice D3 rc.length d3], rfl, hcL, R_Cv hL.out, tRow_K.2 ⟨_, _, rfl, by first | exact hcD | exact Nat.le_refl _, R_Cv hQ.out⟩, hB.out⟩
end Go.Proofs.Ytnpogfhfjofbmaa.X
