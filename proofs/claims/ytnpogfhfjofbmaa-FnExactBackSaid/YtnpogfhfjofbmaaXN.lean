/- What is proved here: what the laws' marks make of rows. Conditions: none. -/
import Derived.Test.YtnpogfhfjofbmaaXM
namespace Go.Proofs.Ytnpogfhfjofbmaa.X
open Go.RowKit Go.Sort
set_option linter.unusedVariables false
set_option linter.unusedSimpArgs false
open Ty
theorem Blk.fr {w w1 : World} {g : Nat} {cs : Array Value} {t : TypeId} {S : Nat → Prop} (h : Blk w g cs t) (hf : Fr w w1 S) (hn : ¬ S g) : Blk w1 g cs t := (hf.block g h.lt hn).trans h
theorem Ty.H_sub {α : Type} {d : Ty α} {e : TypeId} {w : World} {S Si : Nat → Prop} {v : Value} {xs : List α} {i : Nat} {cs : List Value} (h : d.H e w S v xs i Si cs) : ∀ k, Si k → S k := by
  obtain ⟨hi, hl, inner, f, ho, hv, hc, hs, hE⟩ := h
  exact fun k hk => (hs k hk).1
theorem Ty.H_at {α : Type} {d : Ty α} {e : TypeId} {w : World} {S Si : Nat → Prop} {g n cap : Nat} {xs : List α} {i : Nat} {cs : List Value} (h : d.H e w S (.slice (some ⟨g, 0, none⟩) n cap) xs i Si cs) :
    g < w.heap.size ∧ (∀ j u, cs[j]? = some u → w.cell? ⟨g, i * d.sz + j, none⟩ = some u) ∧ ∀ j, w.frozen? ⟨g, j, none⟩ = false := by
  rcases Nat.eq_zero_or_pos d.sz with h0 | hsz
  · obtain ⟨hi, hl, inner, f, ho, hv, hc, hs, hE⟩ := h
    obtain ⟨-, ho⟩ := ho
    rcases ho with ⟨he, _⟩ | ⟨g', cap', cur, he, _, hh, _⟩
    · cases he
    · injection he with he _ _; injection he with he; injection he with he _ _; subst he
      refine ⟨(Array.getElem?_eq_some_iff.1 hh).1, fun j u hu => ?_, fun j => by simp [World.frozen?, hh]⟩
      have : cs = [] := List.eq_nil_of_length_eq_zero (by rw [hl, h0])
      subst this
      simp at hu
  · obtain ⟨g', cap', he, _, _, hg, hgl, _, hcell, hfz⟩ := H_cells h hsz
    injection he with he _ _; injection he with he; injection he with he _ _; subst he
    exact ⟨hgl, hcell, hfz⟩
def mkRow (k : Int) (r : Row) : Row := ⟨k, markL mkInt one (k + 1) r.cells⟩
def cnRow (r : Row) : Nat := 1 + r.cells.length
def mkRows (k : Int) (l : List Row) : List Row := markL mkRow cnRow k l
def cnRows (l : List Row) : Nat := bulkL cnRow l
set_option maxRecDepth 100000 in
theorem laws_markRowS {S : Nat → Prop} (v : Value) (l : List Row) (k : Int) (w : World) (hR : tRow.R 41 w S v l) (h0 : 0 ≤ k) (h1 : k + bulkL cnRow l ≤ 4611686018427387904) :
    Calls Try.prog 162 #[v, .int .i64 k] w fun e w' => e = .returned (.int .i64 (k + bulkL cnRow l)) ∧ tRow.R 41 w' S v (markL mkRow cnRow k l) ∧ Fr w w' S := by
  obtain ⟨A, c, rfl, hc, hC⟩ := R_C hR
  have hm := hC.1
  clear hC
  have HR := Hd.mk hR; clear hR
  have HB := Hd.mk h1; clear h1
  go_enter Try.func162, Try.ntmps162
  go_wp2_with fail
  go_loopw [1, 5] (fun v i wr => ∃ j : Nat, ∃ kk : Int, j ≤ l.length ∧ i = .int .i64 j ∧ v = .int .i64 kk ∧ Hd (kk = k + bulkL cnRow (l.take j)) ∧ 0 ≤ kk ∧ Hd (tRow.R 41 wr S (.slice A l.length c) (midL mkRow cnRow k l j)) ∧ Hd (Fr w wr S)) (fun _ i _ => l.length - (intOf i).toNat)
  case atStart => exact ⟨0, k, Nat.zero_le _, rfl, rfl, ⟨by simp [bulkL]⟩, h0, ⟨by rw [midL_zero]; exact HR.out⟩, ⟨Fr.refl _ _⟩⟩
  case round =>
    obtain ⟨j, kk, hj, rfl, rfl, HKK, hk0, HK, HF⟩ := hrel
    by_cases hlt : j < l.length
    · have hkk : kk + (cnRow l[j] : Int) ≤ 4611686018427387904 := by
        have h1 := HKK.out; have h2 := HB.out; have h3 := bulkL_take cnRow l j hlt; have h4 := bulkL_take_le cnRow l (j + 1)
        omega
      obtain ⟨Si, cs, hH, hO⟩ := R_H HK.out (midL_at l k j hlt)
      obtain ⟨g, cap, hv, hcl, hcap, hg, hgl, hgS, hcell, hfz⟩ := H_cells hH (by decide)
      injection hv with hv1 hv2 hv3
      subst hv1; subst hv3; clear hv2
      have hSS := H_sub hH
      obtain ⟨v1, rfl, p1⟩ := tRow_O.1 hO
      have np1 : ¬ Si g := fun h => hgS ((fun _ h => h) g h)
      have F0 := HF.out
      have hkx : kk + 1 + (l[j].cells.length : Int) ≤ 4611686018427387904 := by have := hkk; simp only [cnRow] at this; omega
      clear hkk
      have hq1 : 0 ≤ kk + 1 := by omega
      have hu1 : kk + 1 + (l[j].cells.length : Int) ≤ 4611686018427387904 := by omega
      have HH : tRow.H 41 wr S (.slice (some ⟨g, 0, none⟩) l.length c) (midL mkRow cnRow k l j) j Si [.int .i64 l[j].id, v1] := hH
      clear hH hcell hfz
      clear hO
      obtain ⟨hgl0, hcell, hfz⟩ := H_at HH
      have x0_0 : wr.cell? ⟨g, j * 2, none⟩ = some (.int .i64 l[j].id) := hcell 0 _ rfl
      have z0_0 := hfz (j * 2)
      have x0_1 : wr.cell? ⟨g, j * 2 + 1, none⟩ = some (v1) := hcell 1 _ rfl
      have z0_1 := hfz (j * 2 + 1)
      clear hcell hfz
      have HH_ := Hd.mk HH; clear HH
      have FF_ := Hd.mk F0; clear F0
      have p1_ := Hd.mk p1; clear p1
      go_wp2_with fail
      clear x0_0 z0_0 x0_1 z0_1 hgl0
      apply calls_gen; intro W0 hW
      have HH : tRow.H 41 W0 S (.slice (some ⟨g, 0, none⟩) l.length c) (midL mkRow cnRow k l j) j Si [.int .i64 (kk), v1] := by rw [hW]; exact H_store (HH_.out) 0 (by decide) _ rfl
      have F0 : Fr w W0 S := by rw [hW]; exact (FF_.out).setCell _ (fun _ => hg) _
      have p1 : int.R 3 W0 Si v1 l[j].cells := by rw [hW]; exact R_setCell (p1_.out) np1 _
      clear hW HH_ FF_ p1_
      refine (laws_markIntS v1 _ (kk + 1) W0 p1 hq1 hu1).mono ?_
      rintro e w1 ⟨rfl, py, hX⟩
      replace HH := H_fr HH hX (fun k _ h _ => (fun _ h => h) k h)
      replace F0 := F0.then_ hX (fun k h _ => hSS k ((fun _ h => h) k h))
      clear p1; have p1 := py; clear py
      clear hX
      obtain ⟨hgl1, hcell, hfz⟩ := H_at HH
      have x1_0 : w1.cell? ⟨g, j * 2, none⟩ = some (.int .i64 (kk)) := hcell 0 _ rfl
      have z1_0 := hfz (j * 2)
      have x1_1 : w1.cell? ⟨g, j * 2 + 1, none⟩ = some (v1) := hcell 1 _ rfl
      have z1_1 := hfz (j * 2 + 1)
      clear hcell hfz
      have HH_ := Hd.mk HH; clear HH
      have FF_ := Hd.mk F0; clear F0
      have p1_ := Hd.mk p1; clear p1
      go_wp2_with fail
      go_roundw
      case rel =>
        have HH := HH_.out
        have F0 := FF_.out
        have p1 := p1_.out
        refine ⟨j + 1, kk + 1 + (l[j].cells.length : Int), by omega, by go_num, by go_num, ⟨?_⟩, by omega, ⟨?_⟩, ⟨by simpa using F0⟩⟩
        · rw [bulkL_take cnRow l j hlt, HKK.out]; simp only [cnRow]; omega
        · rw [← midL_step l k j hlt, ← HKK.out]
          exact H_back (x' := mkRow kk l[j]) (T := Si) HH (tRow_O.2 ⟨_, rfl, p1⟩) (fun _ h => .inl h) (fun _ h => h) hSS
      case measure => simp [intOf]; omega
    · obtain rfl : j = l.length := by omega
      go_wp2_with fail
      go_ret
      exact ⟨by rw [HKK.out, List.take_length] <;> rfl, by rw [← midL_end]; exact HK.out, HF.out⟩
set_option maxRecDepth 100000 in
theorem laws_heldIntS (A : Option Addr) (c : Nat) (xs l : List Int) (k : Int) (w : World) (hr : int.C w A xs) (hx : xs = markL mkInt one k l) (h0 : 0 ≤ k) (h1 : k + bulkL one l ≤ 4611686018427387904) :
    Calls Try.prog 163 #[.slice A xs.length c, .int .i64 k] w fun e w' => e = .returned (.int .i64 (k + bulkL one l)) ∧ Below w.heap.size w w' := by
  have hm := hr.1
  have HC := Hd.mk hr; clear hr
  have HX := Hd.mk hx; clear hx
  have HB := Hd.mk h1; clear h1
  have HL := Hd.mk (show xs.length = l.length by rw [HX.out, markL_length])
  go_enter Try.func163, Try.ntmps163
  go_wp2_with fail
  go_loopw [1, 5] (fun v i wr => ∃ j : Nat, ∃ kk : Int, j ≤ xs.length ∧ i = .int .i64 j ∧ v = .int .i64 kk ∧ Hd (kk = k + bulkL one (l.take j)) ∧ 0 ≤ kk ∧ Hd (Below w.heap.size w wr)) (fun _ i _ => xs.length - (intOf i).toNat)
  case atStart => exact ⟨0, k, Nat.zero_le _, rfl, rfl, ⟨by simp [bulkL]⟩, h0, ⟨Below.refl _ _⟩⟩
  case round =>
    obtain ⟨j, kk, hj, rfl, rfl, HKK, hk0, HW⟩ := hrel
    by_cases hlt : j < xs.length
    · have hlt2 : j < l.length := by have := HL.out; omega
      have hkk : kk + (one l[j] : Int) ≤ 4611686018427387904 := by
        have h1 := HKK.out; have h2 := HB.out; have h3 := bulkL_take one l j hlt2; have h4 := bulkL_take_le one l (j + 1)
        omega
      have he : xs[j] = mkInt kk l[j] := by
        have h := markL_at (mk := mkInt) (cn := one) l k j hlt2
        rw [← HKK.out] at h
        rw [← h]
        simp only [HX.out]
      obtain ⟨ad, cs0, rfl, hK0, e0, e1⟩ := C_at HC.out HW.out j hlt
      rw [he] at hK0; clear he
      have hK1 : cs0 = [.int .i64 kk] := hK0
      subst hK1
      clear hK0
      have x0 : wr.cell? (ad.add j) = some (.int .i64 kk) := by simpa [show (int).sz = 1 from rfl, mkRows] using e0 _ rfl
      clear e0 e1
      have hkx : kk + 1 ≤ 4611686018427387904 := by have := hkk; simp only [one] at this; omega
      clear hkk
      have hq0 : 0 ≤ kk := by omega
      have hqe : 0 ≤ kk + 1 := by omega
      have HE := HW.out
      have HE_ := Hd.mk HE; clear HE
      go_wp2_with fail
      go_roundw
      case rel =>
        refine ⟨j + 1, kk + 1, by omega, by go_num, by go_num, ⟨?_⟩, by omega, ⟨HE_.out⟩⟩
        rw [bulkL_take one l j hlt2, HKK.out]; simp only [one]; omega
      case measure => simp [intOf]; omega
    · obtain rfl : j = xs.length := by omega
      go_wp2_with fail
      go_ret
      exact ⟨by rw [HKK.out, HL.out, List.take_length] <;> rfl, HW.out⟩
set_option maxRecDepth 100000 in
theorem laws_heldRowS (A : Option Addr) (c : Nat) (xs l : List Row) (k : Int) (w : World) (hr : tRow.C w A xs) (hx : xs = markL mkRow cnRow k l) (h0 : 0 ≤ k) (h1 : k + bulkL cnRow l ≤ 4611686018427387904) :
    Calls Try.prog 164 #[.slice A xs.length c, .int .i64 k] w fun e w' => e = .returned (.int .i64 (k + bulkL cnRow l)) ∧ Below w.heap.size w w' := by
  have hm := hr.1
  have HC := Hd.mk hr; clear hr
  have HX := Hd.mk hx; clear hx
  have HB := Hd.mk h1; clear h1
  have HL := Hd.mk (show xs.length = l.length by rw [HX.out, markL_length])
  go_enter Try.func164, Try.ntmps164
  go_wp2_with fail
  go_loopw [1, 5] (fun v i wr => ∃ j : Nat, ∃ kk : Int, j ≤ xs.length ∧ i = .int .i64 j ∧ v = .int .i64 kk ∧ Hd (kk = k + bulkL cnRow (l.take j)) ∧ 0 ≤ kk ∧ Hd (Below w.heap.size w wr)) (fun _ i _ => xs.length - (intOf i).toNat)
  case atStart => exact ⟨0, k, Nat.zero_le _, rfl, rfl, ⟨by simp [bulkL]⟩, h0, ⟨Below.refl _ _⟩⟩
  case round =>
    obtain ⟨j, kk, hj, rfl, rfl, HKK, hk0, HW⟩ := hrel
    by_cases hlt : j < xs.length
    · have hlt2 : j < l.length := by have := HL.out; omega
      have hkk : kk + (cnRow l[j] : Int) ≤ 4611686018427387904 := by
        have h1 := HKK.out; have h2 := HB.out; have h3 := bulkL_take cnRow l j hlt2; have h4 := bulkL_take_le cnRow l (j + 1)
        omega
      have he : xs[j] = mkRow kk l[j] := by
        have h := markL_at (mk := mkRow) (cn := cnRow) l k j hlt2
        rw [← HKK.out] at h
        rw [← h]
        simp only [HX.out]
      obtain ⟨ad, cs0, rfl, hK0, e0, e1⟩ := C_at HC.out HW.out j hlt
      rw [he] at hK0; clear he
      obtain ⟨A1, c1, rfl, hc1, r1⟩ := tRow_K.1 hK0
      clear hK0
      obtain ⟨y1, hy1⟩ : ∃ y, y = (markL mkInt one (kk + 1) l[j].cells) := ⟨_, rfl⟩
      have x0 : wr.cell? (ad.add (j * 2)) = some (.int .i64 kk) := e0 _ rfl
      have x1 : wr.cell? ⟨(ad.add (j * 2)).block, (ad.add (j * 2)).off + 1, none⟩ = some (.slice A1 (markL mkInt one (kk + 1) l[j].cells).length c1) := e1 0 _ rfl
      rw [← hy1] at x1
      replace r1 : int.C wr A1 y1 := by rw [hy1]; exact r1
      have Q1 := Hd.mk r1; clear r1
      have Y1 := Hd.mk hy1; clear hy1
      clear e0 e1 hc1
      have hkx : kk + 1 + (l[j].cells.length : Int) ≤ 4611686018427387904 := by have := hkk; simp only [cnRow] at this; omega
      clear hkk
      have hq0 : 0 ≤ kk := by omega
      have hq1 : 0 ≤ kk + 1 := by omega
      have hu1 : kk + 1 + (l[j].cells.length : Int) ≤ 4611686018427387904 := by omega
      have hqe : 0 ≤ kk + 1 + (l[j].cells.length : Int) := by omega
      have HE := HW.out
      have HE_ := Hd.mk HE; clear HE
      go_wp2_with fail
      refine (laws_heldIntS _ _ _ l[j].cells (kk + 1) _ (C_below Q1.out (Below.refl _ _)) Y1.out hq1 (by rw [bulk_one]; exact hu1)).mono ?_
      rintro e w1 ⟨rfl, hX⟩
      rw [bulk_one]
      replace x0 := cell_below hX x0
      replace x1 := cell_below hX x1
      have Q1 := Hd.mk (C_below Q1.out hX)
      have HE := below_then HE_.out hX
      clear hX HE_
      have HE_ := Hd.mk HE; clear HE
      go_wp2_with fail
      go_roundw
      case rel =>
        refine ⟨j + 1, kk + 1 + (l[j].cells.length : Int), by omega, by go_num, by go_num, ⟨?_⟩, by omega, ⟨HE_.out⟩⟩
        rw [bulkL_take cnRow l j hlt2, HKK.out]; simp only [cnRow]; omega
      case measure => simp [intOf]; omega
    · obtain rfl : j = xs.length := by omega
      go_wp2_with fail
      go_ret
      exact ⟨by rw [HKK.out, HL.out, List.take_length] <;> rfl, HW.out⟩
set_option maxRecDepth 100000 in
theorem laws_markRowSS {S : Nat → Prop} (v : Value) (l : List (List Row)) (k : Int) (w : World) (hR : tRows.R 68 w S v l) (h0 : 0 ≤ k) (h1 : k + bulkL cnRows l ≤ 4611686018427387904) :
    Calls Try.prog 91 #[v, .int .i64 k] w fun e w' => e = .returned (.int .i64 (k + bulkL cnRows l)) ∧ tRows.R 68 w' S v (markL mkRows cnRows k l) ∧ Fr w w' S := by
  obtain ⟨A, c, rfl, hc, hC⟩ := R_C hR
  have hm := hC.1
  clear hC
  have HR := Hd.mk hR; clear hR
  have HB := Hd.mk h1; clear h1
  go_enter Try.func91, Try.ntmps91
  go_wp2_with fail
  go_loopw [1, 5] (fun v i wr => ∃ j : Nat, ∃ kk : Int, j ≤ l.length ∧ i = .int .i64 j ∧ v = .int .i64 kk ∧ Hd (kk = k + bulkL cnRows (l.take j)) ∧ 0 ≤ kk ∧ Hd (tRows.R 68 wr S (.slice A l.length c) (midL mkRows cnRows k l j)) ∧ Hd (Fr w wr S)) (fun _ i _ => l.length - (intOf i).toNat)
  case atStart => exact ⟨0, k, Nat.zero_le _, rfl, rfl, ⟨by simp [bulkL]⟩, h0, ⟨by rw [midL_zero]; exact HR.out⟩, ⟨Fr.refl _ _⟩⟩
  case round =>
    obtain ⟨j, kk, hj, rfl, rfl, HKK, hk0, HK, HF⟩ := hrel
    by_cases hlt : j < l.length
    · have hkk : kk + (cnRows l[j] : Int) ≤ 4611686018427387904 := by
        have h1 := HKK.out; have h2 := HB.out; have h3 := bulkL_take cnRows l j hlt; have h4 := bulkL_take_le cnRows l (j + 1)
        omega
      obtain ⟨Si, cs, hH, hO⟩ := R_H HK.out (midL_at l k j hlt)
      obtain ⟨g, cap, hv, hcl, hcap, hg, hgl, hgS, hcell, hfz⟩ := H_cells hH (by decide)
      injection hv with hv1 hv2 hv3
      subst hv1; subst hv3; clear hv2
      have hSS := H_sub hH
      obtain ⟨v1, rfl, p1⟩ := sl_O.1 hO
      have np1 : ¬ Si g := fun h => hgS ((fun _ h => h) g h)
      have F0 := HF.out
      have hkx : kk + (bulkL cnRow l[j] : Int) ≤ 4611686018427387904 := hkk
      clear hkk
      have hq0 : 0 ≤ kk := by omega
      have hu0 : kk + (bulkL cnRow l[j] : Int) ≤ 4611686018427387904 := by omega
      have HH : tRows.H 68 wr S (.slice (some ⟨g, 0, none⟩) l.length c) (midL mkRows cnRows k l j) j Si [v1] := hH
      clear hH hcell hfz
      clear hO
      obtain ⟨hgl0, hcell, hfz⟩ := H_at HH
      have x0_0 : wr.cell? ⟨g, j, none⟩ = some (v1) := by simpa [show (tRows).sz = 1 from rfl] using hcell 0 _ rfl
      have z0_0 := hfz (j)
      clear hcell hfz
      have HH_ := Hd.mk HH; clear HH
      have FF_ := Hd.mk F0; clear F0
      have p1_ := Hd.mk p1; clear p1
      go_wp2_with fail
      clear x0_0 z0_0 hgl0
      apply calls_gen; intro W0 hW
      have HH : tRows.H 68 W0 S (.slice (some ⟨g, 0, none⟩) l.length c) (midL mkRows cnRows k l j) j Si [v1] := by rw [hW]; exact HH_.out
      have F0 : Fr w W0 S := by rw [hW]; exact FF_.out
      have p1 : tRow.R 41 W0 Si v1 l[j] := by rw [hW]; exact p1_.out
      clear hW HH_ FF_ p1_
      refine (laws_markRowS v1 _ (kk) W0 p1 hq0 hu0).mono ?_
      rintro e w1 ⟨rfl, py, hX⟩
      replace HH := H_fr HH hX (fun k _ h _ => (fun _ h => h) k h)
      replace F0 := F0.then_ hX (fun k h _ => hSS k ((fun _ h => h) k h))
      clear p1; have p1 := py; clear py
      clear hX
      obtain ⟨hgl1, hcell, hfz⟩ := H_at HH
      have x1_0 : w1.cell? ⟨g, j, none⟩ = some (v1) := by simpa [show (tRows).sz = 1 from rfl] using hcell 0 _ rfl
      have z1_0 := hfz (j)
      clear hcell hfz
      have HH_ := Hd.mk HH; clear HH
      have FF_ := Hd.mk F0; clear F0
      have p1_ := Hd.mk p1; clear p1
      go_wp2_with fail
      go_roundw
      case rel =>
        have HH := HH_.out
        have F0 := FF_.out
        have p1 := p1_.out
        refine ⟨j + 1, kk + (bulkL cnRow l[j] : Int), by omega, by go_num, by go_num, ⟨?_⟩, by omega, ⟨?_⟩, ⟨by simpa using F0⟩⟩
        · rw [bulkL_take cnRows l j hlt, HKK.out]; simp only [cnRows]; omega
        · rw [← midL_step l k j hlt, ← HKK.out]
          have HSZ : tRows.sz = 1 := rfl
          refine H_back (x' := mkRows kk l[j]) (T := Si) (by simpa [HSZ, mkRows] using HH) (sl_O.2 ⟨_, rfl, p1⟩) (fun _ h => .inl h) (fun _ h => h) hSS
      case measure => simp [intOf]; omega
    · obtain rfl : j = l.length := by omega
      go_wp2_with fail
      go_ret
      exact ⟨by rw [HKK.out, List.take_length] <;> rfl, by rw [← midL_end]; exact HK.out, HF.out⟩
set_option maxRecDepth 100000 in
theorem laws_heldRowSS (A : Option Addr) (c : Nat) (xs l : List (List Row)) (k : Int) (w : World) (hr : tRows.C w A xs) (hx : xs = markL mkRows cnRows k l) (h0 : 0 ≤ k) (h1 : k + bulkL cnRows l ≤ 4611686018427387904) :
    Calls Try.prog 94 #[.slice A xs.length c, .int .i64 k] w fun e w' => e = .returned (.int .i64 (k + bulkL cnRows l)) ∧ Below w.heap.size w w' := by
  have hm := hr.1
  have HC := Hd.mk hr; clear hr
  have HX := Hd.mk hx; clear hx
  have HB := Hd.mk h1; clear h1
  have HL := Hd.mk (show xs.length = l.length by rw [HX.out, markL_length])
  go_enter Try.func94, Try.ntmps94
  go_wp2_with fail
  go_loopw [1, 5] (fun v i wr => ∃ j : Nat, ∃ kk : Int, j ≤ xs.length ∧ i = .int .i64 j ∧ v = .int .i64 kk ∧ Hd (kk = k + bulkL cnRows (l.take j)) ∧ 0 ≤ kk ∧ Hd (Below w.heap.size w wr)) (fun _ i _ => xs.length - (intOf i).toNat)
  case atStart => exact ⟨0, k, Nat.zero_le _, rfl, rfl, ⟨by simp [bulkL]⟩, h0, ⟨Below.refl _ _⟩⟩
  case round =>
    obtain ⟨j, kk, hj, rfl, rfl, HKK, hk0, HW⟩ := hrel
    by_cases hlt : j < xs.length
    · have hlt2 : j < l.length := by have := HL.out; omega
      have hkk : kk + (cnRows l[j] : Int) ≤ 4611686018427387904 := by
        have h1 := HKK.out; have h2 := HB.out; have h3 := bulkL_take cnRows l j hlt2; have h4 := bulkL_take_le cnRows l (j + 1)
        omega
      have he : xs[j] = mkRows kk l[j] := by
        have h := markL_at (mk := mkRows) (cn := cnRows) l k j hlt2
        rw [← HKK.out] at h
        rw [← h]
        simp only [HX.out]
      obtain ⟨ad, cs0, rfl, hK0, e0, e1⟩ := C_at HC.out HW.out j hlt
      rw [he] at hK0; clear he
      obtain ⟨A1, c1, rfl, hc1, r1⟩ := sl_K.1 hK0
      clear hK0
      obtain ⟨y1, hy1⟩ : ∃ y, y = (markL mkRow cnRow (kk) l[j]) := ⟨_, rfl⟩
      have x0 : wr.cell? (ad.add j) = some (.slice A1 (markL mkRow cnRow (kk) l[j]).length c1) := by simpa [show (tRows).sz = 1 from rfl, mkRows] using e0 _ rfl
      rw [← hy1] at x0
      replace r1 : tRow.C wr A1 y1 := by rw [hy1]; exact r1
      have Q1 := Hd.mk r1; clear r1
      have Y1 := Hd.mk hy1; clear hy1
      clear e0 e1 hc1
      have hkx : kk + (bulkL cnRow l[j] : Int) ≤ 4611686018427387904 := by have := hkk; simp only [cnRows] at this; omega
      clear hkk
      have hq0 : 0 ≤ kk := by omega
      have hu0 : kk + (bulkL cnRow l[j] : Int) ≤ 4611686018427387904 := by omega
      have hqe : 0 ≤ kk + (bulkL cnRow l[j] : Int) := by omega
      have HE := HW.out
      have HE_ := Hd.mk HE; clear HE
      go_wp2_with fail
      refine (laws_heldRowS _ _ _ l[j] (kk) _ (C_below Q1.out (Below.refl _ _)) Y1.out hq0 hu0).mono ?_
      rintro e w1 ⟨rfl, hX⟩
      replace x0 := cell_below hX x0
      have Q1 := Hd.mk (C_below Q1.out hX)
      have HE := below_then HE_.out hX
      clear hX HE_
      have HE_ := Hd.mk HE; clear HE
      go_wp2_with fail
      go_roundw
      case rel =>
        refine ⟨j + 1, kk + (bulkL cnRow l[j] : Int), by omega, by go_num, by go_num, ⟨?_⟩, by omega, ⟨HE_.out⟩⟩
        rw [bulkL_take cnRows l j hlt2, HKK.out]; simp only [cnRows]; omega
      case measure => simp [intOf]; omega
    · obtain rfl : j = xs.length := by omega
      go_wp2_with fail
      go_ret
      exact ⟨by rw [HKK.out, HL.out, List.take_length] <;> rfl, HW.out⟩
set_option maxRecDepth 100000 in
theorem laws_markSchema {S : Nat → Prop} (x : (List Int)) (cs : List Value) (k : Int) (w : World) (hO : (sl 3 int).O w S x cs) (h0 : 0 ≤ k) (h1 : k + (x.length : Int) ≤ 4611686018427387904) :
    Calls Try.prog 90 #[.agg cs.toArray, .int .i64 k] w fun e w' => e = .returned (.int .i64 (k + (x.length : Int))) ∧ (sl 3 int).O w' S (markL mkInt one k x) cs ∧ Fr w w' S := by
  obtain ⟨v1, rfl, p1⟩ := sl_O.1 hO
  have P1 := Hd.mk (R_bound p1); clear p1
  clear hO
  go_enter Try.func90, Try.ntmps90
  go_wp2_with fail
  apply calls_gen; intro W0 hW
  have hE : Below w.heap.size w W0 := by rw [hW]; exact below_alloc (Below.refl _ _) _
  have b0 : Blk W0 w.heap.size #[v1] 34 := by rw [hW]; exact Blk.new _ _ _
  clear hW
  replace P1 := Hd.mk (R_below P1.out hE)
  have HF := Hd.mk (Fr.of_below hE S); clear hE
  refine (laws_markIntS v1 _ (k) W0 P1.out (by omega) (by omega)).mono ?_
  rintro e w1 ⟨rfl, R1, hX⟩
  replace b0 := b0.fr hX (fun h => by have := h.2; omega)
  replace HF := Hd.mk (HF.out.then_ hX (fun k h _ => h.1))
  clear P1
  have P1 := Hd.mk R1; clear R1 hX
  clear b0
  go_wp2_with fail
  go_ret
  have R1 := P1.out
  replace R1 := R_mono (S' := S) (fun k h => h.1) R1
  exact ⟨rfl, sl_O.2 ⟨_, rfl, R1⟩, HF.out⟩
set_option maxRecDepth 100000 in
theorem laws_markRow {S : Nat → Prop} (x : Row) (cs : List Value) (k : Int) (w : World) (hO : tRow.O w S x cs) (h0 : 0 ≤ k) (h1 : k + (x.cells.length : Int) ≤ 4611686018427387904) :
    Calls Try.prog 92 #[.agg cs.toArray, .int .i64 k] w fun e w' => e = .returned (.int .i64 (k + (x.cells.length : Int))) ∧ tRow.O w' S (⟨x.id, markL mkInt one k x.cells⟩) cs ∧ Fr w w' S := by
  obtain ⟨v1, rfl, p1⟩ := tRow_O.1 hO
  have P1 := Hd.mk (R_bound p1); clear p1
  clear hO
  go_enter Try.func92, Try.ntmps92
  go_wp2_with fail
  apply calls_gen; intro W0 hW
  have hE : Below w.heap.size w W0 := by rw [hW]; exact below_alloc (Below.refl _ _) _
  have b0 : Blk W0 w.heap.size #[.int .i64 x.id, v1] 41 := by rw [hW]; exact Blk.new _ _ _
  clear hW
  replace P1 := Hd.mk (R_below P1.out hE)
  have HF := Hd.mk (Fr.of_below hE S); clear hE
  refine (laws_markIntS v1 _ (k) W0 P1.out (by omega) (by omega)).mono ?_
  rintro e w1 ⟨rfl, R1, hX⟩
  replace b0 := b0.fr hX (fun h => by have := h.2; omega)
  replace HF := Hd.mk (HF.out.then_ hX (fun k h _ => h.1))
  clear P1
  have P1 := Hd.mk R1; clear R1 hX
  clear b0
  go_wp2_with fail
  go_ret
  have R1 := P1.out
  replace R1 := R_mono (S' := S) (fun k h => h.1) R1
  exact ⟨rfl, tRow_O.2 ⟨_, rfl, R1⟩, HF.out⟩
set_option maxRecDepth 100000 in
theorem laws_markStore {S : Nat → Prop} (x : Store) (cs : List Value) (k : Int) (w : World) (hO : tStore.O w S x cs) (h0 : 0 ≤ k) (h1 : k + (x.cols.length : Int) + (bulkL cnRows x.tabs : Int) ≤ 4611686018427387904) :
    Calls Try.prog 19 #[.agg cs.toArray, .int .i64 k] w fun e w' => e = .returned (.int .i64 (k + (x.cols.length : Int) + (bulkL cnRows x.tabs : Int))) ∧ tStore.O w' S (⟨markL mkInt one k x.cols, x.ver, markL mkRows cnRows (k + (x.cols.length : Int)) x.tabs⟩) cs ∧ Fr w w' S := by
  obtain ⟨v1, v2, T1, T2, rfl, p1, p2, t1, t2, d12⟩ := tStore_O.1 hO
  have P1 := Hd.mk (R_bound p1); clear p1
  have P2 := Hd.mk (R_bound p2); clear p2
  clear hO
  go_enter Try.func19, Try.ntmps19
  go_wp2_with fail
  apply calls_gen; intro W0 hW
  have hE : Below w.heap.size w W0 := by rw [hW]; exact below_alloc (Below.refl _ _) _
  have b0 : Blk W0 w.heap.size #[v1, .int .i64 x.ver, v2] 37 := by rw [hW]; exact Blk.new _ _ _
  clear hW
  replace P1 := Hd.mk (R_below P1.out hE)
  replace P2 := Hd.mk (R_below P2.out hE)
  have HF := Hd.mk (Fr.of_below hE S); clear hE
  refine (laws_markSchema x.cols _ (k) W0 (sl_O.2 ⟨_, rfl, P1.out⟩) (by omega) (by omega)).mono ?_
  rintro e w1 ⟨rfl, R1, hX⟩
  obtain ⟨z, hz, hz2⟩ := sl_O.1 R1
  simp only [List.cons.injEq, and_true, true_and] at hz
  subst hz
  clear R1; have R1 := hz2; clear hz2
  replace b0 := b0.fr hX (fun h => by have := h.2; omega)
  replace HF := Hd.mk (HF.out.then_ hX (fun k h _ => t1 k h.1))
  replace P2 := Hd.mk (R_fr P2.out hX (fun k a _ b => d12 k b.1 a.1))
  clear P1
  have P1 := Hd.mk R1; clear R1 hX
  have f0 : w1.cell? ⟨w.heap.size, 0, none⟩ = some (v1) := b0.cell 0 rfl
  have f1 : w1.cell? ⟨w.heap.size, 1, none⟩ = some (.int .i64 x.ver) := b0.cell 1 rfl
  have f2 : w1.cell? ⟨w.heap.size, 2, none⟩ = some (v2) := b0.cell 2 rfl
  have hb0 := Hd.mk b0; clear b0
  go_wp2_with fail
  have b0 := hb0.out; clear hb0 f0 f1 f2
  apply calls_gen; intro W1 hW
  have hE : Below w1.heap.size w1 W1 := by rw [hW]; exact Below.refl _ _
  clear hW
  replace b0 := b0.below hE
  replace P1 := Hd.mk (R_below P1.out hE)
  replace P2 := Hd.mk (R_below P2.out hE)
  replace HF := Hd.mk (HF.out.trans (Fr.of_below hE S)); clear hE
  refine (laws_markRowSS v2 _ (k + (x.cols.length : Int)) W1 P2.out (by omega) (by omega)).mono ?_
  rintro e w2 ⟨rfl, R2, hX⟩
  replace b0 := b0.fr hX (fun h => by have := h.2; omega)
  replace HF := Hd.mk (HF.out.then_ hX (fun k h _ => t2 k h.1))
  replace P1 := Hd.mk (R_fr P1.out hX (fun k a _ b => d12 k a.1 b.1))
  clear P2
  have P2 := Hd.mk R2; clear R2 hX
  clear b0
  go_wp2_with fail
  go_ret
  have R1 := P1.out
  have R2 := P2.out
  have s1 : ∀ k, (T1 k ∧ k < w.heap.size) → S k := fun k h => t1 k h.1
  have s2 : ∀ k, (T2 k ∧ k < w.heap.size) → S k := fun k h => t2 k h.1
  have e12 : ∀ k, (T1 k ∧ k < w.heap.size) → ¬ (T2 k ∧ k < w.heap.size) := fun k a b => d12 k a.1 b.1
  exact ⟨rfl, tStore_O.2 ⟨_, _, _, _, rfl, R1, R2, s1, s2, e12⟩, HF.out⟩
set_option maxRecDepth 100000 in
theorem laws_markChange {S : Nat → Prop} (x : Change) (cs : List Value) (k : Int) (w : World) (hO : tChange.O w S x cs) (h0 : 0 ≤ k) (h1 : k + (x.old.cells.length : Int) + (x.new.cells.length : Int) ≤ 4611686018427387904) :
    Calls Try.prog 20 #[.agg cs.toArray, .int .i64 k] w fun e w' => e = .returned (.int .i64 (k + (x.old.cells.length : Int) + (x.new.cells.length : Int))) ∧ tChange.O w' S (⟨x.table, x.had, x.has, ⟨x.old.id, markL mkInt one k x.old.cells⟩, ⟨x.new.id, markL mkInt one (k + (x.old.cells.length : Int)) x.new.cells⟩⟩) cs ∧ Fr w w' S := by
  obtain ⟨v1, v2, T1, T2, rfl, p1, p2, t1, t2, d12⟩ := tChange_O.1 hO
  have P1 := Hd.mk (R_bound p1); clear p1
  have P2 := Hd.mk (R_bound p2); clear p2
  clear hO
  go_enter Try.func20, Try.ntmps20
  go_wp2_with fail
  apply calls_gen; intro W0 hW
  have hE : Below w.heap.size w W0 := by rw [hW]; exact below_alloc (Below.refl _ _) _
  have b0 : Blk W0 w.heap.size #[.int .i64 x.table, .bool x.had, .bool x.has, .int .i64 x.old.id, v1, .int .i64 x.new.id, v2] 43 := by rw [hW]; exact Blk.new _ _ _
  clear hW
  replace P1 := Hd.mk (R_below P1.out hE)
  replace P2 := Hd.mk (R_below P2.out hE)
  have HF := Hd.mk (Fr.of_below hE S); clear hE
  refine (laws_markRow x.old _ (k) W0 (tRow_O.2 ⟨_, rfl, P1.out⟩) (by omega) (by omega)).mono ?_
  rintro e w1 ⟨rfl, R1, hX⟩
  obtain ⟨z, hz, hz2⟩ := tRow_O.1 R1
  simp only [List.cons.injEq, and_true, true_and] at hz
  subst hz
  clear R1; have R1 := hz2; clear hz2
  replace b0 := b0.fr hX (fun h => by have := h.2; omega)
  replace HF := Hd.mk (HF.out.then_ hX (fun k h _ => t1 k h.1))
  replace P2 := Hd.mk (R_fr P2.out hX (fun k a _ b => d12 k b.1 a.1))
  clear P1
  have P1 := Hd.mk R1; clear R1 hX
  have f0 : w1.cell? ⟨w.heap.size, 0, none⟩ = some (.int .i64 x.table) := b0.cell 0 rfl
  have f1 : w1.cell? ⟨w.heap.size, 1, none⟩ = some (.bool x.had) := b0.cell 1 rfl
  have f2 : w1.cell? ⟨w.heap.size, 2, none⟩ = some (.bool x.has) := b0.cell 2 rfl
  have f3 : w1.cell? ⟨w.heap.size, 3, none⟩ = some (.int .i64 x.old.id) := b0.cell 3 rfl
  have f4 : w1.cell? ⟨w.heap.size, 4, none⟩ = some (v1) := b0.cell 4 rfl
  have f5 : w1.cell? ⟨w.heap.size, 5, none⟩ = some (.int .i64 x.new.id) := b0.cell 5 rfl
  have f6 : w1.cell? ⟨w.heap.size, 6, none⟩ = some (v2) := b0.cell 6 rfl
  have hb0 := Hd.mk b0; clear b0
  go_wp2_with fail
  have b0 := hb0.out; clear hb0 f0 f1 f2 f3 f4 f5 f6
  apply calls_gen; intro W1 hW
  have hE : Below w1.heap.size w1 W1 := by rw [hW]; exact Below.refl _ _
  clear hW
  replace b0 := b0.below hE
  replace P1 := Hd.mk (R_below P1.out hE)
  replace P2 := Hd.mk (R_below P2.out hE)
  replace HF := Hd.mk (HF.out.trans (Fr.of_below hE S)); clear hE
  refine (laws_markRow x.new _ (k + (x.old.cells.length : Int)) W1 (tRow_O.2 ⟨_, rfl, P2.out⟩) (by omega) (by omega)).mono ?_
  rintro e w2 ⟨rfl, R2, hX⟩
  obtain ⟨z, hz, hz2⟩ := tRow_O.1 R2
  simp only [List.cons.injEq, and_true, true_and] at hz
  subst hz
  clear R2; have R2 := hz2; clear hz2
  replace b0 := b0.fr hX (fun h => by have := h.2; omega)
  replace HF := Hd.mk (HF.out.then_ hX (fun k h _ => t2 k h.1))
  replace P1 := Hd.mk (R_fr P1.out hX (fun k a _ b => d12 k a.1 b.1))
  clear P2
  have P2 := Hd.mk R2; clear R2 hX
  clear b0
  go_wp2_with fail
  go_ret
  have R1 := P1.out
  have R2 := P2.out
  have s1 : ∀ k, (T1 k ∧ k < w.heap.size) → S k := fun k h => t1 k h.1
  have s2 : ∀ k, (T2 k ∧ k < w.heap.size) → S k := fun k h => t2 k h.1
  have e12 : ∀ k, (T1 k ∧ k < w.heap.size) → ¬ (T2 k ∧ k < w.heap.size) := fun k a b => d12 k a.1 b.1
  exact ⟨rfl, tChange_O.2 ⟨_, _, _, _, rfl, R1, R2, s1, s2, e12⟩, HF.out⟩
set_option maxRecDepth 100000 in
theorem laws_heldSchema (x : (List Int)) (cs : List Value) (k : Int) (w : World) (hK : (sl 3 int).K w (markL mkInt one k x) cs) (h0 : 0 ≤ k) (h1 : k + (x.length : Int) ≤ 4611686018427387904) :
    Calls Try.prog 93 #[.agg cs.toArray, .int .i64 k] w fun e w' => e = .returned (.int .i64 (k + (x.length : Int))) ∧ Below w.heap.size w w' := by
  obtain ⟨A1, c1, rfl, hc1, r1⟩ := sl_K.1 hK
  clear hK
  obtain ⟨y1, hy1⟩ : ∃ y, y = (markL mkInt one (k) x) := ⟨_, rfl⟩
  replace r1 : int.C w A1 y1 := by rw [hy1]; exact r1
  show Calls Try.prog 93 #[.agg #[.slice A1 (markL mkInt one (k) x).length c1], .int .i64 k] w _
  rw [← hy1]
  have Y1 := Hd.mk hy1; clear hy1
  have Q1 := Hd.mk r1; clear r1 hc1
  have hq0 : 0 ≤ k + (x.length : Int) := by omega
  go_enter Try.func93, Try.ntmps93
  go_wp2_with fail
  apply calls_gen; intro W0 hW
  have hE : Below w.heap.size w W0 := by rw [hW]; exact below_alloc (Below.refl _ _) _
  have b0 : Blk W0 w.heap.size #[.slice A1 y1.length c1] 34 := by rw [hW]; exact Blk.new _ _ _
  clear hW
  have HE := Hd.mk hE; clear hE
  refine (laws_heldIntS _ _ _ x (k) _ (C_below Q1.out HE.out) Y1.out (by omega) (by rw [bulk_one]; omega)).mono ?_
  rintro e w1 ⟨rfl, hX⟩
  rw [bulk_one]
  replace b0 := b0.below hX
  replace HE := Hd.mk (below_then HE.out hX)
  clear hX
  clear b0
  go_wp2_with fail
  go_ret
  exact ⟨rfl, HE.out⟩
set_option maxRecDepth 100000 in
theorem laws_heldStore (x : Store) (cs : List Value) (k : Int) (w : World) (hK : tStore.K w (⟨markL mkInt one k x.cols, x.ver, markL mkRows cnRows (k + (x.cols.length : Int)) x.tabs⟩) cs) (h0 : 0 ≤ k) (h1 : k + (x.cols.length : Int) + (bulkL cnRows x.tabs : Int) ≤ 4611686018427387904) :
    Calls Try.prog 21 #[.agg cs.toArray, .int .i64 k] w fun e w' => e = .returned (.int .i64 (k + (x.cols.length : Int) + (bulkL cnRows x.tabs : Int))) ∧ Below w.heap.size w w' := by
  obtain ⟨A1, c1, A2, c2, rfl, ⟨hc1, r1⟩, hc2, r2⟩ := tStore_K.1 hK
  clear hK
  obtain ⟨y1, hy1⟩ : ∃ y, y = (markL mkInt one (k) x.cols) := ⟨_, rfl⟩
  replace r1 : int.C w A1 y1 := by rw [hy1]; exact r1
  obtain ⟨y2, hy2⟩ : ∃ y, y = (markL mkRows cnRows (k + (x.cols.length : Int)) x.tabs) := ⟨_, rfl⟩
  replace r2 : tRows.C w A2 y2 := by rw [hy2]; exact r2
  show Calls Try.prog 21 #[.agg #[.slice A1 (markL mkInt one (k) x.cols).length c1, .int .i64 x.ver, .slice A2 (markL mkRows cnRows (k + (x.cols.length : Int)) x.tabs).length c2], .int .i64 k] w _
  rw [← hy1]
  have Y1 := Hd.mk hy1; clear hy1
  have Q1 := Hd.mk r1; have hcc : y1.length ≤ c1 := by rw [Y1.out]; exact hc1
  clear r1 hc1
  rw [← hy2]
  have Y2 := Hd.mk hy2; clear hy2
  have Q2 := Hd.mk r2; clear r2 hc2
  have hq0 : 0 ≤ k + (x.cols.length : Int) := by omega
  have hq1 : 0 ≤ k + (x.cols.length : Int) + (bulkL cnRows x.tabs : Int) := by omega
  go_enter Try.func21, Try.ntmps21
  go_wp2_with fail
  apply calls_gen; intro W0 hW
  have hE : Below w.heap.size w W0 := by rw [hW]; exact below_alloc (Below.refl _ _) _
  have b0 : Blk W0 w.heap.size #[.slice A1 y1.length c1, .int .i64 x.ver, .slice A2 y2.length c2] 37 := by rw [hW]; exact Blk.new _ _ _
  clear hW
  have HE := Hd.mk hE; clear hE
  refine (laws_heldSchema x.cols _ (k) _ (sl_K.2 ⟨_, _, by rw [← Y1.out], by rw [← Y1.out]; exact hcc, by rw [← Y1.out]; exact C_below Q1.out HE.out⟩) (by omega) (by omega)).mono ?_
  rintro e w1 ⟨rfl, hX⟩
  replace b0 := b0.below hX
  replace HE := Hd.mk (below_then HE.out hX)
  clear hX
  have f0 : w1.cell? ⟨w.heap.size, 0, none⟩ = some (.slice A1 y1.length c1) := b0.cell 0 rfl
  have f1 : w1.cell? ⟨w.heap.size, 1, none⟩ = some (.int .i64 x.ver) := b0.cell 1 rfl
  have f2 : w1.cell? ⟨w.heap.size, 2, none⟩ = some (.slice A2 y2.length c2) := b0.cell 2 rfl
  have hb0 := Hd.mk b0; clear b0
  go_wp2_with fail
  have b0 := hb0.out; clear hb0 f0 f1 f2
  refine (laws_heldRowSS _ _ _ x.tabs (k + (x.cols.length : Int)) _ (C_below Q2.out HE.out) Y2.out (by omega) (by omega)).mono ?_
  rintro e w2 ⟨rfl, hX⟩
  replace b0 := b0.below hX
  replace HE := Hd.mk (below_then HE.out hX)
  clear hX
  clear b0
  go_wp2_with fail
  go_ret
  exact ⟨rfl, HE.out⟩
end Go.Proofs.Ytnpogfhfjofbmaa.X
