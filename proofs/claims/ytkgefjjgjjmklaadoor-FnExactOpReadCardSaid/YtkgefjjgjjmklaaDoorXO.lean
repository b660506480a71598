/- What is proved here: what the laws' marks make of values and ops. Conditions: none. -/
import Derived.Test.YtkgefjjgjjmklaaDoorXN
import Derived.Test.YtkgefjjgjjmklaaDoorXJ
namespace Go.Proofs.YtkgefjjgjjmklaaDoor.X
open Go.RowKit Go.Sort
set_option linter.unusedVariables false
set_option linter.unusedSimpArgs false
open Ty
/-- The digits of a number. -/
def dg (n : Nat) : ByteArray := if h : n = 0 then ByteArray.empty else dg (n / 10) ++ ⟨#[UInt8.ofNat (48 + n % 10)]⟩
termination_by n
decreasing_by omega
theorem dg_zero : dg 0 = ByteArray.empty := by rw [dg]; rfl
theorem dg_pos {n : Nat} (h : 0 < n) : dg n = dg (n / 10) ++ ⟨#[UInt8.ofNat (48 + n % 10)]⟩ := by
  rw [dg]
  exact dif_neg (by omega)
theorem dg_le : ∀ n : Nat, (dg n).size ≤ n := by
  intro n
  induction n using Nat.strongRecOn with
  | _ n ih =>
    rcases Nat.eq_zero_or_pos n with rfl | h
    · rw [dg_zero]; exact Nat.le_refl _
    · rw [dg_pos h, ByteArray.size_append]
      have := ih (n / 10) (by omega)
      show (dg (n / 10)).size + 1 ≤ n
      omega
def markText (k : Int) : ByteArray := if k ≤ 0 then ⟨#[109, 48]⟩ else ⟨#[109]⟩ ++ dg k.toNat
theorem markText_le (k : Int) (h0 : 0 ≤ k) (h1 : k + 1 ≤ 4611686018427387904) : (markText k).size ≤ 4611686018427387906 := by
  unfold markText
  split
  · show 2 ≤ _; omega
  · rw [ByteArray.size_append]
    have := dg_le k.toNat
    show 1 + _ ≤ _
    omega
def mkStr (k : Int) (_ : ByteArray) : ByteArray := markText k
def cnJ : Nat → J → Nat
  | 0, _ => 0
  | m + 1, j => 3 + bulkL (cnJ m) j.list + j.names.length
def mkJ : Nat → Int → J → J
  | 0, _, j => j
  | m + 1, k, j => J.mk k (k + 1) (markText (k + 1 + 1)) (markL (mkJ m) (cnJ m) (k + 1 + 1 + 1) j.list) (markL mkStr one (k + 1 + 1 + 1 + (bulkL (cnJ m) j.list : Int)) j.names)
def cnOp (m : Nat) (o : JOp) : Nat := 1 + o.way.length + cnJ m o.value
def mkOp (m : Nat) (k : Int) (o : JOp) : JOp := ⟨k, markL mkStr one (k + 1) o.way, mkJ m (k + 1 + (o.way.length : Int)) o.value⟩
theorem no_long (x y : ByteArray) (h : x.size + y.size ≤ 4611686018427387905) : ¬ ((x.size + y.size : Nat) : Int) > IntKind.i64.max := by
  show ¬ (9223372036854775807 : Int) < _
  omega
set_option maxRecDepth 100000 in
theorem laws_markText (k : Int) (w : World) (h0 : 0 ≤ k) (h1 : k + 1 ≤ 4611686018427387904) :
    Calls Tryd.prog 57 #[.int .i64 k] w fun e w' => e = .returned (.string (markText k)) ∧ Below w.heap.size w w' := by
  go_enter Tryd.func57, Tryd.ntmps57
  obtain ⟨K, rfl⟩ := Int.eq_ofNat_of_zero_le h0
  rcases Nat.eq_zero_or_pos K with rfl | hk
  · have HN := Hd.mk (show markText ((0 : Nat) : Int) = ⟨#[109, 48]⟩ by unfold markText; rw [if_pos (by omega)])
    go_wp2_with fail
    go_ret
    exact ⟨by rw [HN.out] <;> rfl, Below.refl _ _⟩
  · have HN := Hd.mk (show markText (K : Int) = ⟨#[109]⟩ ++ dg K by unfold markText; rw [if_neg (by omega), Int.toNat_natCast])
    have hk0 : (0 : Int) < (K : Int) := by omega
    have HH0 := Hd.mk h0; have HH1 := Hd.mk h1; have HHk := Hd.mk hk
    clear h0 h1 hk
    go_wp2_with fail
    go_loopw [0, 3] (fun k o wr => ∃ n : Nat, ∃ s : ByteArray, n ≤ K ∧ k = .int .i64 n ∧ o = .string s ∧ Hd (dg n ++ s = dg K) ∧ Hd (Below w.heap.size w wr)) (fun k _ _ => (intOf k).toNat)
    case atStart => exact ⟨K, _, Nat.le_refl _, rfl, rfl, ⟨ByteArray.append_empty⟩, ⟨Below.refl _ _⟩⟩
    case round =>
      obtain ⟨n, s, hn, rfl, rfl, HD, HB⟩ := hrel
      have hs1 : s.size ≤ 4611686018427387904 := by
        have h1 := congrArg ByteArray.size HD.out
        have h2 := dg_le K
        have h3 := HH1.out
        rw [ByteArray.size_append] at h1
        omega
      by_cases hlt : 0 < n
      · have hcv := run_convert_bytes_back (P := Tryd.prog) (wr.alloc (Obj.cells #[Value.int IntKind.u8 (48 + (n : Int) % 10)] 5)) 73 9 5 ⟨wr.heap.size, 0, none⟩ 1 [UInt8.ofNat (48 + n % 10)] (by rw [Tryd.underlying73]) (by rw [Tryd.underlying5]) (by rw [Tryd.underlying9])
          (fun j hj => by
            obtain rfl : j = 0 := by simpa using hj
            rw [add0, World.cell?_alloc_mark]
            have h1 : (UInt8.ofNat (48 + n % 10)).toNat = 48 + n % 10 := by rw [UInt8.toNat_ofNat']; omega
            simp [h1]; omega)
        have HV := Hd.mk hcv
        simp only [List.length_singleton] at hcv
        have hst := Hd.mk (show dg (n / 10) ++ (⟨#[UInt8.ofNat (48 + n % 10)]⟩ ++ s) = dg K by
          rw [← HD.out, dg_pos hlt, ByteArray.append_assoc])
        clear hcv
        have hcv := HV.out
        simp only [List.length_singleton] at hcv
        have HWr := Hd.mk (show wrap64 ((n : Int) / 10) = ((n / 10 : Nat) : Int) by unfold wrap64; have := HH1.out; omega)
        go_wp2_with (simp only [hcv])
        rw [HWr.out]
        go_roundw
        case rel =>
          refine ⟨n / 10, _, by omega, rfl, rfl, ⟨by have := hst.out; simpa using this⟩, ⟨below_alloc HB.out _⟩⟩
        case measure => simp [intOf]; omega
      · obtain rfl : n = 0 := by omega
        go_wp2_with fail
        go_ret
        have hd := HD.out
        rw [dg_zero, ByteArray.empty_append] at hd
        exact ⟨by rw [HN.out, ← hd] <;> rfl, HB.out⟩
set_option maxRecDepth 100000 in
theorem laws_markStringS {S : Nat → Prop} (v : Value) (l : List ByteArray) (k : Int) (w : World) (hR : str.R 9 w S v l) (h0 : 0 ≤ k) (h1 : k + bulkL one l ≤ 4611686018427387904) :
    Calls Tryd.prog 19 #[v, .int .i64 k] w fun e w' => e = .returned (.int .i64 (k + bulkL one l)) ∧ str.R 9 w' S v (markL mkStr one k l) ∧ Fr w w' S := by
  obtain ⟨A, c, rfl, hc, hC⟩ := R_C hR
  have hm := hC.1
  clear hC
  have HR := Hd.mk hR; clear hR
  have HB := Hd.mk h1; clear h1
  go_enter Tryd.func19, Tryd.ntmps19
  go_wp2_with fail
  go_loopw [1, 5] (fun v i wr => ∃ j : Nat, ∃ kk : Int, j ≤ l.length ∧ i = .int .i64 j ∧ v = .int .i64 kk ∧ Hd (kk = k + bulkL one (l.take j)) ∧ 0 ≤ kk ∧ Hd (str.R 9 wr S (.slice A l.length c) (midL mkStr one k l j)) ∧ Hd (Fr w wr S)) (fun _ i _ => l.length - (intOf i).toNat)
  case atStart => exact ⟨0, k, Nat.zero_le _, rfl, rfl, ⟨by simp [bulkL]⟩, h0, ⟨by rw [midL_zero]; exact HR.out⟩, ⟨Fr.refl _ _⟩⟩
  case round =>
    obtain ⟨j, kk, hj, rfl, rfl, HKK, hk0, HK, HF⟩ := hrel
    by_cases hlt : j < l.length
    · have hkk : kk + (one l[j] : Int) ≤ 4611686018427387904 := by
        have h1 := HKK.out; have h2 := HB.out; have h3 := bulkL_take one l j hlt; have h4 := bulkL_take_le one l (j + 1)
        omega
      obtain ⟨Si, cs, hH, hO⟩ := R_H HK.out (midL_at l k j hlt)
      obtain ⟨g, cap, hv, hcl, hcap, hg, hgl, hgS, hcell, hfz⟩ := H_cells hH (by decide)
      injection hv with hv1 hv2 hv3
      subst hv1; subst hv3; clear hv2
      have hSS := H_sub hH
      obtain ⟨rfl, hsz⟩ := hO
      have F0 := HF.out
      have hkx : kk + 1 ≤ 4611686018427387904 := by have := hkk; simp only [one] at this; omega
      clear hkk
      have hq0 : 0 ≤ kk := by omega
      have hu0 : kk + 1 ≤ 4611686018427387904 := by omega
      have HH : str.H 9 wr S (.slice (some ⟨g, 0, none⟩) l.length c) (midL mkStr one k l j) j Si [.string l[j]] := hH
      clear hH hcell hfz
      obtain ⟨hgl0, hcell, hfz⟩ := H_at HH
      have x0_0 : wr.cell? ⟨g, j, none⟩ = some (.string l[j]) := by simpa [show (str).sz = 1 from rfl] using hcell 0 _ rfl
      have z0_0 := hfz (j)
      clear hcell hfz
      have HH_ := Hd.mk HH; clear HH
      have FF_ := Hd.mk F0; clear F0
      go_wp2_with fail
      clear x0_0 z0_0 hgl0
      apply calls_gen; intro W0 hW
      have HH : str.H 9 W0 S (.slice (some ⟨g, 0, none⟩) l.length c) (midL mkStr one k l j) j Si [.string l[j]] := by rw [hW]; exact HH_.out
      have F0 : Fr w W0 S := by rw [hW]; exact FF_.out
      clear hW HH_ FF_
      refine (laws_markText (kk) W0 hq0 hu0).mono ?_
      rintro e w1 ⟨rfl, hX⟩
      replace HH := H_fr HH (Fr.of_below hX (fun _ => False)) (fun _ _ h _ => h.elim)
      replace F0 := F0.then_ (Fr.of_below hX (fun _ => False)) (fun _ h _ => h.elim)
      clear hX
      obtain ⟨hgl1, hcell, hfz⟩ := H_at HH
      have x1_0 : w1.cell? ⟨g, j, none⟩ = some (.string l[j]) := by simpa [show (str).sz = 1 from rfl] using hcell 0 _ rfl
      have z1_0 := hfz (j)
      clear hcell hfz
      have HH_ := Hd.mk HH; clear HH
      have FF_ := Hd.mk F0; clear F0
      go_wp2_with fail
      go_roundw
      case rel =>
        have HH := H_store HH_.out 0 (by decide) (.string (markText (kk))) rfl
        have F0 := FF_.out.setCell ⟨g, j, none⟩ (fun _ => hg) (.string (markText (kk)))
        refine ⟨j + 1, kk + 1, by omega, by go_num, by go_num, ⟨?_⟩, by omega, ⟨?_⟩, ⟨by simpa using F0⟩⟩
        · rw [bulkL_take one l j hlt, HKK.out]; simp only [one]; omega
        · rw [← midL_step l k j hlt, ← HKK.out]
          have HSZ : str.sz = 1 := rfl
          have HH := HH
          simp only [HSZ, Nat.mul_one, Nat.add_zero] at HH
          refine H_back (x' := mkStr kk l[j]) (T := Si) (by simpa [HSZ, mkStr] using HH) (⟨rfl, Nat.le_trans (markText_le kk hk0 (by omega)) (by omega)⟩) (fun _ h => .inl h) (fun _ h => h) hSS
      case measure => simp [intOf]; omega
    · obtain rfl : j = l.length := by omega
      go_wp2_with fail
      go_ret
      exact ⟨by rw [HKK.out, List.take_length] <;> rfl, by rw [← midL_end]; exact HK.out, HF.out⟩
set_option maxRecDepth 100000 in
theorem laws_heldStringS (A : Option Addr) (c : Nat) (xs l : List ByteArray) (k : Int) (w : World) (hr : str.C w A xs) (hx : xs = markL mkStr one k l) (h0 : 0 ≤ k) (h1 : k + bulkL one l ≤ 4611686018427387904) :
    Calls Tryd.prog 20 #[.slice A xs.length c, .int .i64 k] w fun e w' => e = .returned (.int .i64 (k + bulkL one l)) ∧ Below w.heap.size w w' := by
  have hm := hr.1
  have HC := Hd.mk hr; clear hr
  have HX := Hd.mk hx; clear hx
  have HB := Hd.mk h1; clear h1
  have HL := Hd.mk (show xs.length = l.length by rw [HX.out, markL_length])
  go_enter Tryd.func20, Tryd.ntmps20
  go_wp2_with fail
  go_loopw [1, 5] (fun v i wr => ∃ j : Nat, ∃ kk : Int, j ≤ xs.length ∧ i = .int .i64 j ∧ v = .int .i64 kk ∧ Hd (kk = k + bulkL one (l.take j)) ∧ 0 ≤ kk ∧ Hd (Below w.heap.size w wr)) (fun _ i _ => xs.length - (intOf i).toNat)
  case atStart => exact ⟨0, k, Nat.zero_le _, rfl, rfl, ⟨by simp [bulkL]⟩, h0, ⟨Below.refl _ _⟩⟩
  case round =>
    obtain ⟨j, kk, hj, rfl, rfl, HKK, hk0, HW⟩ := hrel
    by_cases hlt : j < xs.length
    · have hlt2 : j < l.length := by have := HL.out; omega
      have hkk : kk + (one l[j] : Int) ≤ 4611686018427387904 := by
        have h1 := HKK.out; have h2 := HB.out; have h3 := bulkL_take one l j hlt2; have h4 := bulkL_take_le one l (j + 1)
        omega
      have he : xs[j] = mkStr kk l[j] := by
        have h := markL_at (mk := mkStr) (cn := one) l k j hlt2
        rw [← HKK.out] at h
        rw [← h]
        simp only [HX.out]
      obtain ⟨ad, cs0, rfl, hK0, e0, e1⟩ := C_at HC.out HW.out j hlt
      rw [he] at hK0; clear he
      have hK1 : cs0 = [.string (markText kk)] := hK0.1
      subst hK1
      clear hK0
      have x0 : wr.cell? (ad.add j) = some (.string (markText kk)) := by simpa [show (str).sz = 1 from rfl, mkRows] using e0 _ rfl
      clear e0 e1
      have hkx : kk + 1 ≤ 4611686018427387904 := by have := hkk; simp only [one] at this; omega
      clear hkk
      have hq0 : 0 ≤ kk := by omega
      have hu0 : kk + 1 ≤ 4611686018427387904 := by omega
      have hqe : 0 ≤ kk + 1 := by omega
      have HE := HW.out
      have HE_ := Hd.mk HE; clear HE
      go_wp2_with fail
      have y_0 := cell_regrown x0
      refine region_mix [(true, 0), (true, 1), (true, 2), (true, 3), (true, 4), (false, 5), (true, 6)] (by kernel_rfl) (by kernel_rfl) (fun _ _ _ _ _ h => h) ?_
      repeat (refine mix_q rfl ?_; go_big_quiet_want; go_big_quiet_op; go_big_quiet_on; refine wpQuiet_nil ?_)
      refine mix_b rfl ?_ (by rfl)
      go_wp2_with fail
      clear y_0
      refine (laws_markText (kk) _ hq0 hu0).mono ?_
      rintro e w1 ⟨rfl, hX0⟩
      have hX := below_then (below_drew (Below.refl wr.heap.size wr)) hX0
      clear hX0
      replace x0 := cell_below hX x0
      have HE := below_then HE_.out hX
      have HX1 := Hd.mk hX
      have HE := Hd.mk HE
      clear hX HE_
      go_wp2_with fail
      refine ⟨cls_below HX1.out, ?_⟩
      repeat (refine mix_q rfl ?_; go_big_quiet_want; go_big_quiet_op; go_big_quiet_on; refine wpQuiet_nil ?_)
      refine mix_nil ?_
      have HE := HE.out
      clear HX1
      have HE_ := Hd.mk HE; clear HE
      go_wp2_with fail
      go_roundw
      case rel =>
        refine ⟨j + 1, kk + 1, by omega, by go_num, by go_num, ⟨?_⟩, by omega, ⟨HE_.out⟩⟩
        rw [bulkL_take one l j hlt2, HKK.out]; simp only [one]; omega
      case measure => simp [intOf]; omega
    · obtain rfl : j = xs.length := by omega
      go_wp2_with fail
      go_ret
      exact ⟨by rw [HKK.out, HL.out, List.take_length] <;> rfl, HW.out⟩
def MarkJS (m : Nat) : Prop := ∀ (S : Nat → Prop) (v : Value) (l : List J) (k : Int) (w : World) (hR : (tJ m).R 40 w S v l) (h0 : 0 ≤ k) (h1 : k + bulkL (cnJ m) l ≤ 4611686018427387904),
    Calls Tryd.prog 51 #[v, .int .i64 k] w fun e w' => e = .returned (.int .i64 (k + bulkL (cnJ m) l)) ∧ (tJ m).R 40 w' S v (markL (mkJ m) (cnJ m) k l) ∧ Fr w w' S
def HeldJS (m : Nat) : Prop := ∀ (A : Option Addr) (c : Nat) (xs l : List J) (k : Int) (w : World) (hr : (tJ m).C w A xs) (hx : xs = markL (mkJ m) (cnJ m) k l) (h0 : 0 ≤ k) (h1 : k + bulkL (cnJ m) l ≤ 4611686018427387904),
    Calls Tryd.prog 76 #[.slice A xs.length c, .int .i64 k] w fun e w' => e = .returned (.int .i64 (k + bulkL (cnJ m) l)) ∧ Below w.heap.size w w'
set_option maxRecDepth 100000 in
theorem laws_markJsonS_of (m : Nat) (ih : ∀ q : Nat, m = q + 1 → MarkJS q) : MarkJS m := by
  intro S v l k w hR h0 h1
  obtain ⟨A, c, rfl, hc, hC⟩ := R_C hR
  have hm := hC.1
  clear hC
  have HR := Hd.mk hR; clear hR
  have HB := Hd.mk h1; clear h1
  go_enter Tryd.func51, Tryd.ntmps51
  go_wp2_with fail
  go_loopw [1, 5] (fun v i wr => ∃ j : Nat, ∃ kk : Int, j ≤ l.length ∧ i = .int .i64 j ∧ v = .int .i64 kk ∧ Hd (kk = k + bulkL (cnJ m) (l.take j)) ∧ 0 ≤ kk ∧ Hd ((tJ m).R 40 wr S (.slice A l.length c) (midL (mkJ m) (cnJ m) k l j)) ∧ Hd (Fr w wr S)) (fun _ i _ => l.length - (intOf i).toNat)
  case atStart => exact ⟨0, k, Nat.zero_le _, rfl, rfl, ⟨by simp [bulkL]⟩, h0, ⟨by rw [midL_zero]; exact HR.out⟩, ⟨Fr.refl _ _⟩⟩
  case round =>
    obtain ⟨j, kk, hj, rfl, rfl, HKK, hk0, HK, HF⟩ := hrel
    by_cases hlt : j < l.length
    · have hkk : kk + ((cnJ m) l[j] : Int) ≤ 4611686018427387904 := by
        have h1 := HKK.out; have h2 := HB.out; have h3 := bulkL_take (cnJ m) l j hlt; have h4 := bulkL_take_le (cnJ m) l (j + 1)
        omega
      obtain ⟨Si, cs, hH, hO⟩ := R_H HK.out (midL_at l k j hlt)
      obtain ⟨g, cap, hv, hcl, hcap, hg, hgl, hgS, hcell, hfz⟩ := H_cells hH (by rw [tJ_sz]; omega)
      injection hv with hv1 hv2 hv3
      subst hv1; subst hv3; clear hv2
      have hSS := H_sub hH
      obtain ⟨m, rfl⟩ : ∃ m1 : Nat, m = m1 + 1 := by cases m with | zero => exact hO.elim | succ m => exact ⟨m, rfl⟩
      have hih := Hd.mk (ih m rfl); clear ih
      obtain ⟨v1, v2, T1, T2, rfl, hsz, p1, p2, t1, t2, d12⟩ := tJ_O.1 hO
      have np1 : ¬ T1 g := fun h => hgS (t1 g h)
      have np2 : ¬ T2 g := fun h => hgS (t2 g h)
      have F0 := HF.out
      have hkx : kk + 1 + 1 + 1 + (bulkL (cnJ m) l[j].list : Int) + (l[j].names.length : Int) ≤ 4611686018427387904 := by have := hkk; simp only [cnJ] at this; omega
      clear hkk
      have hq2 : 0 ≤ kk + 1 + 1 := by omega
      have hu2 : kk + 1 + 1 + 1 ≤ 4611686018427387904 := by omega
      have hq3 : 0 ≤ kk + 1 + 1 + 1 := by omega
      have hu3 : kk + 1 + 1 + 1 + (bulkL (cnJ m) l[j].list : Int) ≤ 4611686018427387904 := by omega
      have hq4 : 0 ≤ kk + 1 + 1 + 1 + (bulkL (cnJ m) l[j].list : Int) := by omega
      have hu4 : kk + 1 + 1 + 1 + (bulkL (cnJ m) l[j].list : Int) + (l[j].names.length : Int) ≤ 4611686018427387904 := by omega
      have HH : (tJ (m + 1)).H 40 wr S (.slice (some ⟨g, 0, none⟩) l.length c) (midL (mkJ (m + 1)) (cnJ (m + 1)) k l j) j Si [.int .i64 l[j].kind, .int .i64 l[j].n, .string l[j].s, v1, v2] := hH
      clear hH hcell hfz
      clear hO
      obtain ⟨hgl0, hcell, hfz⟩ := H_at HH
      have x0_0 : wr.cell? ⟨g, j * 5, none⟩ = some (.int .i64 l[j].kind) := hcell 0 _ rfl
      have z0_0 := hfz (j * 5)
      have x0_1 : wr.cell? ⟨g, j * 5 + 1, none⟩ = some (.int .i64 l[j].n) := hcell 1 _ rfl
      have z0_1 := hfz (j * 5 + 1)
      have x0_2 : wr.cell? ⟨g, j * 5 + 2, none⟩ = some (.string l[j].s) := hcell 2 _ rfl
      have z0_2 := hfz (j * 5 + 2)
      have x0_3 : wr.cell? ⟨g, j * 5 + 3, none⟩ = some (v1) := hcell 3 _ rfl
      have z0_3 := hfz (j * 5 + 3)
      have x0_4 : wr.cell? ⟨g, j * 5 + 4, none⟩ = some (v2) := hcell 4 _ rfl
      have z0_4 := hfz (j * 5 + 4)
      clear hcell hfz
      have HH_ := Hd.mk HH; clear HH
      have FF_ := Hd.mk F0; clear F0
      have p1_ := Hd.mk p1; clear p1
      have p2_ := Hd.mk p2; clear p2
      go_wp2_with fail
      clear x0_0 z0_0 x0_1 z0_1 x0_2 z0_2 x0_3 z0_3 x0_4 z0_4 hgl0
      apply calls_gen; intro W0 hW
      have HH : (tJ (m + 1)).H 40 W0 S (.slice (some ⟨g, 0, none⟩) l.length c) (midL (mkJ (m + 1)) (cnJ (m + 1)) k l j) j Si [.int .i64 (kk), .int .i64 (kk + 1), .string l[j].s, v1, v2] := by rw [hW]; exact H_store (H_store (HH_.out) 0 (by rw [tJ_sz]; omega) _ rfl) 1 (by rw [tJ_sz]; omega) _ rfl
      have F0 : Fr w W0 S := by rw [hW]; exact ((FF_.out).setCell _ (fun _ => hg) _).setCell _ (fun _ => hg) _
      have p1 : (tJ m).R 40 W0 T1 v1 l[j].list := by rw [hW]; exact R_setCell (R_setCell (p1_.out) np1 _) np1 _
      have p2 : str.R 9 W0 T2 v2 l[j].names := by rw [hW]; exact R_setCell (R_setCell (p2_.out) np2 _) np2 _
      clear hW HH_ FF_ p1_ p2_
      refine (laws_markText (kk + 1 + 1) W0 hq2 hu2).mono ?_
      rintro e w1 ⟨rfl, hX⟩
      replace HH := H_fr HH (Fr.of_below hX (fun _ => False)) (fun _ _ h _ => h.elim)
      replace F0 := F0.then_ (Fr.of_below hX (fun _ => False)) (fun _ h _ => h.elim)
      replace p1 := R_below p1 hX
      replace p2 := R_below p2 hX
      clear hX
      obtain ⟨hgl1, hcell, hfz⟩ := H_at HH
      have x1_0 : w1.cell? ⟨g, j * 5, none⟩ = some (.int .i64 (kk)) := hcell 0 _ rfl
      have z1_0 := hfz (j * 5)
      have x1_1 : w1.cell? ⟨g, j * 5 + 1, none⟩ = some (.int .i64 (kk + 1)) := hcell 1 _ rfl
      have z1_1 := hfz (j * 5 + 1)
      have x1_2 : w1.cell? ⟨g, j * 5 + 2, none⟩ = some (.string l[j].s) := hcell 2 _ rfl
      have z1_2 := hfz (j * 5 + 2)
      have x1_3 : w1.cell? ⟨g, j * 5 + 3, none⟩ = some (v1) := hcell 3 _ rfl
      have z1_3 := hfz (j * 5 + 3)
      have x1_4 : w1.cell? ⟨g, j * 5 + 4, none⟩ = some (v2) := hcell 4 _ rfl
      have z1_4 := hfz (j * 5 + 4)
      clear hcell hfz
      have HH_ := Hd.mk HH; clear HH
      have FF_ := Hd.mk F0; clear F0
      have p1_ := Hd.mk p1; clear p1
      have p2_ := Hd.mk p2; clear p2
      go_wp2_with fail
      clear x1_0 z1_0 x1_1 z1_1 x1_2 z1_2 x1_3 z1_3 x1_4 z1_4 hgl1
      apply calls_gen; intro W1 hW
      have HH : (tJ (m + 1)).H 40 W1 S (.slice (some ⟨g, 0, none⟩) l.length c) (midL (mkJ (m + 1)) (cnJ (m + 1)) k l j) j Si [.int .i64 (kk), .int .i64 (kk + 1), .string (markText (kk + 1 + 1)), v1, v2] := by rw [hW]; exact H_store (HH_.out) 2 (by rw [tJ_sz]; omega) _ rfl
      have F0 : Fr w W1 S := by rw [hW]; exact (FF_.out).setCell _ (fun _ => hg) _
      have p1 : (tJ m).R 40 W1 T1 v1 l[j].list := by rw [hW]; exact R_setCell (p1_.out) np1 _
      have p2 : str.R 9 W1 T2 v2 l[j].names := by rw [hW]; exact R_setCell (p2_.out) np2 _
      clear hW HH_ FF_ p1_ p2_
      refine (hih.out _ v1 _ (kk + 1 + 1 + 1) W1 p1 hq3 hu3).mono ?_
      rintro e w2 ⟨rfl, py, hX⟩
      replace HH := H_fr HH hX (fun k _ h _ => t1 k h)
      replace F0 := F0.then_ hX (fun k h _ => hSS k (t1 k h))
      clear p1; have p1 := py; clear py
      replace p2 := R_fr p2 hX (fun k a _ b => d12 k b a)
      clear hX
      obtain ⟨hgl2, hcell, hfz⟩ := H_at HH
      have x2_0 : w2.cell? ⟨g, j * 5, none⟩ = some (.int .i64 (kk)) := hcell 0 _ rfl
      have z2_0 := hfz (j * 5)
      have x2_1 : w2.cell? ⟨g, j * 5 + 1, none⟩ = some (.int .i64 (kk + 1)) := hcell 1 _ rfl
      have z2_1 := hfz (j * 5 + 1)
      have x2_2 : w2.cell? ⟨g, j * 5 + 2, none⟩ = some (.string (markText (kk + 1 + 1))) := hcell 2 _ rfl
      have z2_2 := hfz (j * 5 + 2)
      have x2_3 : w2.cell? ⟨g, j * 5 + 3, none⟩ = some (v1) := hcell 3 _ rfl
      have z2_3 := hfz (j * 5 + 3)
      have x2_4 : w2.cell? ⟨g, j * 5 + 4, none⟩ = some (v2) := hcell 4 _ rfl
      have z2_4 := hfz (j * 5 + 4)
      clear hcell hfz
      have HH_ := Hd.mk HH; clear HH
      have FF_ := Hd.mk F0; clear F0
      have p1_ := Hd.mk p1; clear p1
      have p2_ := Hd.mk p2; clear p2
      go_wp2_with fail
      clear x2_0 z2_0 x2_1 z2_1 x2_2 z2_2 x2_3 z2_3 x2_4 z2_4 hgl2
      apply calls_gen; intro W2 hW
      have HH : (tJ (m + 1)).H 40 W2 S (.slice (some ⟨g, 0, none⟩) l.length c) (midL (mkJ (m + 1)) (cnJ (m + 1)) k l j) j Si [.int .i64 (kk), .int .i64 (kk + 1), .string (markText (kk + 1 + 1)), v1, v2] := by rw [hW]; exact HH_.out
      have F0 : Fr w W2 S := by rw [hW]; exact FF_.out
      have p1 : (tJ m).R 40 W2 T1 v1 (markL (mkJ m) (cnJ m) (kk + 1 + 1 + 1) l[j].list) := by rw [hW]; exact p1_.out
      have p2 : str.R 9 W2 T2 v2 l[j].names := by rw [hW]; exact p2_.out
      clear hW HH_ FF_ p1_ p2_
      refine (laws_markStringS v2 _ (kk + 1 + 1 + 1 + (bulkL (cnJ m) l[j].list : Int)) W2 p2 hq4 (by rw [bulk_one]; exact hu4)).mono ?_
      rintro e w3 ⟨rfl, py, hX⟩
      rw [bulk_one]
      replace HH := H_fr HH hX (fun k _ h _ => t2 k h)
      replace F0 := F0.then_ hX (fun k h _ => hSS k (t2 k h))
      replace p1 := R_fr p1 hX (fun k a _ b => d12 k a b)
      clear p2; have p2 := py; clear py
      clear hX
      obtain ⟨hgl3, hcell, hfz⟩ := H_at HH
      have x3_0 : w3.cell? ⟨g, j * 5, none⟩ = some (.int .i64 (kk)) := hcell 0 _ rfl
      have z3_0 := hfz (j * 5)
      have x3_1 : w3.cell? ⟨g, j * 5 + 1, none⟩ = some (.int .i64 (kk + 1)) := hcell 1 _ rfl
      have z3_1 := hfz (j * 5 + 1)
      have x3_2 : w3.cell? ⟨g, j * 5 + 2, none⟩ = some (.string (markText (kk + 1 + 1))) := hcell 2 _ rfl
      have z3_2 := hfz (j * 5 + 2)
      have x3_3 : w3.cell? ⟨g, j * 5 + 3, none⟩ = some (v1) := hcell 3 _ rfl
      have z3_3 := hfz (j * 5 + 3)
      have x3_4 : w3.cell? ⟨g, j * 5 + 4, none⟩ = some (v2) := hcell 4 _ rfl
      have z3_4 := hfz (j * 5 + 4)
      clear hcell hfz
      have HH_ := Hd.mk HH; clear HH
      have FF_ := Hd.mk F0; clear F0
      have p1_ := Hd.mk p1; clear p1
      have p2_ := Hd.mk p2; clear p2
      go_wp2_with fail
      go_roundw
      case rel =>
        have HH := HH_.out
        have F0 := FF_.out
        have p1 := p1_.out
        have p2 := p2_.out
        refine ⟨j + 1, kk + 1 + 1 + 1 + (bulkL (cnJ m) l[j].list : Int) + (l[j].names.length : Int), by omega, by go_num, by go_num, ⟨?_⟩, by omega, ⟨?_⟩, ⟨by simpa using F0⟩⟩
        · rw [bulkL_take (cnJ (m + 1)) l j hlt, HKK.out]; simp only [cnJ]; omega
        · rw [← midL_step l k j hlt, ← HKK.out]
          exact H_back (x' := (mkJ (m + 1)) kk l[j]) (T := Si) HH (tJ_O.2 ⟨_, _, T1, T2, rfl, Nat.le_trans (markText_le _ hq2 hu2) (by omega), p1, p2, t1, t2, d12⟩) (fun _ h => .inl h) (fun _ h => h) hSS
      case measure => simp [intOf]; omega
    · obtain rfl : j = l.length := by omega
      go_wp2_with fail
      go_ret
      exact ⟨by rw [HKK.out, List.take_length] <;> rfl, by rw [← midL_end]; exact HK.out, HF.out⟩
set_option maxRecDepth 100000 in
theorem laws_heldJsonS_of (m : Nat) (ih : ∀ q : Nat, m = q + 1 → HeldJS q) : HeldJS m := by
  intro A c xs l k w hr hx h0 h1
  have hm := hr.1
  have HC := Hd.mk hr; clear hr
  have HX := Hd.mk hx; clear hx
  have HB := Hd.mk h1; clear h1
  have HL := Hd.mk (show xs.length = l.length by rw [HX.out, markL_length])
  go_enter Tryd.func76, Tryd.ntmps76
  go_wp2_with fail
  go_loopw [1, 5] (fun v i wr => ∃ j : Nat, ∃ kk : Int, j ≤ xs.length ∧ i = .int .i64 j ∧ v = .int .i64 kk ∧ Hd (kk = k + bulkL (cnJ m) (l.take j)) ∧ 0 ≤ kk ∧ Hd (Below w.heap.size w wr)) (fun _ i _ => xs.length - (intOf i).toNat)
  case atStart => exact ⟨0, k, Nat.zero_le _, rfl, rfl, ⟨by simp [bulkL]⟩, h0, ⟨Below.refl _ _⟩⟩
  case round =>
    obtain ⟨j, kk, hj, rfl, rfl, HKK, hk0, HW⟩ := hrel
    by_cases hlt : j < xs.length
    · have hlt2 : j < l.length := by have := HL.out; omega
      have hkk : kk + ((cnJ m) l[j] : Int) ≤ 4611686018427387904 := by
        have h1 := HKK.out; have h2 := HB.out; have h3 := bulkL_take (cnJ m) l j hlt2; have h4 := bulkL_take_le (cnJ m) l (j + 1)
        omega
      have he : xs[j] = (mkJ m) kk l[j] := by
        have h := markL_at (mk := (mkJ m)) (cn := (cnJ m)) l k j hlt2
        rw [← HKK.out] at h
        rw [← h]
        simp only [HX.out]
      obtain ⟨ad, cs0, rfl, hK0, e0, e1⟩ := C_at HC.out HW.out j hlt
      rw [he] at hK0; clear he
      obtain ⟨m, rfl⟩ : ∃ m1 : Nat, m = m1 + 1 := by cases m with | zero => exact hK0.elim | succ m => exact ⟨m, rfl⟩
      have hih := Hd.mk (ih m rfl); clear ih
      obtain ⟨A1, c1, A2, c2, rfl, hsz, ⟨hc1, r1⟩, hc2, r2⟩ := tJ_K.1 hK0
      clear hK0
      obtain ⟨y1, hy1⟩ : ∃ y, y = (markL (mkJ m) (cnJ m) (kk + 1 + 1 + 1) l[j].list) := ⟨_, rfl⟩
      obtain ⟨y2, hy2⟩ : ∃ y, y = (markL mkStr one (kk + 1 + 1 + 1 + (bulkL (cnJ m) l[j].list : Int)) l[j].names) := ⟨_, rfl⟩
      have x0 : wr.cell? (ad.add (j * 5)) = some (.int .i64 kk) := e0 _ rfl
      have x1 : wr.cell? ⟨(ad.add (j * 5)).block, (ad.add (j * 5)).off + 1, none⟩ = some (.int .i64 (kk + 1)) := e1 0 _ rfl
      have x2 : wr.cell? ⟨(ad.add (j * 5)).block, (ad.add (j * 5)).off + 2, none⟩ = some (.string (markText (kk + 1 + 1))) := e1 1 _ rfl
      have x3 : wr.cell? ⟨(ad.add (j * 5)).block, (ad.add (j * 5)).off + 3, none⟩ = some (.slice A1 (markL (mkJ m) (cnJ m) (kk + 1 + 1 + 1) l[j].list).length c1) := e1 2 _ rfl
      have x4 : wr.cell? ⟨(ad.add (j * 5)).block, (ad.add (j * 5)).off + 4, none⟩ = some (.slice A2 (markL mkStr one (kk + 1 + 1 + 1 + (bulkL (cnJ m) l[j].list : Int)) l[j].names).length c2) := e1 3 _ rfl
      rw [← hy1] at x3
      replace r1 : (tJ m).C wr A1 y1 := by rw [hy1]; exact r1
      have Q1 := Hd.mk r1; clear r1
      have Y1 := Hd.mk hy1; clear hy1
      rw [← hy2] at x4
      replace r2 : str.C wr A2 y2 := by rw [hy2]; exact r2
      have Q2 := Hd.mk r2; clear r2
      have Y2 := Hd.mk hy2; clear hy2
      clear e0 e1 hc1 hc2
      have hkx : kk + 1 + 1 + 1 + (bulkL (cnJ m) l[j].list : Int) + (l[j].names.length : Int) ≤ 4611686018427387904 := by have := hkk; simp only [cnJ] at this; omega
      clear hkk
      have hq0 : 0 ≤ kk := by omega
      have hq1 : 0 ≤ kk + 1 := by omega
      have hq2 : 0 ≤ kk + 1 + 1 := by omega
      have hu2 : kk + 1 + 1 + 1 ≤ 4611686018427387904 := by omega
      have hq3 : 0 ≤ kk + 1 + 1 + 1 := by omega
      have hu3 : kk + 1 + 1 + 1 + (bulkL (cnJ m) l[j].list : Int) ≤ 4611686018427387904 := by omega
      have hq4 : 0 ≤ kk + 1 + 1 + 1 + (bulkL (cnJ m) l[j].list : Int) := by omega
      have hu4 : kk + 1 + 1 + 1 + (bulkL (cnJ m) l[j].list : Int) + (l[j].names.length : Int) ≤ 4611686018427387904 := by omega
      have hqe : 0 ≤ kk + 1 + 1 + 1 + (bulkL (cnJ m) l[j].list : Int) + (l[j].names.length : Int) := by omega
      have HE := HW.out
      have HE_ := Hd.mk HE; clear HE
      go_wp2_with fail
      have y_0 := cell_regrown x0
      have y_1 := cell_regrown x1
      have y_2 := cell_regrown x2
      have y_3 := cell_regrown x3
      have y_4 := cell_regrown x4
      refine region_mix [(true, 0), (true, 1), (true, 2), (true, 3), (true, 4), (true, 5), (false, 6), (true, 7)] (by kernel_rfl) (by kernel_rfl) (fun _ _ _ _ _ h => h) ?_
      repeat (refine mix_q rfl ?_; go_big_quiet_want; go_big_quiet_op; go_big_quiet_on; refine wpQuiet_nil ?_)
      refine mix_b rfl ?_ (by rfl)
      go_wp2_with fail
      clear y_0 y_1 y_2 y_3 y_4
      refine (laws_markText (kk + 1 + 1) _ hq2 hu2).mono ?_
      rintro e w1 ⟨rfl, hX0⟩
      have hX := below_then (below_drew (Below.refl wr.heap.size wr)) hX0
      clear hX0
      replace x0 := cell_below hX x0
      replace x1 := cell_below hX x1
      replace x2 := cell_below hX x2
      replace x3 := cell_below hX x3
      replace x4 := cell_below hX x4
      have Q1 := Hd.mk (C_below Q1.out hX)
      have Q2 := Hd.mk (C_below Q2.out hX)
      have HE := below_then HE_.out hX
      have HX1 := Hd.mk hX
      have HE := Hd.mk HE
      clear hX HE_
      go_wp2_with fail
      refine ⟨cls_below HX1.out, ?_⟩
      repeat (refine mix_q rfl ?_; go_big_quiet_want; go_big_quiet_op; go_big_quiet_on; refine wpQuiet_nil ?_)
      refine mix_nil ?_
      have HE := HE.out
      clear HX1
      have HE_ := Hd.mk HE; clear HE
      go_wp2_with fail
      refine (hih.out _ _ _ l[j].list (kk + 1 + 1 + 1) _ (C_below Q1.out (Below.refl _ _)) Y1.out hq3 hu3).mono ?_
      rintro e w2 ⟨rfl, hX⟩
      replace x0 := cell_below hX x0
      replace x1 := cell_below hX x1
      replace x2 := cell_below hX x2
      replace x3 := cell_below hX x3
      replace x4 := cell_below hX x4
      have Q1 := Hd.mk (C_below Q1.out hX)
      have Q2 := Hd.mk (C_below Q2.out hX)
      have HE := below_then HE_.out hX
      clear hX HE_
      have HE_ := Hd.mk HE; clear HE
      go_wp2_with fail
      refine (laws_heldStringS _ _ _ l[j].names (kk + 1 + 1 + 1 + (bulkL (cnJ m) l[j].list : Int)) _ (C_below Q2.out (Below.refl _ _)) Y2.out hq4 (by rw [bulk_one]; exact hu4)).mono ?_
      rintro e w3 ⟨rfl, hX⟩
      rw [bulk_one]
      replace x0 := cell_below hX x0
      replace x1 := cell_below hX x1
      replace x2 := cell_below hX x2
      replace x3 := cell_below hX x3
      replace x4 := cell_below hX x4
      have Q1 := Hd.mk (C_below Q1.out hX)
      have Q2 := Hd.mk (C_below Q2.out hX)
      have HE := below_then HE_.out hX
      clear hX HE_
      have HE_ := Hd.mk HE; clear HE
      go_wp2_with fail
      go_roundw
      case rel =>
        refine ⟨j + 1, kk + 1 + 1 + 1 + (bulkL (cnJ m) l[j].list : Int) + (l[j].names.length : Int), by omega, by go_num, by go_num, ⟨?_⟩, by omega, ⟨HE_.out⟩⟩
        rw [bulkL_take (cnJ (m + 1)) l j hlt2, HKK.out]; simp only [cnJ]; omega
      case measure => simp [intOf]; omega
    · obtain rfl : j = xs.length := by omega
      go_wp2_with fail
      go_ret
      exact ⟨by rw [HKK.out, HL.out, List.take_length] <;> rfl, HW.out⟩
theorem markJS_all : ∀ m, MarkJS m
  | 0 => laws_markJsonS_of 0 (fun q h => by omega)
  | m + 1 => laws_markJsonS_of (m + 1) (fun q h => by obtain rfl : m = q := by omega
                                                      exact markJS_all m)
theorem heldJS_all : ∀ m, HeldJS m
  | 0 => laws_heldJsonS_of 0 (fun q h => by omega)
  | m + 1 => laws_heldJsonS_of (m + 1) (fun q h => by obtain rfl : m = q := by omega
                                                      exact heldJS_all m)
set_option maxRecDepth 100000 in
theorem laws_markJson {m : Nat} {S : Nat → Prop} (x : J) (cs : List Value) (k : Int) (w : World) (hO : (tJ (m + 1)).O w S x cs) (h0 : 0 ≤ k) (h1 : k + (bulkL (cnJ m) x.list : Int) + (x.names.length : Int) ≤ 4611686018427387904) :
    Calls Tryd.prog 36 #[.agg cs.toArray, .int .i64 k] w fun e w' => e = .returned (.int .i64 (k + (bulkL (cnJ m) x.list : Int) + (x.names.length : Int))) ∧ (tJ (m + 1)).O w' S ((J.mk x.kind x.n x.s (markL (mkJ m) (cnJ m) k x.list) (markL mkStr one (k + (bulkL (cnJ m) x.list : Int)) x.names))) cs ∧ Fr w w' S := by
  obtain ⟨v1, v2, T1, T2, rfl, hsz, p1, p2, t1, t2, d12⟩ := tJ_O.1 hO
  have P1 := Hd.mk (R_bound p1); clear p1
  have P2 := Hd.mk (R_bound p2); clear p2
  clear hO
  go_enter Tryd.func36, Tryd.ntmps36
  go_wp2_with fail
  apply calls_gen; intro W0 hW
  have hE : Below w.heap.size w W0 := by rw [hW]; exact below_alloc (Below.refl _ _) _
  have b0 : Blk W0 w.heap.size #[.int .i64 x.kind, .int .i64 x.n, .string x.s, v1, v2] 40 := by rw [hW]; exact Blk.new _ _ _
  clear hW
  replace P1 := Hd.mk (R_below P1.out hE)
  replace P2 := Hd.mk (R_below P2.out hE)
  have HF := Hd.mk (Fr.of_below hE S); clear hE
  refine (markJS_all m _ v1 _ (k) W0 P1.out (by omega) (by omega)).mono ?_
  rintro e w1 ⟨rfl, R1, hX⟩
  replace b0 := b0.fr hX (fun h => by have := h.2; omega)
  replace HF := Hd.mk (HF.out.then_ hX (fun k h _ => t1 k h.1))
  replace P2 := Hd.mk (R_fr P2.out hX (fun k a _ b => d12 k b.1 a.1))
  clear P1
  have P1 := Hd.mk R1; clear R1 hX
  have f0 : w1.cell? ⟨w.heap.size, 0, none⟩ = some (.int .i64 x.kind) := b0.cell 0 rfl
  have f1 : w1.cell? ⟨w.heap.size, 1, none⟩ = some (.int .i64 x.n) := b0.cell 1 rfl
  have f2 : w1.cell? ⟨w.heap.size, 2, none⟩ = some (.string x.s) := b0.cell 2 rfl
  have f3 : w1.cell? ⟨w.heap.size, 3, none⟩ = some (v1) := b0.cell 3 rfl
  have f4 : w1.cell? ⟨w.heap.size, 4, none⟩ = some (v2) := b0.cell 4 rfl
  have hb0 := Hd.mk b0; clear b0
  go_wp2_with fail
  have b0 := hb0.out; clear hb0 f0 f1 f2 f3 f4
  apply calls_gen; intro W1 hW
  have hE : Below w1.heap.size w1 W1 := by rw [hW]; exact Below.refl _ _
  clear hW
  replace b0 := b0.below hE
  replace P1 := Hd.mk (R_below P1.out hE)
  replace P2 := Hd.mk (R_below P2.out hE)
  replace HF := Hd.mk (HF.out.trans (Fr.of_below hE S)); clear hE
  refine (laws_markStringS v2 _ (k + (bulkL (cnJ m) x.list : Int)) W1 P2.out (by omega) (by rw [bulk_one]; omega)).mono ?_
  rintro e w2 ⟨rfl, R2, hX⟩
  rw [bulk_one]
  replace b0 := b0.fr hX (fun h => by have := h.2; omega)
  replace HF := Hd.mk (HF.out.then_ hX (fun k h _ => t2 k h.1))
  replace P1 := Hd.mk (R_fr P1.out hX (fun k a _ b => d12 k a.1 b.1))
  clear P2
  have P2 := Hd.mk R2; clear R2 hX
  clear b0
  go_wp2_with fail
  go_ret
  have R1 := P1.out
  have R2 := P2.out
  have s1 : ∀ k, (T1 k ∧ k < w.heap.size) → S k := fun k h => t1 k h.1
  have s2 : ∀ k, (T2 k ∧ k < w.heap.size) → S k := fun k h => t2 k h.1
  have e12 : ∀ k, (T1 k ∧ k < w.heap.size) → ¬ (T2 k ∧ k < w.heap.size) := fun k a b => d12 k a.1 b.1
  exact ⟨rfl, tJ_O.2 ⟨_, _, _, _, rfl, hsz, R1, R2, s1, s2, e12⟩, HF.out⟩
set_option maxRecDepth 100000 in
theorem laws_heldJson {m : Nat} (x : J) (cs : List Value) (k : Int) (w : World) (hK : (tJ (m + 1)).K w ((J.mk x.kind x.n x.s (markL (mkJ m) (cnJ m) k x.list) (markL mkStr one (k + (bulkL (cnJ m) x.list : Int)) x.names))) cs) (h0 : 0 ≤ k) (h1 : k + (bulkL (cnJ m) x.list : Int) + (x.names.length : Int) ≤ 4611686018427387904) :
    Calls Tryd.prog 37 #[.agg cs.toArray, .int .i64 k] w fun e w' => e = .returned (.int .i64 (k + (bulkL (cnJ m) x.list : Int) + (x.names.length : Int))) ∧ Below w.heap.size w w' := by
  obtain ⟨A1, c1, A2, c2, rfl, hsz, ⟨hc1, r1⟩, hc2, r2⟩ := tJ_K.1 hK
  clear hK
  obtain ⟨y1, hy1⟩ : ∃ y, y = (markL (mkJ m) (cnJ m) (k) x.list) := ⟨_, rfl⟩
  replace r1 : (tJ m).C w A1 y1 := by rw [hy1]; exact r1
  obtain ⟨y2, hy2⟩ : ∃ y, y = (markL mkStr one (k + (bulkL (cnJ m) x.list : Int)) x.names) := ⟨_, rfl⟩
  replace r2 : str.C w A2 y2 := by rw [hy2]; exact r2
  show Calls Tryd.prog 37 #[.agg #[.int .i64 x.kind, .int .i64 x.n, .string x.s, .slice A1 (markL (mkJ m) (cnJ m) (k) x.list).length c1, .slice A2 (markL mkStr one (k + (bulkL (cnJ m) x.list : Int)) x.names).length c2], .int .i64 k] w _
  rw [← hy1]
  have Y1 := Hd.mk hy1; clear hy1
  have Q1 := Hd.mk r1; clear r1 hc1
  rw [← hy2]
  have Y2 := Hd.mk hy2; clear hy2
  have Q2 := Hd.mk r2; clear r2 hc2
  have hq0 : 0 ≤ k + (bulkL (cnJ m) x.list : Int) := by omega
  have hq1 : 0 ≤ k + (bulkL (cnJ m) x.list : Int) + (x.names.length : Int) := by omega
  go_enter Tryd.func37, Tryd.ntmps37
  go_wp2_with fail
  apply calls_gen; intro W0 hW
  have hE : Below w.heap.size w W0 := by rw [hW]; exact below_alloc (Below.refl _ _) _
  have b0 : Blk W0 w.heap.size #[.int .i64 x.kind, .int .i64 x.n, .string x.s, .slice A1 y1.length c1, .slice A2 y2.length c2] 40 := by rw [hW]; exact Blk.new _ _ _
  clear hW
  have HE := Hd.mk hE; clear hE
  refine (heldJS_all m _ _ _ x.list (k) _ (C_below Q1.out HE.out) Y1.out (by omega) (by omega)).mono ?_
  rintro e w1 ⟨rfl, hX⟩
  replace b0 := b0.below hX
  replace HE := Hd.mk (below_then HE.out hX)
  clear hX
  have f0 : w1.cell? ⟨w.heap.size, 0, none⟩ = some (.int .i64 x.kind) := b0.cell 0 rfl
  have f1 : w1.cell? ⟨w.heap.size, 1, none⟩ = some (.int .i64 x.n) := b0.cell 1 rfl
  have f2 : w1.cell? ⟨w.heap.size, 2, none⟩ = some (.string x.s) := b0.cell 2 rfl
  have f3 : w1.cell? ⟨w.heap.size, 3, none⟩ = some (.slice A1 y1.length c1) := b0.cell 3 rfl
  have f4 : w1.cell? ⟨w.heap.size, 4, none⟩ = some (.slice A2 y2.length c2) := b0.cell 4 rfl
  have hb0 := Hd.mk b0; clear b0
  go_wp2_with fail
  have b0 := hb0.out; clear hb0 f0 f1 f2 f3 f4
  refine (laws_heldStringS _ _ _ x.names (k + (bulkL (cnJ m) x.list : Int)) _ (C_below Q2.out HE.out) Y2.out (by omega) (by rw [bulk_one]; omega)).mono ?_
  rintro e w2 ⟨rfl, hX⟩
  rw [bulk_one]
  replace b0 := b0.below hX
  replace HE := Hd.mk (below_then HE.out hX)
  clear hX
  clear b0
  go_wp2_with fail
  go_ret
  exact ⟨rfl, HE.out⟩
end Go.Proofs.YtkgefjjgjjmklaaDoor.X
