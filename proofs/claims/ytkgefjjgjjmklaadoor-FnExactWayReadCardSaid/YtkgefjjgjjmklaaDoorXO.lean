/- What is proved here: what the laws' marks make of values and ops. Conditions: none. -/
import Derived.Test.YtkgefjjgjjmklaaDoorXN
import Derived.Test.YtkgefjjgjjmklaaDoorXJ
namespace Go.Proofs.YtkgefjjgjjmklaaDoor.X
open Go.RowKit Go.Sort
set_option linter.unusedVariables false
set_option linter.unusedSimpArgs false
open Ty
/-- The digits of a number. -/
def dg (n : Nat) : ByteArray := if h : n = 0 then ByteArray.empty else dg (n / 10) ++ ⟨#[UInt8.ofNat (48 + n % 10)]⟩
termination_by n
decreasing_by omega
theorem dg_zero : dg 0 = ByteArray.empty := by rw [dg]; rfl
theorem dg_pos {n : Nat} (h : 0 < n) : dg n = dg (n / 10) ++ ⟨#[UInt8.ofNat (48 + n % 10)]⟩ := by
  rw [dg]
  exact dif_neg (by omega)
theorem dg_le : ∀ n : Nat, (dg n).size ≤ n := by
  intro n
  induction n using Nat.strongRecOn with
  | _ n ih =>
    rcases Nat.eq_zero_or_pos n with rfl | h
    · rw [dg_zero]; exact Nat.le_refl _
    · rw [dg_pos h, ByteArray.size_append]
      have := ih (n / 10) (by omega)
      show (dg (n / 10)).size + 1 ≤ n
      omega
def markText (k : Int) : ByteArray := if k ≤ 0 then ⟨#[109, 48]⟩ else ⟨#[109]⟩ ++ dg k.toNat
theorem markText_le (k : Int) (h0 : 0 ≤ k) (h1 : k + 1 ≤ 4611686018427387904) : (markText k).size ≤ 4611686018427387906 := by
  unfold markText
  split
  · show 2 ≤ _; omega
  · rw [ByteArray.size_append]
    have := dg_le k.toNat
    show 1 + _ ≤ _
    omega
def mkStr (k : Int) (_ : ByteArray) : ByteArray := markText k
def cnJ : Nat → J → Nat
  | 0, _ => 0
  | m + 1, j => 3 + bulkL (cnJ m) j.list + j.names.length
def mkJ : Nat → Int → J → J
  | 0, _, j => j
  | m + 1, k, j => J.mk k (k + 1) (markText (k + 1 + 1)) (markL (mkJ m) (cnJ m) (k + 1 + 1 + 1) j.list) (markL mkStr one (k + 1 + 1 + 1 + (bulkL (cnJ m) j.list : Int)) j.names)
def cnOp (m : Nat) (o : JOp) : Nat := 1 + o.way.length + cnJ m o.value
def mkOp (m : Nat) (k : Int) (o : JOp) : JOp := ⟨k, markL mkStr one (k + 1) o.way, mkJ m (k + 1 + (o.way.length : Int)) o.value⟩
theorem no_long (x y : ByteArray) (h : x.size + y.size ≤ 4611686018427387905) : ¬ ((x.size + y.size : Nat) : Int) > IntKind.i64.max := by
  show ¬ (9223372036854775807 : Int) < _
  omega
set_option maxRecDepth 100000 in
theorem laws_markText (k : Int) (w : World) (h0 : 0 ≤ k) (h1 : k + 1 ≤ 4611686018427387904) :
    Calls Tryd.prog 57 #[.int .i64 k] w fun e w' => e = .returned (.string (markText k)) ∧ Below w.heap.size w w' := by
  go_enter Tryd.func57, Tryd.ntmps57
  obtain ⟨K, rfl⟩ := Int.eq_ofNat_of_zero_le h0
  rcases Nat.eq_zero_or_pos K with rfl | hk
  · have HN := Hd.mk (show markText ((0 : Nat) : Int) = ⟨#[109, 48]⟩ by unfold markText; rw [if_pos (by omega)])
    go_wp2_with fail
    go_ret
    exact ⟨by rw [HN.out] <;> rfl, Below.refl _ _⟩
  · have HN := Hd.mk (show markText (K : Int) = ⟨#[109]⟩ ++ dg K by unfold markText; rw [if_neg (by omega), Int.toNat_natCast])
    have hk0 : (0 : Int) < (K : Int) := by omega
    have HH0 := Hd.mk h0; have HH1 := Hd.mk h1; have HHk := Hd.mk hk
    clear h0 h1 hk
    go_wp2_with fail
    go_loopw [0, 3] (fun k o wr => ∃ n : Nat, ∃ s : ByteArray, n ≤ K ∧ k = .int .i64 n ∧ o = .string s ∧ Hd (dg n ++ s = dg K) ∧ Hd (Below w.heap.size w wr)) (fun k _ _ => (intOf k).toNat)
    case atStart => exact ⟨K, _, Nat.le_refl _, rfl, rfl, ⟨ByteArray.append_empty⟩, ⟨Below.refl _ _⟩⟩
    case round =>
      obtain ⟨n, s, hn, rfl, rfl, HD, HB⟩ := hrel
      have hs1 : s.size ≤ 4611686018427387904 := by
        have h1 := congrArg ByteArray.size HD.out
        have h2 := dg_le K
        have h3 := HH1.out
        rw [ByteArray.size_append] at h1
        omega
      by_cases hlt : 0 < n
      · have hcv := run_convert_bytes_back (P := Tryd.prog) (wr.alloc (Obj.cells #[Value.int IntKind.u8 (48 + (n : Int) % 10)] 5)) 73 9 5 ⟨wr.heap.size, 0, none⟩ 1 [UInt8.ofNat (48 + n % 10)] (by rw [Tryd.underlying73]) (by rw [Tryd.underlying5]) (by rw [Tryd.underlying9])
          (fun j hj => by
            obtain rfl : j = 0 := by simpa using hj
            rw [add0, World.cell?_alloc_mark]
            have h1 : (UInt8.ofNat (48 + n % 10)).toNat = 48 + n % 10 := by rw [UInt8.toNat_ofNat']; omega
            simp [h1]; omega)
        have HV := Hd.mk hcv
        simp only [List.length_singleton] at hcv
        have hst := Hd.mk (show dg (n / 10) ++ (⟨#[UInt8.ofNat (48 + n % 10)]⟩ ++ s) = dg K by
          rw [← HD.out, dg_pos hlt, ByteArray.append_assoc])
        clear hcv
        have hcv := HV.out
        simp only [List.length_singleton] at hcv
        have HWr := Hd.mk (show wrap64 ((n : Int) / 10) = ((n / 10 : Nat) : Int) by unfold wrap64; have := HH1.out; omega)
        go_wp2_with (simp only [hcv])
        rw [HWr.out]
        go_roundw
        case rel =>
          refine ⟨n / 10, _, by omega, rfl, rfl, ⟨by have := hst.out; simpa using this⟩, ⟨below_alloc HB.out _⟩⟩
        case measure => simp [intOf]; omega
      · obtain rfl : n = 0 := by omega
        go_wp2_with fail
        go_ret
        have hd := HD.out
        rw [dg_zero, ByteArray.empty_append] at hd
        exact ⟨by rw [HN.out, ← hd] <;> rfl, HB.out⟩
set_option maxRecDepth 100000 in
theorem laws_markStringS {S : Nat → Prop} (v : Value) (l : List ByteArray) (k : Int) (w : World) (hR : str.R 9 w S v l) (h0 : 0 ≤ k) (h1 : k + bulkL one l ≤ 4611686018427387904) :
    Calls Tryd.prog 19 #[v, .int .i64 k] w fun e w' => e = .returned (.int .i64 (k + bulkL one l)) ∧ str.R 9 w' S v (markL mkStr one k l) ∧ Fr w w' S := by
  obtain ⟨A, c, rfl, hc, hC⟩ := R_C hR
  have hm := hC.1
  clear hC
  have HR := Hd.mk hR; clear hR
  have HB := Hd.mk h1; clear h1
  go_enter Tryd.func19, Tryd.ntmps19
  go_wp2_with fail
  go_loopw [1, 5] (fun v i wr => ∃ j : Nat, ∃ kk : Int, j ≤ l.length ∧ i = .int .i64 j ∧ v = .int .i64 kk ∧ Hd (kk = k + bulkL one (l.take j)) ∧ 0 ≤ kk ∧ Hd (str.R 9 wr S (.slice A l.length c) (midL mkStr one k l j)) ∧ Hd (Fr w wr S)) (fun _ i _ => l.length - (intOf i).toNat)
  case atStart => exact ⟨0, k, Nat.zero_le _, rfl, rfl, ⟨by simp [bulkL]⟩, h0, ⟨by rw [midL_zero]; exact HR.out⟩, ⟨Fr.refl _ _⟩⟩
  case round =>
    obtain ⟨j, kk, hj, rfl, rfl, HKK, hk0, HK, HF⟩ := hrel
    by_cases hlt : j < l.length
    · have hkk : kk + (one l[j] : Int) ≤ 4611686018427387904 := by
        have h1 := HKK.out; have h2 := HB.out; have h3 := bulkL_take one l j hlt; have h4 := bulkL_take_le one l (j + 1)
        omega
      obtain ⟨Si, cs, hH, hO⟩ := R_H HK.out (midL_at l k j hlt)
      obtain ⟨g, cap, hv, hcl, hcap, hg, hgl, hgS, hcell, hfz⟩ := H_cells hH (by decide)
      injection hv with hv1 hv2 hv3
      subst hv1; subst hv3; clear hv2
      have hSS := H_sub hH
      obtain ⟨rfl, hsz⟩ := hO
      have F0 := HF.out
      have hkx : kk + 1 ≤ 4611686018427387904 := by have := hkk; simp only [one] at this; omega
      clear hkk
      have hq0 : 0 ≤ kk := by omega
      have hu0 : kk + 1 ≤ 4611686018427387904 := by omega
      have HH : str.H 9 wr S (.slice (some ⟨g, 0, none⟩) l.length c) (midL mkStr one k l j) j Si [.string l[j]] := hH
      clear hH hcell hfz
      obtain ⟨hgl0, hcell, hfz⟩ := H_at HH
      have x0_0 : wr.cell? ⟨g, j, none⟩ = some (.string l[j]) := by simpa [show (str).sz = 1 from rfl] using hcell 0 _ rfl
      have z0_0 := hfz (j)
      clear hcell hfz
      have HH_ := Hd.mk HH; clear HH
      have FF_ := Hd.mk F0; clear F0
      go_wp2_with fail
      clear x0_0 z0_0 hgl0
      apply calls_gen; intro W0 hW
      have HH : str.H 9 W0 S (.slice (some ⟨g, 0, none⟩) l.length c) (midL mkStr one k l j) j Si [.string l[j]] := by rw [hW]; exact HH_.out
      have F0 : Fr w W0 S := by rw [hW]; exact FF_.out
      clear hW HH_ FF_
      refine (laws_markText (kk) W0 hq0 hu0).mono ?_
      rintro e w1 ⟨rfl, hX⟩
      replace HH := H_fr HH (Fr.of_below hX (fun _ => False)) (fun _ _ h _ => h.elim)
      replace F0 := F0.then_ (Fr.of_below hX (fun _ => False)) (fun _ h _ => h.elim)
      clear hX
      obtain ⟨hgl1, hcell, hfz⟩ := H_at HH
      have x1_0 : w1.cell? ⟨g, j, none⟩ = some (.string l[j]) := by simpa [show (str).sz = 1 from rfl] using hcell 0 _ rfl
      have z1_0 := hfz (j)
      clear hcell hfz
      have HH_ := Hd.mk HH; clear HH
      have FF_ := Hd.mk F0; clear F0
      go_wp2_with fail
      go_roundw
      case rel =>
        have HH := H_store HH_.out 0 (by decide) (.string (markText (kk))) rfl
        have F0 := FF_.out.setCell ⟨g, j, none⟩ (fun _ => hg) (.string (markText (kk)))
        refine ⟨j + 1, kk + 1, by omega, by go_num, by go_num, ⟨?_⟩, by omega, ⟨?_⟩, ⟨by simpa using F0⟩⟩
        · rw [bulkL_take one l j hlt, HKK.out]; simp only [one]; omega
        · rw [← midL_step l k j hlt, ← HKK.out]
          have HSZ : str.sz = 1 := rfl
          have HH := HH
          simp only [HSZ, Nat.mul_one, Nat.add_zero] at HH
          refine H_back (x' := mkStr kk l[j]) (T := Si) (by simpa [HSZ, mkStr] using HH) (⟨rfl, Nat.le_trans (markText_le kk hk0 (by omega)) (by omega)⟩) (fun _ h => .inl h) (fun _ h => h) hSS
      case measure => simp [intOf]; omega
    · obtain rfl : j = l.length := by omega
      go_wp2_with fail
      go_ret
      exact ⟨by rw [HKK.out, List.take_length] <;> rfl, by rw [← midL_end]; exact HK.out, HF.out⟩
set_option maxRecDepth 100000 in
theorem laws_heldStringS (A : Option Addr) (c : Nat) (xs l : List ByteArray) (k : Int) (w : World) (hr : str.C w A xs) (hx : xs = markL mkStr one k l) (h0 : 0 ≤ k) (h1 : k + bulkL one l ≤ 4611686018427387904) :
    Calls Tryd.prog 20 #[.slice A xs.length c, .int .i64 k] w fun e w' => e = .returned (.int .i64 (k + bulkL one l)) ∧ Below w.heap.size w w' := by
  have hm := hr.1
  have HC := Hd.mk hr; clear hr
  have HX := Hd.mk hx; clear hx
  have HB := Hd.mk h1; clear h1
  have HL := Hd.mk (show xs.length = l.length by rw [HX.out, markL_length])
  go_enter Tryd.func20, Tryd.ntmps20
  go_wp2_with fail
  go_loopw [1, 5] (fun v i wr => ∃ j : Nat, ∃ kk : Int, j ≤ xs.length ∧ i = .int .i64 j ∧ v = .int .i64 kk ∧ Hd (kk = k + bulkL one (l.take j)) ∧ 0 ≤ kk ∧ Hd (Below w.heap.size w wr)) (fun _ i _ => xs.length - (intOf i).toNat)
  case atStart => exact ⟨0, k, Nat.zero_le _, rfl, rfl, ⟨by simp [bulkL]⟩, h0, ⟨Below.refl _ _⟩⟩
  case round =>
    obtain ⟨j, kk, hj, rfl, rfl, HKK, hk0, HW⟩ := hrel
    by_cases hlt : j < xs.length
    · have hlt2 : j < l.length := by have := HL.out; omega
      have hkk : kk + (one l[j] : Int) ≤ 4611686018427387904 := by
        have h1 := HKK.out; have h2 := HB.out; have h3 := bulkL_take one l j hlt2; have h4 := bulkL_take_le one l (j + 1)
        omega
      have he : xs[j] = mkStr kk l[j] := by
        have h := markL_at (mk := mkStr) (cn := one) l k j hlt2
        rw [← HKK.out] at h
        rw [← h]
        simp only [HX.out]
      obtain ⟨ad, cs0, rfl, hK0, e0, e1⟩ := C_at HC.out HW.out j hlt
      rw [he] at hK0; clear he
      have hK1 : cs0 = [.string (markText kk)] := hK0.1
      subst hK1
      clear hK0
      have x0 : wr.cell? (ad.add j) = some (.string (markText kk)) := by simpa [show (str).sz = 1 from rfl, mkRows] using e0 _ rfl
      clear e0 e1
      have hkx : kk + 1 ≤ 4611686018427387904 := by have := hkk; simp only [one] at this; omega
      clear hkk
      have hq0 : 0 ≤ kk := by omega
      have hu0 : kk + 1 ≤ 4611686018427387904 := by omega
      have hqe : 0 ≤ kk + 1 := by omega
      have HE := HW.out
      have HE_ := Hd.mk HE; clear HE
      go_wp2_with fail
      have y_0 := cell_regrown x0
      refine region_mix [(true, 0), (true, 1), (true, 2), (true, 3), (true, 4), (false, 5), (true, 6)] (by kernel_rfl) (by kernel_rfl) (fun _ _ _ _ _ h => h) ?_
      repeat (refine mix_q rfl ?_; go_big_quiet_want; go_big_quiet_op; go_big_quiet_on; refine wpQuiet_nil ?_)
      refine mix_b rfl ?_ (by rfl)
      go_wp2_with fail
      clear y_0
      refine (laws_markText (kk) _ hq0 hu0).mono ?_
      rintro e w1 ⟨rfl, hX0⟩
      have hX := below_then (below_drew (Below.refl wr.heap.size wr)) hX0
      clear hX0
      replace x0 := cell_below hX x0
      have HE := below_then HE_.out hX
      have HX1 := Hd.mk hX
      have HE := Hd.mk HE
      clear hX HE_
      go_wp2_with fail
      refine ⟨cls_below HX1.out, ?_⟩
      repeat (refine mix_q rfl ?_; go_big_quiet_want; go_big_quiet_op; go_big_quiet_on; refine wpQuiet_nil ?_)
      refine mix_nil ?_
      have HE := HE.out
      clear HX1
      have HE_ := Hd.mk HE; clear HE
      go_wp2_with fail
      go_roundw
      case rel =>
        refine ⟨j + 1, kk + 1, by omega, by go_num, by go_num, ⟨?_⟩, by omega, ⟨HE_.out⟩⟩
        rw [bulkL_take one l j hlt2, HKK.out]; simp only [one]; omega
      case measure => simp [intOf]; omega
    · obtain rfl : j = xs.length := by omega
      go_wp2_with fail
      go_ret
      exact ⟨by rw [HKK.out, HL.out, List.take_length] <;> rfl, HW.out⟩
end Go.Proofs.YtkgefjjgjjmklaaDoor.X
