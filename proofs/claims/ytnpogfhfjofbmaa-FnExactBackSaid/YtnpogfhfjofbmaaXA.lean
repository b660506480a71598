/- What is proved here: contracts of the functions over lists of numbers and schemas. Conditions: none. -/
import Derived.Test.YtnpogfhfjofbmaaProg
import Derived.Test.YtnpogfhfjofbmaaXT
import Derived.WalkSpells
namespace Go.Proofs.Ytnpogfhfjofbmaa.X
open Go.RowKit Go.Sort
set_option linter.unusedVariables false
set_option linter.unusedSimpArgs false
open Ty
theorem info_int : (Try.prog.info? 3).map (fun i => (i.zero, i.size, i.bytes)) = some (some (.int .i64 0), 1, 8) := by kernel_rfl
theorem info_RowS : (Try.prog.info? 41).map (fun i => (i.zero, i.size, i.bytes)) = some (some (.agg #[.int .i64 0, .slice none 0 0]), 2, 32) := by kernel_rfl
theorem info_RowSS : (Try.prog.info? 68).map (fun i => (i.zero, i.size, i.bytes)) = some (some (.slice none 0 0), 1, 24) := by kernel_rfl
theorem info_MutS : (Try.prog.info? 97).map (fun i => (i.zero, i.size, i.bytes)) = some (some (.agg #[.int .i64 0, .int .i64 0, .int .i64 0, .slice none 0 0]), 4, 48) := by kernel_rfl
theorem info_str : (Try.prog.info? 9).map (fun i => (i.zero, i.size, i.bytes)) = some (some (.string ByteArray.empty), 1, 16) := by kernel_rfl
theorem info_JsonS : (Try.prog.info? 59).map (fun i => (i.zero, i.size, i.bytes)) = some (some (.agg #[.int .i64 0, .int .i64 0, .string ByteArray.empty, .slice none 0 0, .slice none 0 0]), 5, 80) := by kernel_rfl
theorem info_OpS : (Try.prog.info? 94).map (fun i => (i.zero, i.size, i.bytes)) = some (some (.agg #[.int .i64 0, .slice none 0 0, .int .i64 0, .int .i64 0, .string ByteArray.empty, .slice none 0 0, .slice none 0 0]), 7, 112) := by kernel_rfl
def inB (n lo hi : Int) : Bool := decide (lo ≤ n) && decide (n ≤ hi)
theorem inB_iff {n lo hi : Int} : inB n lo hi = true ↔ lo ≤ n ∧ n ≤ hi := by simp [inB]
theorem impl_within (n lo hi : Int) (w : World) : Calls Try.prog 123 #[.int .i64 n, .int .i64 lo, .int .i64 hi] w fun e w' => e = .returned (.bool (inB n lo hi)) ∧ w = w' := by
  go_enter Try.func123, Try.ntmps123
  go_wp2
  all_goals (go_ret; exact ⟨by simp [inB, *] <;> omega, rfl⟩)
theorem spec_l1In (n lo hi : Int) (w : World) : Calls Try.prog 120 #[.int .i64 n, .int .i64 lo, .int .i64 hi] w fun e w' => e = .returned (.bool (inB n lo hi)) ∧ w = w' := by
  go_enter Try.func120, Try.ntmps120
  go_wp2
  all_goals (go_ret; exact ⟨by simp [inB, *] <;> omega, rfl⟩)
theorem impl_isNum (n : Int) (w : World) : Calls Try.prog 122 #[.int .i64 n] w fun e w' => e = .returned (.bool (inB n (-1000000000) 1000000000)) ∧ w = w' := by
  go_enter Try.func122, Try.ntmps122
  go_wp2_with (go_at_call 123; refine (impl_within _ _ _ _).mono ?_; rintro e w' ⟨rfl, rfl⟩)
  go_ret; exact ⟨rfl, rfl⟩
/-- What is left when so much is taken; -1 where there is not as much. -/
def szR (left : Int) (b : Nat) : Int := if (b : Int) ≤ left then left - b else -1
theorem szR_lt {left : Int} {b : Nat} : szR left b < 0 ↔ ¬ ((b : Int) ≤ left) := by unfold szR; split <;> omega
theorem szR_le {left : Int} {b : Nat} (h : 0 ≤ szR left b) (hl : left ≤ 1048576) : b ≤ 1048576 ∧ 0 ≤ szR left b ∧ szR left b ≤ 1048576 ∧ (b : Int) ≤ left ∧ szR left b = left - b := by
  have h' : (b : Int) ≤ left := by
    unfold szR at h
    split at h
    · assumption
    · omega
  unfold szR
  rw [if_pos h']
  omega
theorem szR_add {left : Int} {a b : Nat} (h : 0 ≤ szR left a) : szR (szR left a) b = szR left (a + b) := by
  have h' : (a : Int) ≤ left := by
    unfold szR at h
    split at h
    · assumption
    · omega
  unfold szR
  rw [if_pos h']
  split <;> split <;> omega
theorem szR_neg {left : Int} {a b : Nat} (h : szR left a < 0) : szR left (a + b) = -1 := by
  rw [szR_lt] at h
  unfold szR
  rw [if_neg (by omega)]
theorem laws_szIntS (A : Option Addr) (n c : Nat) (left : Int) (w : World) (h0 : 0 ≤ left) (h1 : left ≤ 1048576) (hm : n ≤ 9223372036854775807) :
    Calls Try.prog 151 #[.slice A n c, .int .i64 left] w fun e w' => e = .returned (.int .i64 (szR left n)) ∧ w = w' := by
  go_enter Try.func151, Try.ntmps151
  go_wp2
  all_goals (go_ret; exact ⟨by unfold szR; split <;> first | rfl | (exfalso; omega) | simp, rfl⟩)
theorem laws_szSchema (A : Option Addr) (n c : Nat) (left : Int) (w : World) (h0 : 0 ≤ left) (h1 : left ≤ 1048576) (hm : n ≤ 9223372036854775807) :
    Calls Try.prog 77 #[.agg #[.slice A n c], .int .i64 left] w fun e w' => e = .returned (.int .i64 (szR left n)) ∧ Below w.heap.size w w' := by
  go_enter Try.func77, Try.ntmps77
  go_wp2_with (go_at_call 151; refine (laws_szIntS _ _ _ _ _ h0 h1 hm).mono ?_; rintro e w' ⟨rfl, rfl⟩)
  all_goals (go_ret; exact ⟨by first | rfl | (rename_i h; have := szR_lt.1 h; simp [szR, this]), by exact below_alloc (Below.refl _ _) _⟩)
set_option maxRecDepth 100000 in
theorem laws_toIntS (A : Option Addr) (c : Nat) (l : List Int) (w : World) (hr : int.C w A l) (hl : l.length ≤ 1048576) :
    Calls Try.prog 156 #[.slice A l.length c] w fun e w' => ∃ v, e = .returned v ∧ int.R 3 w' (fun k => w.heap.size ≤ k) v l ∧ Below w.heap.size w w' := by
  have hmk := make_eq (P := Try.prog) 22 3 (.int .i64 0) 1 8 Try.underlying22 info_int l.length (by omega) (by omega)
  go_enter Try.func156, Try.ntmps156
  go_wp2
  have hR := R_made (d := int) (e := 3) (W := w) (z := .int .i64 0) (S := fun k => w.heap.size ≤ k) 0 l.length (Nat.le_refl 1) (by omega) rfl (fun _ _ _ => rfl) (Nat.le_refl _)
  simp only [show int.sz = 1 from rfl, Nat.mul_one, show (Value.int .i64 0).cells = #[.int .i64 0] from rfl] at hR
  have HR := Hd.mk hR; clear hR hmk
  have HC := Hd.mk hr; clear hr
  go_loopw [4] (fun i wr => ∃ k : Nat, k ≤ l.length ∧ i = .int .i64 k ∧ Hd (int.R 3 wr (fun k => w.heap.size ≤ k) (.slice (some ⟨w.heap.size, 0, none⟩) l.length l.length) (l.take k ++ List.replicate (l.length - k) 0)) ∧ Hd (Below w.heap.size w wr)) (fun i _ => l.length - (intOf i).toNat)
  case atStart => exact ⟨0, Nat.zero_le _, rfl, ⟨by simpa using HR.out⟩, ⟨below_alloc (Below.refl _ _) _⟩⟩
  case round =>
    obtain ⟨k, hk, rfl, HK, HB⟩ := hrel
    by_cases hlt : k < l.length
    · obtain ⟨ad, rfl, hx⟩ := C_int_at HC.out HB.out k hlt
      obtain ⟨hgl, hc0, hf0, hst⟩ := R_store1 (i := k) (fun _ => rfl) HK.out (x := 0) (by rw [List.getElem?_append_right (by simp <;> omega)]; simp [List.getElem?_replicate, Nat.min_eq_left hk]; omega)
      have HST := Hd.mk hst; clear hst
      go_wp2
      go_roundw
      case rel =>
        refine ⟨k + 1, by omega, by go_num, ⟨?_⟩, ⟨?_⟩⟩
        · have := HST.out l[k]
          rw [set_rep l 0 k hlt] at this
          exact this
        · exact ((Fr.of_below HB.out (fun k => w.heap.size ≤ k)).setCell _ (fun _ => Nat.le_refl _) _).below (fun k hk => hk)
      case measure => simp [intOf]; omega
    · obtain rfl : k = l.length := by omega
      go_wp2
      go_ret
      have := HK.out
      exact ⟨_, rfl, by simpa using this, HB.out⟩
set_option maxRecDepth 100000 in
theorem laws_toSchema (A : Option Addr) (c : Nat) (l : List Int) (w : World) (hr : int.C w A l) (hl : l.length ≤ 1048576) :
    Calls Try.prog 82 #[.agg #[.slice A l.length c]] w fun e w' => ∃ v, e = .returned (.agg #[v]) ∧ int.R 3 w' (fun k => w.heap.size ≤ k) v l ∧ Below w.heap.size w w' := by
  go_enter Try.func82, Try.ntmps82
  go_wp2_with fail
  refine (laws_toIntS A c l _ (C_below hr ?_) hl).mono ?_
  · exact below_alloc (below_alloc (below_alloc (Below.refl _ _) _) _) _
  rintro e w1 ⟨v, rfl, hR, hB⟩
  have hs : w.heap.size + 1 + 1 + 1 ≤ w1.heap.size := by have := hB.size; simpa using this
  have hc1 : w1.cell? ⟨w.heap.size + 1 + 1, 0, none⟩ = some (.slice none 0 0) := cell_below hB (by simp [go_sem])
  have hc2 : w1.cell? ⟨w.heap.size + 1, 0, none⟩ = some (.slice none 0 0) := cell_below hB (by simp [go_sem])
  have hf1 : w1.frozen? ⟨w.heap.size + 1 + 1, 0, none⟩ = false := frozen_below hB (by simp) (by simp [go_sem])
  have hf2 : w1.frozen? ⟨w.heap.size + 1, 0, none⟩ = false := frozen_below hB (by simp) (by simp [go_sem])
  obtain ⟨A', c', rfl, _, _⟩ := R_C hR
  go_wp2
  refine bodyPost_ret (v := .agg #[.slice A' l.length c']) (by simp [results, Try.results82, go_sem, hc2]) rfl ⟨_, rfl, ?_, ?_⟩
  · exact R_mono (fun k hk => by simp at hk; omega) (R_setCell (R_setCell hR (by simp <;> omega) _) (by simp <;> omega) _)
  · exact (((((Below.refl _ _).alloc (Nat.le_refl _) _).alloc (by simp) _).alloc (by simp <;> omega) _).trans (hB.mono (by simp <;> omega))).setCell (by simp <;> omega) _ |>.setCell (by simp) _
/-- Alike: as one Bool. -/
noncomputable def eqv {α : Type} (a b : α) : Bool := @decide (a = b) (Classical.propDecidable _)
theorem eqv_iff {α : Type} {a b : α} : eqv a b = true ↔ a = b := by simp [eqv]
theorem eqv_self {α : Type} (a : α) : eqv a a = true := eqv_iff.2 rfl
theorem eqv_no {α : Type} {a b : α} (h : a ≠ b) : eqv a b = false := by simp [eqv, h]
theorem eqv_len {α : Type} {a b : List α} (h : a.length ≠ b.length) : eqv a b = false := eqv_no (by rintro rfl; exact h rfl)
theorem eqv_at {α : Type} {a b : List α} (k : Nat) (h1 : k < a.length) (h2 : k < b.length) (h : a[k] ≠ b[k]) : eqv a b = false := eqv_no (by rintro rfl; exact h rfl)
theorem calls_gen {P : Program} {f : FuncId} {args : Array Value} {w : World} {Q : Ending → World → Prop} (h : ∀ W, W = w → Calls P f args W Q) : Calls P f args w Q := h w rfl
set_option maxRecDepth 100000 in
theorem laws_eqIntS (A A2 : Option Addr) (c c2 : Nat) (l l2 : List Int) (w : World) (hr : int.C w A l) (hr2 : int.C w A2 l2) :
    Calls Try.prog 159 #[.slice A l.length c, .slice A2 l2.length c2] w fun e w' => e = .returned (.bool (eqv l l2)) ∧ Below w.heap.size w w' := by
  have hm := hr.1
  have hm2 := hr2.1
  go_enter Try.func159, Try.ntmps159
  by_cases hlen : l.length = l2.length
  · have hd : ((l.length : Int) != l2.length) = false := by simp [hlen]
    have HL := Hd.mk hlen
    have HC := Hd.mk hr
    have HC2 := Hd.mk hr2
    clear hr hr2 hlen
    go_wp2
    go_loopw [5] (fun i wr => ∃ k : Nat, k ≤ l.length ∧ i = .int .i64 k ∧ Hd (l.take k = l2.take k) ∧ Hd (Below w.heap.size w wr)) (fun i _ => l.length - (intOf i).toNat)
    case atStart => exact ⟨0, Nat.zero_le _, rfl, ⟨rfl⟩, ⟨Below.refl _ _⟩⟩
    case round =>
      obtain ⟨k, hk, rfl, HK, HB⟩ := hrel
      by_cases hlt : k < l.length
      · obtain ⟨ad, rfl, hx⟩ := C_int_at HC.out HB.out k hlt
        have hlt2 : k < l2.length := by have := HL.out; omega
        obtain ⟨ad2, rfl, hx2⟩ := C_int_at HC2.out HB.out k hlt2
        cases hb : (l[k] != l2[k])
        · go_wp2
          go_quiet (fail)
          go_wp2
          go_roundw
          case rel => 
            refine ⟨k + 1, by omega, by go_num, ⟨?_⟩, ⟨?_⟩⟩
            · have hb : l[k] = l2[k] := by simpa using hb
              rw [List.take_succ_eq_append_getElem hlt, List.take_succ_eq_append_getElem hlt2, HK.out, hb]
            · exact below_drewN HB.out _
          case measure => simp [intOf]; omega
        · have HN := Hd.mk (eqv_at k hlt hlt2 (by simpa using hb))
          go_wp2
          go_quiet (fail)
          go_wp2
          go_ret
          exact ⟨by rw [HN.out]; rfl, below_drewN HB.out _⟩
      · obtain rfl : k = l.length := by omega
        go_wp2
        go_ret
        have h1 := HK.out
        rw [List.take_length, HL.out, List.take_length] at h1
        exact ⟨by rw [eqv_iff.2 h1]; rfl, HB.out⟩
  · have hd : ((l.length : Int) != l2.length) = true := by simp; omega
    have HN := Hd.mk (eqv_len hlen)
    go_wp2
    go_ret
    exact ⟨by rw [HN.out]; rfl, Below.refl _ _⟩
def schemaOk (cols : List Int) : Bool := cols.all (fun n => inB n 1 4) && inB cols.length 1 3
theorem all_take {α : Type} (p : α → Bool) (l : List α) (k : Nat) (hk : k < l.length) (h : (l.take k).all p = true) : (l.take (k + 1)).all p = p l[k] := by
  rw [List.take_succ_eq_append_getElem hk, List.all_append, h]
  simp
theorem all_false {α : Type} (p : α → Bool) (l : List α) (k : Nat) (h : (l.take k).all p = false) : l.all p = false := by
  rw [← List.take_append_drop k l, List.all_append, h]; rfl
set_option maxRecDepth 100000 in
theorem impl_SchemaOk (A : Option Addr) (c : Nat) (l : List Int) (w : World) (hr : int.C w A l) :
    Calls Try.prog 39 #[.agg #[.slice A l.length c]] w fun e w' => e = .returned (.bool (schemaOk l)) ∧ Below w.heap.size w w' := by
  have hm := hr.1
  have HC := Hd.mk hr; clear hr
  go_enter Try.func39, Try.ntmps39
  go_wp2
  go_loop [8] (fun i => ∃ k : Nat, k ≤ l.length ∧ i = .int .i64 k ∧ Hd ((l.take k).all (fun n => inB n 1 4) = true)) (fun i => l.length - (intOf i).toNat)
  case atStart => exact ⟨0, Nat.zero_le _, rfl, ⟨by simp⟩⟩
  case round =>
    obtain ⟨k, hk, rfl, HA⟩ := hrel
    by_cases hlt : k < l.length
    · obtain ⟨ad, rfl, hx⟩ := C_int_at HC.out (below_alloc (Below.refl _ _) (Obj.cells #[Value.slice A l.length c] 34)) k hlt
      have HA2 := Hd.mk (all_take (fun n => inB n 1 4) l k hlt HA.out)
      cases hb : inB l[k] 1 4
      all_goals
        have Hb := Hd.mk hb; clear hb
        go_wp2_with (go_at_call 123; refine (impl_within _ _ _ _).mono ?_; rintro e w' ⟨rfl, rfl⟩; rw [Hb.out])
      · go_ret
        refine ⟨?_, by exact below_alloc (Below.refl _ _) _⟩
        rw [schemaOk, all_false _ l (k+1) (by rw [HA2.out]; exact Hb.out)]; rfl
      · go_round
        case rel => exact ⟨k+1, by omega, by go_num, ⟨by rw [HA2.out]; exact Hb.out⟩⟩
        case measure => simp [intOf]; omega
    · obtain rfl : k = l.length := by omega
      go_wp2_with (go_at_call 123; refine (impl_within _ _ _ _).mono ?_; rintro e w' ⟨rfl, rfl⟩)
      go_ret
      have := HA.out
      rw [List.take_length] at this
      exact ⟨by rw [schemaOk, this]; rfl, by exact below_alloc (Below.refl _ _) _⟩
set_option maxRecDepth 100000 in
theorem spec_SchemaOk (A : Option Addr) (c : Nat) (l : List Int) (w : World) (hr : int.C w A l) :
    Calls Try.prog 119 #[.agg #[.slice A l.length c]] w fun e w' => e = .returned (.bool (schemaOk l)) ∧ Below w.heap.size w w' := by
  have hm := hr.1
  have HC := Hd.mk hr; clear hr
  go_enter Try.func119, Try.ntmps119
  go_wp2
  go_loop [3] (fun i => ∃ k : Nat, k ≤ l.length ∧ i = .int .i64 k ∧ Hd ((l.take k).all (fun n => inB n 1 4) = true)) (fun i => l.length - (intOf i).toNat)
  case atStart => exact ⟨0, Nat.zero_le _, rfl, ⟨by simp⟩⟩
  case round =>
    obtain ⟨k, hk, rfl, HA⟩ := hrel
    by_cases hlt : k < l.length
    · obtain ⟨ad, rfl, hx⟩ := C_int_at HC.out (below_alloc (Below.refl _ _) (Obj.cells #[Value.slice A l.length c] 34)) k hlt
      have HA2 := Hd.mk (all_take (fun n => inB n 1 4) l k hlt HA.out)
      cases hb : inB l[k] 1 4
      all_goals
        have Hb := Hd.mk hb; clear hb
        go_wp2_with (go_at_call 120; refine (spec_l1In _ _ _ _).mono ?_; rintro e w' ⟨rfl, rfl⟩; rw [Hb.out])
      · go_ret
        refine ⟨?_, by exact below_alloc (Below.refl _ _) _⟩
        rw [schemaOk, all_false _ l (k+1) (by rw [HA2.out]; exact Hb.out)]; rfl
      · go_round
        case rel => exact ⟨k+1, by omega, by go_num, ⟨by rw [HA2.out]; exact Hb.out⟩⟩
        case measure => simp [intOf]; omega
    · obtain rfl : k = l.length := by omega
      go_wp2_with (go_at_call 120; refine (spec_l1In _ _ _ _).mono ?_; rintro e w' ⟨rfl, rfl⟩)
      go_ret
      have := HA.out
      rw [List.take_length] at this
      exact ⟨by rw [schemaOk, this]; rfl, by exact below_alloc (Below.refl _ _) _⟩
theorem laws_eqSchema (A A2 : Option Addr) (c c2 : Nat) (l l2 : List Int) (w : World) (hr : int.C w A l) (hr2 : int.C w A2 l2) :
    Calls Try.prog 87 #[.agg #[.slice A l.length c], .agg #[.slice A2 l2.length c2]] w fun e w' => e = .returned (.bool (eqv l l2)) ∧ Below w.heap.size w w' := by
  go_enter Try.func87, Try.ntmps87
  go_wp2_with fail
  have hB0 : Below w.heap.size w ((w.alloc (Obj.cells #[.slice A l.length c] 34)).alloc (Obj.cells #[.slice A2 l2.length c2] 34)) := below_alloc (below_alloc (Below.refl _ _) _) _
  refine (laws_eqIntS _ _ _ _ l l2 _ (C_below hr hB0) (C_below hr2 hB0)).mono ?_
  rintro e w1 ⟨rfl, hB⟩
  cases hb : eqv l l2
  all_goals
    go_wp2
    go_ret
    exact ⟨by rw [hb]; rfl, below_then hB0 hB⟩
end Go.Proofs.Ytnpogfhfjofbmaa.X
