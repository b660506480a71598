/- What is proved here: contracts of the laws' own functions over values and ops. Conditions: none. -/
import Derived.Test.YtkgefjjgjjmklaaDoorXA
import Derived.Test.YtkgefjjgjjmklaaDoorX1
import Derived.Test.YtkgefjjgjjmklaaDoorXD
import Derived.Test.YtkgefjjgjjmklaaDoorXB
import Derived.WideShapes
namespace Go.Proofs.YtkgefjjgjjmklaaDoor.X
open Go.RowKit Go.Sort
set_option linter.unusedVariables false
set_option linter.unusedSimpArgs false
open Ty
theorem bytes_eq {a b : ByteArray} : (a.toList == b.toList) = true ↔ a = b := by
  rw [beq_iff_eq, ByteArray.toList_eq, ByteArray.toList_eq]
  exact ⟨fun h => Go.WideShapes.bytes_inj h, fun h => by rw [h]⟩
def bulkStringS (l : List ByteArray) : Nat := l.length + bulkL ByteArray.size l
def bulkJ : Nat → J → Nat
  | 0, _ => 0
  | m + 1, j => j.s.size + (j.list.length + bulkL (bulkJ m) j.list) + bulkStringS j.names
def bulkJS (m : Nat) (l : List J) : Nat := l.length + bulkL (bulkJ m) l
def bulkOp (m : Nat) (o : JOp) : Nat := bulkStringS o.way + bulkJ m o.value
def bulkOpS (m : Nat) (l : List JOp) : Nat := l.length + bulkL (bulkOp m) l
theorem ZJ : ∀ (m : Nat) (w : World) (S : Nat → Prop), (tJ (m + 1)).O w S J.null [.int .i64 0, .int .i64 0, .string ByteArray.empty, .slice none 0 0, .slice none 0 0] :=
  fun _ _ _ => tJ_O.2 ⟨_, _, fun _ => False, fun _ => False, rfl, Nat.zero_le _, R_nil, R_nil, fun _ h => h.elim, fun _ h => h.elim, fun _ h => h.elim⟩
theorem tJ_zero {m : Nat} {w : World} {A : Option Addr} {l : List J} (hr : (tJ m).C w A l) (h : 0 < l.length) (w' : World) (S : Nat → Prop) : (tJ m).O w' S J.null [.int .i64 0, .int .i64 0, .string ByteArray.empty, .slice none 0 0, .slice none 0 0] := by
  obtain ⟨ad, cs0, _, hK0, _⟩ := C_at hr (Below.refl _ _) 0 h
  cases m with
  | zero => exact hK0.elim
  | succ m => exact ZJ m w' S
set_option maxRecDepth 100000 in
theorem laws_eqStringS (A A2 : Option Addr) (c c2 : Nat) (l l2 : List ByteArray) (w : World) (hr : str.C w A l) (hr2 : str.C w A2 l2) :
    Calls Tryd.prog 16 #[.slice A l.length c, .slice A2 l2.length c2] w fun e w' => e = .returned (.bool (eqv l l2)) ∧ Below w.heap.size w w' := by
  have hm := hr.1
  have hm2 := hr2.1
  go_enter Tryd.func16, Tryd.ntmps16
  by_cases hlen : l.length = l2.length
  · have hd : ((l.length : Int) != l2.length) = false := by simp [hlen]
    have HL := Hd.mk hlen
    have HC := Hd.mk hr
    have HC2 := Hd.mk hr2
    clear hr hr2 hlen
    go_wp2
    go_loopw [5] (fun i wr => ∃ k : Nat, k ≤ l.length ∧ i = .int .i64 k ∧ Hd (l.take k = l2.take k) ∧ Hd (Below w.heap.size w wr)) (fun i _ => l.length - (intOf i).toNat)
    case atStart => exact ⟨0, Nat.zero_le _, rfl, ⟨rfl⟩, ⟨Below.refl _ _⟩⟩
    case round =>
      obtain ⟨k, hk, rfl, HK, HB⟩ := hrel
      by_cases hlt : k < l.length
      · obtain ⟨ad, rfl, hx, hsz⟩ := C_str_at HC.out HB.out k hlt
        have hlt2 : k < l2.length := by have := HL.out; omega
        obtain ⟨ad2, rfl, hx2, hsz2⟩ := C_str_at HC2.out HB.out k hlt2
        cases hb : (l[k].toList == l2[k].toList)
        rotate_left
        · go_wp2
          go_quiet (fail)
          go_wp2
          go_roundw
          case rel => 
            refine ⟨k + 1, by omega, by go_num, ⟨?_⟩, ⟨?_⟩⟩
            · have hb : l[k] = l2[k] := bytes_eq.1 hb
              rw [List.take_succ_eq_append_getElem hlt, List.take_succ_eq_append_getElem hlt2, HK.out, hb]
            · exact below_drewN HB.out _
          case measure => simp [intOf]; omega
        · have HN := Hd.mk (eqv_at k hlt hlt2 (fun h => by rw [h] at hb; simp at hb))
          go_wp2
          go_quiet (fail)
          go_wp2
          go_ret
          exact ⟨by rw [HN.out]; rfl, below_drewN HB.out _⟩
      · obtain rfl : k = l.length := by omega
        go_wp2
        go_ret
        have h1 := HK.out
        rw [List.take_length, HL.out, List.take_length] at h1
        exact ⟨by rw [eqv_iff.2 h1]; rfl, HB.out⟩
  · have hd : ((l.length : Int) != l2.length) = true := by simp; omega
    have HN := Hd.mk (eqv_len hlen)
    go_wp2
    go_ret
    exact ⟨by rw [HN.out]; rfl, Below.refl _ _⟩
end Go.Proofs.YtkgefjjgjjmklaaDoor.X
