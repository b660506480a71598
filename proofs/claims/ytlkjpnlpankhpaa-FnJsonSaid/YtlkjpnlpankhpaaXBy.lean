/- What is proved here: a row of bytes of one's own that is appended to and read as a text. Conditions: none. -/
import Derived.Test.YtlkjpnlpankhpaaXDa
import Derived.Test.YtlkjpnlpankhpaaXS
import Derived.Test.YtlkjpnlpankhpaaXY
import Derived.Laws.BytesArg
import Derived.Laws.IdiomStrings
namespace Go.Proofs.Ytlkjpnlpankhpaa.X
open Go.RowKit Go.Sort
set_option linter.unusedVariables false
set_option linter.unusedSimpArgs false
open Ty
def byI (b : UInt8) : Int := (b.toNat : Int)
/-- Bytes of one's own, in blocks from B on. -/
def Buf (w : World) (B : Nat) (v : Value) (l : List UInt8) : Prop := u8.R 5 w (fun q => B ≤ q) v (l.map byI)
theorem info_u8 : (Try.prog.info? 5).map (fun i => (i.zero, i.size, i.bytes)) = some (some (.int .u8 0), 1, 1) := by kernel_rfl
theorem Buf.below {w w1 : World} {B : Nat} {v : Value} {l : List UInt8} (h : Buf w B v l) (hb : Below w.heap.size w w1) : Buf w1 B v l := R_below h hb
theorem Buf.form {w : World} {B : Nat} {v : Value} {l : List UInt8} (h : Buf w B v l) : ∃ A c, v = .slice A l.length c ∧ u8.C w A (l.map byI) := by
  obtain ⟨A, c, hv, _, hC⟩ := R_C h
  rw [List.length_map] at hv
  exact ⟨A, c, hv, hC⟩
theorem buf_empty (W : World) (B : Nat) (h : B ≤ W.heap.size) : Buf (W.alloc (.cells #[] 5)) B (.slice (some ⟨W.heap.size, 0, none⟩) 0 0) [] :=
  R_mono (fun k hk => Nat.le_trans h hk) (R_empty u8 5 W)
theorem buf_lit (W : World) (B : Nat) (h : B ≤ W.heap.size) (vs : List UInt8) (C : Array Value) (hC : C = (vs.map (fun b => Value.int .u8 (byI b))).toArray) (hl : vs.length ≤ 9223372036854775807) : u8.C (W.alloc (.cells C 5)) (some ⟨W.heap.size, 0, none⟩) (vs.map byI) := by
  subst hC
  refine ⟨?_, fun i x hx => ⟨⟨W.heap.size, 0, none⟩, [.int .u8 x], rfl, rfl, fun j u hu => ?_⟩⟩
  · rw [List.length_map]; exact hl
  · obtain ⟨rfl, rfl⟩ : j = 0 ∧ u = .int .u8 x := by
      cases j with
      | zero => simpa using hu.symm
      | succ j => simp at hu
    have e : (⟨W.heap.size, 0, none⟩ : Addr).add (i * u8.sz + 0) = ⟨W.heap.size, i, none⟩ := by
      show (⟨W.heap.size, 0, none⟩ : Addr).add (i * 1 + 0) = _
      unfold Addr.add; split <;> simp_all
    rw [e]
    refine (Blk.new W _ 5).cell i ?_
    rw [List.getElem?_toArray, List.getElem?_map]
    rw [List.getElem?_map] at hx
    obtain ⟨y, hy, rfl⟩ := Option.map_eq_some_iff.1 hx
    rw [hy]; rfl
/-- append(v, bytes..) of a literal row of bytes. -/
theorem append_buf {P : Program} (hP : P = Try.prog) {ops : Array Oper} {rest : List Oper} {o : Oper} {a : Act} {Q : Exit → Act → World → Prop} {W : World} {n B : Nat} (hn : W.heap.size = n) (vs : List UInt8) (C : Array Value) (hC : C = (vs.map (fun b => Value.int .u8 (byI b))).toArray) (hgd : o.guard = none) (s x : Operand)
    (ho : o.op = .call { callee := .builtin .append, args := #[s, x], argTypes := #[22, 22] }) {v : Value} {l : List UInt8} {c : Nat}
    (hs : a.eval s = v) (hx : a.eval x = .slice (some ⟨n, 0, none⟩) vs.length c) (HR : Buf W B v l) (hB : B ≤ W.heap.size) (hlen : l.length + vs.length ≤ 140737488355328)
    (h : ∀ v1 w1, Buf w1 B v1 (l ++ vs) → Fr W w1 (fun q => B ≤ q) → wpList P ops Q rest (a.put o.dst v1) w1) :
    wpList P ops Q (o :: rest) a (W.alloc (.cells C 5)) := by
  subst hn; subst hP
  have hb : Below W.heap.size W (W.alloc (.cells C 5)) := below_alloc (Below.refl _ _) _
  refine append_scal (h1 := fun _ => rfl) hgd s x 22 5 (.int .u8 0) 1 ho Try.underlying22 info_u8 rfl (by decide) (S := fun q => B ≤ q) (S' := fun q => B ≤ q) (v := v) (xs := l.map byI) (ys := vs.map byI) hs (by rw [List.length_map]; exact hx)
    (R_below HR hb) (buf_lit W B hB vs C hC (by omega)) (fun _ h => h) (fun k hk => Nat.le_trans hB (Nat.le_trans hb.size hk)) (by rw [List.length_map, List.length_map]; omega) (fun v1 w1 hr hf => h v1 w1 ?_ ?_)
  · show u8.R 5 w1 (fun q => B ≤ q) v1 ((l ++ vs).map byI)
    rw [List.map_append]; exact hr
  · exact (Fr.of_below hb _).then_ hf (fun k hk _ => hk)
/-- string(v) -/
theorem conv_buf {w : World} {A : Option Addr} {c : Nat} {l : List UInt8} (hC : u8.C w A (l.map byI)) : (convert 22 9 (.slice A l.length c)).run Try.prog w = .ok (.string ⟨l.toArray⟩) w := by
  cases A with
  | none =>
    have h0 : l = [] := by
      cases l with
      | nil => rfl
      | cons b l =>
        obtain ⟨ad, cs, h, _⟩ := hC.2 0 (byI b) rfl
        cases h
    subst h0
    rw [run_convert_bytes_nil (P := Try.prog) (w := w) 22 5 (by kernel_rfl) (by kernel_rfl) _ _ 9 (by kernel_rfl)]
    rfl
  | some a =>
    refine run_convert_bytes_back (P := Try.prog) w 22 9 5 a c l (by kernel_rfl) (by kernel_rfl) (by kernel_rfl) (fun j hj => ?_)
    obtain ⟨ad, h1, _, h2⟩ := C_u8_at hC (Below.refl _ _) j (by simpa using hj)
    injection h1 with h1
    subst h1
    rw [h2]
    simp [byI]
theorem R_emptyN {α : Type} (d : Ty α) (e : TypeId) {W : World} {n : Nat} (hn : W.heap.size = n) : d.R e (W.alloc (.cells #[] e)) (fun k => k = n) (.slice (some ⟨n, 0, none⟩) 0 0) [] := by
  subst hn
  refine R_mono (fun k hk => ?_) (R_bound (R_empty d e W))
  have h1 := hk.1; have h2 := hk.2
  simp at h2; omega
/-- append(v, bytes..) of a literal row of bytes; what is owned lies in S. -/
theorem append_bufS {P : Program} (hP : P = Try.prog) {ops : Array Oper} {rest : List Oper} {o : Oper} {a : Act} {Q : Exit → Act → World → Prop} {W : World} {n : Nat} (hn : W.heap.size = n) (vs : List UInt8) (C : Array Value) (hC : C = (vs.map (fun b => Value.int .u8 (byI b))).toArray) (hgd : o.guard = none) (s x : Operand)
    (ho : o.op = .call { callee := .builtin .append, args := #[s, x], argTypes := #[22, 22] }) {v : Value} {l : List UInt8} {c : Nat} {S : Nat → Prop}
    (hs : a.eval s = v) (hx : a.eval x = .slice (some ⟨n, 0, none⟩) vs.length c) (HR : u8.R 5 W S v (l.map byI)) (hlen : l.length + vs.length ≤ 140737488355328)
    (h : ∀ v1 w1, u8.R 5 w1 (fun q => S q ∨ W.heap.size ≤ q) v1 ((l ++ vs).map byI) → Fr W w1 S → wpList P ops Q rest (a.put o.dst v1) w1) :
    wpList P ops Q (o :: rest) a (W.alloc (.cells C 5)) := by
  subst hn; subst hP
  have hb : Below W.heap.size W (W.alloc (.cells C 5)) := below_alloc (Below.refl _ _) _
  refine append_scal (h1 := fun _ => rfl) hgd s x 22 5 (.int .u8 0) 1 ho Try.underlying22 info_u8 rfl (by decide) (S := fun k => S k ∧ k < W.heap.size) (S' := fun q => S q ∨ W.heap.size ≤ q) (v := v) (xs := l.map byI) (ys := vs.map byI) hs (by rw [List.length_map]; exact hx)
    (R_below (R_bound HR) hb) (buf_lit W 0 (Nat.zero_le _) vs C hC (by omega)) (fun _ h => .inl h.1) (fun k hk => .inr (Nat.le_trans hb.size hk)) (by rw [List.length_map, List.length_map]; omega) (fun v1 w1 hr hf => h v1 w1 ?_ ?_)
  · rw [List.map_append]; exact hr
  · exact (Fr.of_below hb _).then_ hf (fun k hk _ => hk.1)
/-- append(v, s) of one string. -/
theorem append_s1 {P : Program} (hP : P = Try.prog) {ops : Array Oper} {rest : List Oper} {o : Oper} {a : Act} {Q : Exit → Act → World → Prop} {W : World} {n : Nat} (hn : W.heap.size = n) (y : ByteArray) (hy : y.size ≤ 9223372036854775807) (hgd : o.guard = none) (s x : Operand)
    (ho : o.op = .call { callee := .builtin .append, args := #[s, x], argTypes := #[25, 25] }) {v : Value} {l : List ByteArray} {c : Nat} {S : Nat → Prop}
    (hs : a.eval s = v) (hx : a.eval x = .slice (some ⟨n, 0, none⟩) 1 c) (HR : str.R 9 W S v l) (hlen : (l.length + 1) * 16 ≤ 140737488355328)
    (h : ∀ v1 w1, str.R 9 w1 (fun q => S q ∨ W.heap.size ≤ q) v1 (l ++ [y]) → Fr W w1 S → wpList P ops Q rest (a.put o.dst v1) w1) :
    wpList P ops Q (o :: rest) a (W.alloc (.cells #[.string y] 9)) := by
  subst hn; subst hP
  have hb : Below W.heap.size W (W.alloc (.cells #[.string y] 9)) := below_alloc (Below.refl _ _) _
  refine append_str hgd s x 25 9 (.string ByteArray.empty) 16 ho Try.underlying25 info_str rfl (by decide) (S := fun k => S k ∧ k < W.heap.size) (S' := fun q => S q ∨ W.heap.size ≤ q) (v := v) (xs := l) (ys := [y]) hs hx
    (R_below (R_bound HR) hb) ⟨by simp, fun i z hz => ?_⟩ (fun _ h => .inl h.1) (fun k hk => .inr (Nat.le_trans hb.size hk)) (by simpa using hlen) (fun v1 w1 hr hf => h v1 w1 hr ((Fr.of_below hb _).then_ hf (fun k hk _ => hk.1)))
  obtain ⟨rfl, rfl⟩ : i = 0 ∧ z = y := by
    cases i with
    | zero => simpa using hz.symm
    | succ i => simp at hz
  refine ⟨⟨W.heap.size, 0, none⟩, [.string z], rfl, ⟨rfl, hy⟩, fun j u hu => ?_⟩
  obtain ⟨rfl, rfl⟩ : j = 0 ∧ u = .string z := by
    cases j with
    | zero => simpa using hu.symm
    | succ j => simp at hu
  exact (Blk.new W #[.string z] 9).cell 0 rfl
end Go.Proofs.Ytlkjpnlpankhpaa.X
