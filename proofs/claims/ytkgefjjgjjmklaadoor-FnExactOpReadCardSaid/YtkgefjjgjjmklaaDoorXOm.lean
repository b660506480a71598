/- What is proved here: append to a row that is full; the raw value of a step of a patch, owned. Conditions: none. -/
import Derived.Test.YtkgefjjgjjmklaaDoorXOj
import Derived.Test.YtkgefjjgjjmklaaDoorXY
import Derived.Lib.AtoiErrMem
import Derived.Lib.AppendIntMem
namespace Go.Proofs.YtkgefjjgjjmklaaDoor.X
open Go.RowKit Go.Sort
set_option linter.unusedVariables false
set_option linter.unusedSimpArgs false
open Ty
section
variable {P : Program} {ops : Array Oper} {rest : List Oper} {o : Oper} {a : Act} {Q : Exit → Act → World → Prop} {α : Type}
theorem append_full (d : Ty α) {W : World} (hgd : o.guard = none) (s x : Operand) (t e : TypeId) (z : Value) (bytes : Nat)
    (ho : o.op = .call { callee := .builtin .append, args := #[s, x], argTypes := #[t, t] })
    (ht : P.underlying t = some (.slice e)) (hinfo : (P.info? e).map (fun i => (i.zero, i.size, i.bytes)) = some (some z, d.sz, bytes)) (hz : z.cells.size = d.sz) (hsz : 0 < d.sz) (hb0 : 0 < bytes)
    {S S' : Nat → Prop} {xs ys : List α} (g : Nat) (T : Nat → Nat → Prop) (ad : Addr) (m c : Nat) (news : List Value)
    (hs : a.eval s = .slice (some ⟨g, 0, none⟩) xs.length xs.length) (hx : a.eval x = .slice (some ad) m c) (HR : d.R e W S (.slice (some ⟨g, 0, none⟩) xs.length xs.length) xs) (hm : ys.length = m) (hm0 : 0 < m) (hl : news.length = m * d.sz)
    (hnews : ∀ j u, news[j]? = some u → W.cell? (ad.add j) = some u) (h1 : ∀ u ∈ news, u.oneCell' = true)
    (hO : ∀ i y, ys[i]? = some y → d.O W (T i) y ((news.drop (i * d.sz)).take d.sz))
    (hTT : ∀ i j k, T i k → T j k → i = j) (hST : ∀ i k, T i k → ¬ S k) (hS : ∀ k, S k → S' k) (hT : ∀ i k, T i k → S' k) (hnew : ∀ k, W.heap.size ≤ k → S' k)
    (hbytes : (xs.length + m) * bytes ≤ 140737488355328)
    (h : ∀ v1 w1, d.R e w1 S' v1 (xs ++ ys) → Below W.heap.size W w1 → wpList P ops Q rest (a.put o.dst v1) w1) :
    wpList P ops Q (o :: rest) a W := by
  obtain ⟨i0, hi, hzz⟩ := Option.map_eq_some_iff.1 hinfo
  simp only [Prod.mk.injEq] at hzz
  obtain ⟨hz0, hz1, hz2⟩ := hzz
  have hlen : xs.length + m ≤ 140737488355328 := Nat.le_trans (Nat.le_mul_of_pos_right _ hb0) hbytes
  obtain ⟨inner, f, HO, hv, hE⟩ := HR
  have h63 : xs.length + m ≤ maxLen := by simp only [maxLen]; omega
  have hrun : ∃ v1 w1, (Builtin.append_ #[t, t] o.type #[.slice (some ⟨g, 0, none⟩) xs.length xs.length, .slice (some ad) m c]).run P W = .ok v1 w1 ∧ w1.ownsRow 0 e d.sz v1 (xs.length + m) (inner ++ news) ∧ Below W.heap.size W w1 ∧ v1.ownBlock = some W.heap.size := by
    have holds : ∀ j u, inner[j]? = some u → W.cell? ((⟨g, 0, none⟩ : Addr).add j) = some u := HO.cells (g := g) rfl
    have hr := run_append_grow (P := P) W t o.type e i0 z ht hi hz0 ⟨g, 0, none⟩ xs.length xs.length inner (by rw [hz1]; exact HO.1) holds ad m c news (by rw [hz1]; exact hl) hnews (by omega) (by simp only [maxLen] at h63; omega) (growslice_fits (by omega) (by rw [hz2]; exact hbytes))
    refine ⟨_, _, hr, ?_, below_alloc (below_drew (Below.refl _ _)) _, rfl⟩
    have hge := grownCap_ge W (xs.length + m) xs.length e
    have hcm : grownCap W (xs.length + m) xs.length e ≤ maxLen := grownCap_le_maxLen W (xs.length + m) xs.length e h63
    have hl2 : (inner ++ news).length = (xs.length + m) * d.sz := by rw [List.length_append, HO.1, hl, Nat.add_mul]
    refine ⟨hl2, .inr ⟨W.heap.size, _, _, rfl, Nat.zero_le _, heap_alloc_new W.drew _, hge, hcm, ?_, ?_⟩⟩
    · simp only [Array.size_append, List.size_toArray, size_zeroCells, hz, HO.1, hl, ← Nat.add_mul]
      congr 1
      omega
    · simp only [Array.toList_append, List.append_assoc]
      rw [← List.append_assoc, ← hl2]
      exact List.take_left
  obtain ⟨v1, w1, hr, hown, hg, hat⟩ := hrun
  refine wpList_plain hgd fun K hK => ?_
  unfold Oper.wp execOp
  simp only [ho, resolve, invoke, builtin, Sem.run_bind, Sem.run_pure, Result.andThen_ok, List.map_toArray, List.map_cons, List.map_nil, hs, hx, hr]
  refine hK _ _ (h v1 w1 ?_ hg)
  have hin : inner.length = xs.length * d.sz := HO.1
  have hkeep : ∀ k, k < W.heap.size → w1.heap[k]? = W.heap[k]? := fun k hk => hg.block k hk
  have hv1 : ∀ k, k < W.heap.size → some k ≠ v1.ownBlock := fun k hk he => by
    rw [hat] at he
    injection he with he
    omega
  classical
  refine ⟨inner ++ news, fun b => if ∃ j, T j b then xs.length + Classical.epsilon (fun j => T j b) else f b, by rw [List.length_append, hm]; exact hown, fun k hk => ?_, fun i y hiy => ?_⟩
  · rw [hat] at hk
    injection hk with hk
    exact hnew k (by omega)
  · rcases Nat.lt_or_ge i xs.length with hlx | hlx
    · rw [List.getElem?_append_left hlx] at hiy
      have hle : i * d.sz + d.sz ≤ inner.length := by
        have := Nat.mul_le_mul_right d.sz (show i + 1 ≤ xs.length by omega)
        rw [Nat.add_mul] at this
        omega
      have he : ((inner ++ news).drop (i * d.sz)).take d.sz = (inner.drop (i * d.sz)).take d.sz := by
        rw [List.drop_append_of_le_length (by omega), List.take_append_of_le_length (by simp; omega)]
      rw [he]
      refine d.O_mono ?_ (Ty.O_step_ d (hE i y hiy) (fun k hk hl => hkeep k hl))
      intro k hk
      refine ⟨hS k hk.1.1, hv1 k hk.2, ?_⟩
      show (if ∃ j, T j k then _ else _) = i
      rw [if_neg (fun ⟨j, hj⟩ => hST j k hj hk.1.1)]
      exact hk.1.2.2
    · rw [List.getElem?_append_right hlx] at hiy
      have he : ((inner ++ news).drop (i * d.sz)).take d.sz = (news.drop ((i - xs.length) * d.sz)).take d.sz := by
        rw [List.drop_append, List.drop_eq_nil_of_le (by rw [hin]; exact Nat.mul_le_mul_right _ hlx), List.nil_append, hin, Nat.sub_mul]
      rw [he]
      refine d.O_mono ?_ (Ty.O_step_ d (hO _ y hiy) (fun k hk hl => hkeep k hl))
      intro k hk
      refine ⟨hT _ k hk.1, hv1 k hk.2, ?_⟩
      have hex : ∃ j, T j k := ⟨_, hk.1⟩
      show (if ∃ j, T j k then _ else _) = i
      rw [if_pos hex, hTT _ _ k (Classical.epsilon_spec hex) hk.1]
      omega
end
theorem one_at {α : Type} {v u : α} {j : Nat} (h : [v][j]? = some u) : j = 0 ∧ v = u := by
  cases j with
  | zero => exact ⟨rfl, by simpa using h⟩
  | succ j => simp at h
theorem kindL_at {w : World} {A : Option Addr} (h : str.C w A kindL) (q : Nat) (h4 : q < 4) : ∃ ad : Addr, A = some ad ∧ w.cell? (ad.add q) = some (.string (kindNm ((q + 1 : Nat) : Int))) := by
  obtain ⟨ad, rfl, hc, _⟩ := C_str_at h (Below.refl _ _) q (by show q < 4; omega)
  refine ⟨ad, rfl, ?_⟩
  rw [hc]
  have : q = 0 ∨ q = 1 ∨ q = 2 ∨ q = 3 := by omega
  rcases this with rfl | rfl | rfl | rfl <;> rfl
theorem R_txt2 {m : Nat} {W0 : World} (a b : ByteArray) (ha : a.size ≤ 9223372036854775807) (hb : b.size ≤ 9223372036854775807) : (tJ (m + 1)).R 40 (W0.alloc (.cells #[.int .i64 3, .int .i64 0, .string a, .slice none 0 0, .slice none 0 0, .int .i64 3, .int .i64 0, .string b, .slice none 0 0, .slice none 0 0] 40)) (fun k => k = W0.heap.size) (.slice (some ⟨W0.heap.size, 0, none⟩) 2 2) [txt a, txt b] := by
  have hz : ∀ (s : ByteArray) (w : World) (S : Nat → Prop), s.size ≤ 9223372036854775807 → (tJ (m + 1)).O w S (txt s) [.int .i64 3, .int .i64 0, .string s, .slice none 0 0, .slice none 0 0] := fun s w S hs =>
    tJ_O.2 ⟨_, _, fun _ => False, fun _ => False, rfl, hs, R_nil, R_nil, fun _ h => h.elim, fun _ h => h.elim, fun _ h => h.elim⟩
  refine R_block (cap := 2) (xs := [txt a, txt b]) (heap_alloc_new W0 _) rfl (Nat.le_refl _) (by omega) (by simp [tJ_sz]) (fun _ => 0) (fun i x h => ?_)
  match i, h with
  | 0, h =>
    obtain rfl : txt a = x := by simpa using h
    simp only [tJ_sz]
    exact hz a _ _ ha
  | 1, h =>
    obtain rfl : txt b = x := by simpa using h
    simp only [tJ_sz]
    exact hz b _ _ hb
  | i + 2, h => simp at h
theorem kind_at {w : World} {A : Option Addr} (h : str.C w A kindL0) (q : Nat) (h1 : 1 ≤ q) (h4 : q ≤ 4) : ∃ ad : Addr, A = some ad ∧ w.cell? (ad.add q) = some (.string (kindNm (q : Int))) := by
  obtain ⟨ad, rfl, hc, _⟩ := C_str_at h (Below.refl _ _) q (by show q < 5; omega)
  refine ⟨ad, rfl, ?_⟩
  rw [hc]
  have : q = 1 ∨ q = 2 ∨ q = 3 ∨ q = 4 := by omega
  rcases this with rfl | rfl | rfl | rfl <;> rfl
theorem below_cls {w w' : World} (h : cls w w') : Below w.heap.size w w' := by
  obtain ⟨p, rfl⟩ := h
  exact below_regrown _ _ _
theorem opOk_kind {x : JOp} (h : opOk x = true) : 1 ≤ x.kind ∧ x.kind ≤ 4 := by
  unfold opOk at h
  simp only [Bool.and_eq_true] at h
  exact inB_iff.1 h.2.1
theorem kindNm_size (k : Int) : (kindNm k).size ≤ 9223372036854775807 := by
  unfold kindNm
  rw [List.getD_eq_getElem?_getD]
  cases h : kindL[(k - 1).toNat]? with
  | none => decide
  | some s =>
    have : ∀ s ∈ kindL, s.size ≤ 9223372036854775807 := by decide
    exact this s (List.mem_of_getElem? h)
theorem raw0_O {m : Nat} {w : World} {SL SN : Nat → Prop} {x : JOp} {tw : ByteArray} {vL vN : Value} (ht : tw = ⟨(wayB x.way).toArray⟩) (hL : (tJ (m + 1)).R 40 w SL vL [txt (kindNm x.kind), txt tw]) (hN : str.R 9 w SN vN [nmOp, nmPath]) (hd : ∀ k, SL k → ¬ SN k) :
    (tJ (m + 2)).O w (fun k => SL k ∨ SN k) (opRaw0 x) [.int .i64 5, .int .i64 0, .string ⟨#[]⟩, vL, vN] := by
  subst ht
  exact tJ_O.2 ⟨_, _, SL, SN, rfl, Nat.zero_le _, hL, hN, fun _ h => .inl h, fun _ h => .inr h, hd⟩
end Go.Proofs.YtkgefjjgjjmklaaDoor.X
