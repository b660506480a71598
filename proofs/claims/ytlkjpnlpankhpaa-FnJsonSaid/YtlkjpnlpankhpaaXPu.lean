/- What is proved here: l1Put. Conditions: none. -/
import Derived.Test.YtlkjpnlpankhpaaXY
import Derived.Test.YtlkjpnlpankhpaaXS
import Derived.Test.YtlkjpnlpankhpaaXDa
import Derived.Test.YtlkjpnlpankhpaaXBy
import Derived.Test.YtlkjpnlpankhpaaXG
namespace Go.Proofs.Ytlkjpnlpankhpaa.X
open Go.RowKit Go.Sort
set_option linter.unusedVariables false
set_option linter.unusedSimpArgs false
open Ty
/-- Cells as they are: nothing is owned. -/
def raw (n : Nat) : Ty (List Value) where
  sz := n
  K := fun _ x cs => cs = x ∧ x.length = n ∧ ∀ u ∈ x, u.oneCell' = true
  O := fun _ _ x cs => cs = x ∧ x.length = n ∧ ∀ u ∈ x, u.oneCell' = true
  K_len := fun h => by rw [h.1]; exact h.2.1
  K_one := fun h u hu => h.2.2 u (h.1 ▸ hu)
  K_below := fun _ h => h
  O_K := fun h => h
  O_mono := fun _ h => h
  O_bound := fun h => h
  O_move := fun _ h => h
theorem R_of_raw {α : Type} (d : Ty α) {e : TypeId} {w : World} {S S' : Nat → Prop} {v : Value} {LC : List (List Value)} {L : List α} (h : (raw d.sz).R e w S v LC) (hl : L.length = LC.length) (T : Nat → Nat → Prop)
    (hO : ∀ i x cs, L[i]? = some x → LC[i]? = some cs → d.O w (T i) x cs) (hd : ∀ i j b, T i b → T j b → i = j) (hT : ∀ i b, T i b → S' b ∧ ¬ S b) (hS : ∀ k, S k → S' k) : d.R e w S' v L := by
  classical
  obtain ⟨inner, f, ho, hv, hx⟩ := h
  refine ⟨inner, fun b => Classical.epsilon (fun i => T i b), by rw [hl]; exact ho, fun k hk => hS k (hv k hk), fun i x hi => ?_⟩
  have hlt : i < LC.length := by rw [← hl]; exact (List.getElem?_eq_some_iff.1 hi).1
  have hc := List.getElem?_eq_getElem hlt
  have he := (hx i _ hc).1
  have h1 := hO i x _ hi hc
  rw [← he] at h1
  exact d.O_mono (fun b hb => ⟨(hT i b hb).1, fun e => (hT i b hb).2 (hv b e.symm), hd _ _ b (Classical.epsilon_spec (p := fun i => T i b) ⟨i, hb⟩) hb⟩) h1
/-- The elements of a row of one's own, each with what it owns. -/
theorem R_elems {α : Type} (d : Ty α) {e : TypeId} {w : World} {S : Nat → Prop} {A : Option Addr} {n c : Nat} {xs : List α} (h : d.R e w S (.slice A n c) xs) : ∃ (C : Nat → List Value) (T : Nat → Nat → Prop),
    (∀ i x, xs[i]? = some x → d.O w (T i) x (C i)) ∧ (∀ i b, T i b → S b ∧ b < w.heap.size) ∧ (∀ i j b, T i b → T j b → i = j) ∧
    ∀ i, i < xs.length → ∃ ad, A = some ad ∧ (∀ u, (C i)[0]? = some u → w.cell? (ad.add (i * d.sz)) = some u) ∧ ∀ j u, (C i)[j + 1]? = some u → w.cell? ⟨(ad.add (i * d.sz)).block, (ad.add (i * d.sz)).off + (j + 1), none⟩ = some u := by
  by_cases h0 : xs.length = 0
  · obtain rfl := List.eq_nil_of_length_eq_zero h0
    exact ⟨fun _ => [], fun _ _ => False, by simp, by simp, by simp, by simp⟩
  · obtain ⟨g, cap, hv, _, _⟩ := R_form h (by omega)
    injection hv with h1 h2 h3
    subst h1; subst h2; subst h3
    obtain ⟨cur, T, hb, hg, _, hle, _, hcs, hTS, hTT, hO⟩ := R_parts h
    have hcell : ∀ i j u, ((cur.toList.drop (i * d.sz)).take d.sz)[j]? = some u → w.cell? ⟨g, i * d.sz + j, none⟩ = some u := by
      intro i j u hu
      have hj : j < d.sz := by
        have := (List.getElem?_eq_some_iff.1 hu).1
        rw [List.length_take] at this
        omega
      rw [List.getElem?_take, if_pos hj, List.getElem?_drop] at hu
      unfold World.cell?
      rw [show w.heap[(⟨g, i * d.sz + j, none⟩ : Addr).block]? = some (.cells cur e (0, 0)) from hb]
      simpa using hu
    refine ⟨fun i => (cur.toList.drop (i * d.sz)).take d.sz, T, hO, fun i b hb => ⟨(hTS i b hb).1, (hTS i b hb).2.2⟩, hTT, fun i hi => ⟨⟨g, 0, none⟩, rfl, fun u hu => ?_, fun j u hu => ?_⟩⟩
    · rw [Addr.add_lit, Nat.zero_add]
      exact hcell i 0 u hu
    · rw [Addr.add_lit, Nat.zero_add]
      exact hcell i (j + 1) u hu
theorem append_r1 {P : Program} (hP : P = Try.prog) {ops : Array Oper} {rest : List Oper} {o : Oper} {a : Act} {Q : Exit → Act → World → Prop} {W : World} {n : Nat} (hn : W.heap.size = n) (cs : List Value) (hcs : cs.length = 5 ∧ ∀ u ∈ cs, u.oneCell' = true) (hgd : o.guard = none) (s x : Operand)
    (ho : o.op = .call { callee := .builtin .append, args := #[s, x], argTypes := #[24, 24] }) {v : Value} {l : List (List Value)} {S : Nat → Prop}
    (hs : a.eval s = v) (hx : a.eval x = .slice (some ⟨n, 0, none⟩) 1 1) (HR : (raw 5).R 27 W S v l) (hlen : (l.length + 1) * 80 ≤ 140737488355328)
    (h : ∀ v1 w1, (raw 5).R 27 w1 (fun q => S q ∨ W.heap.size ≤ q) v1 (l ++ [cs]) → Fr W w1 S → wpList P ops Q rest (a.put o.dst v1) w1) :
    wpList P ops Q (o :: rest) a (W.alloc (.cells cs.toArray 27)) := by
  subst hn; subst hP
  exact append_one (raw 5) hgd s x 24 27 (.agg #[.int .i64 0, .int .i64 0, .string ByteArray.empty, .slice none 0 0, .slice none 0 0]) 80 ho Try.underlying24 info_JsonS rfl (by show 0 < 5; omega) (by decide) (S := S) (T := fun _ => False) (S' := fun q => S q ∨ W.heap.size ≤ q) (v := v) (xs := l) cs cs hs hx HR ⟨rfl, hcs⟩ (fun k h => h.elim) (fun k h => .inl h) (fun k h => h.elim) (fun k h => .inr h) hlen h
/-- The state of a put: has the name gone in; the names; whence the elements come (n: the new one). -/
def putIn (s : ByteArray) (n : Nat) (x : ByteArray) (t : Bool × List ByteArray × List Nat) : Bool × List ByteArray × List Nat :=
  if (!t.1 && !ltB x s) = true then (true, t.2.1 ++ [s], t.2.2 ++ [n]) else t
def putOn (s : ByteArray) (x : ByteArray) (k : Nat) (t : Bool × List ByteArray × List Nat) : Bool × List ByteArray × List Nat :=
  if (x.toList == s.toList) = true then t else (t.1, t.2.1 ++ [x], t.2.2 ++ [k])
def putS (l : List ByteArray) (s : ByteArray) (n : Nat) : Nat → Bool × List ByteArray × List Nat
  | 0 => (false, [], [])
  | k + 1 => putOn s (l.getD k ⟨#[]⟩) k (putIn s n (l.getD k ⟨#[]⟩) (putS l s n k))
def putE (l : List ByteArray) (s : ByteArray) (n : Nat) : List ByteArray × List Nat :=
  let t := putS l s n l.length
  if t.1 = true then t.2 else (t.2.1 ++ [s], t.2.2 ++ [n])
def putSrc (j v : J) (i : Nat) : J := if i = j.list.length then v else j.list.getD i J.null
/-- The object with one name more. -/
def putJ (j v : J) (s : ByteArray) : J := ⟨5, 0, ⟨#[]⟩, (putE j.names s j.list.length).2.map (putSrc j v), (putE j.names s j.list.length).1⟩
def PutI (l : List ByteArray) (s : ByteArray) (n k : Nat) (t : Bool × List ByteArray × List Nat) : Prop :=
  t.2.1.length = t.2.2.length ∧ t.2.2.length ≤ k + 1 ∧ (t.1 = false → t.2.2.length ≤ k) ∧ t.2.2.Nodup ∧ (∀ i ∈ t.2.2, i < k ∨ (i = n ∧ t.1 = true)) ∧ ∀ x ∈ t.2.1, x ∈ l ∨ x = s
theorem PutI.inn {l : List ByteArray} {s : ByteArray} {n k : Nat} {t : Bool × List ByteArray × List Nat} (h : PutI l s n k t) (hk : k ≤ n) (x : ByteArray) : PutI l s n k (putIn s n x t) := by
  unfold putIn
  split
  · rename_i hc
    have ht : t.1 = false := by cases h1 : t.1 <;> simp_all
    obtain ⟨h1, h2, h3, h4, h5, h6⟩ := h
    have h3 := h3 ht
    refine ⟨by simp; omega, by simp; omega, by simp, ?_, fun i hi => ?_, fun x hx => ?_⟩
    · simp only [List.nodup_append, List.nodup_cons, List.not_mem_nil, not_false_eq_true, List.nodup_nil, and_self, List.mem_singleton]
      refine ⟨h4, trivial, fun a ha b hb => ?_⟩
      subst hb
      rcases h5 a ha with h | ⟨_, h⟩
      · omega
      · rw [ht] at h; cases h
    · simp only [List.mem_append, List.mem_singleton] at hi
      rcases hi with hi | hi
      · rcases h5 i hi with h | ⟨_, h⟩
        · exact .inl h
        · rw [ht] at h; cases h
      · exact .inr ⟨hi, rfl⟩
    · simp only [List.mem_append, List.mem_singleton] at hx
      rcases hx with hx | hx
      · exact h6 x hx
      · exact .inr hx
  · exact h
theorem PutI.on {l : List ByteArray} {s : ByteArray} {n k : Nat} {t : Bool × List ByteArray × List Nat} (h : PutI l s n k t) (hk : k < n) {x : ByteArray} (hx : x ∈ l) : PutI l s n (k + 1) (putOn s x k t) := by
  obtain ⟨h1, h2, h3, h4, h5, h6⟩ := h
  unfold putOn
  split
  · exact ⟨h1, by omega, fun h => by have := h3 h; omega, h4, fun i hi => by rcases h5 i hi with h | h; exact .inl (by omega); exact .inr h, h6⟩
  · refine ⟨by simp; omega, by simp; omega, fun h => by have := h3 h; simp; omega, ?_, fun i hi => ?_, fun y hy => ?_⟩
    · simp only [List.nodup_append, List.nodup_cons, List.not_mem_nil, not_false_eq_true, List.nodup_nil, and_self, List.mem_singleton]
      refine ⟨h4, trivial, fun a ha b hb => ?_⟩
      subst hb
      rcases h5 a ha with h | ⟨h, _⟩ <;> omega
    · simp only [List.mem_append, List.mem_singleton] at hi
      rcases hi with hi | hi
      · rcases h5 i hi with h | h
        · exact .inl (by omega)
        · exact .inr h
      · exact .inl (by omega)
    · simp only [List.mem_append, List.mem_singleton] at hy
      rcases hy with hy | hy
      · exact h6 y hy
      · exact .inl (hy ▸ hx)
theorem putS_inv (l : List ByteArray) (s : ByteArray) (n : Nat) : ∀ k, k ≤ l.length → l.length ≤ n → PutI l s n k (putS l s n k)
  | 0, _, _ => ⟨rfl, by simp [putS], by simp [putS], by simp [putS], by simp [putS], by simp [putS]⟩
  | k + 1, hk, hn => by
    have h := putS_inv l s n k (by omega) hn
    have hx : l.getD k ⟨#[]⟩ ∈ l := by
      rw [List.getD_eq_getElem?_getD, List.getElem?_eq_getElem (by omega)]
      exact List.getElem_mem _
    exact (h.inn (by omega) _).on (by omega) hx
/-- What lies in memory in a round. -/
structure PutM (w : World) (CJ CV : Array Value) (N : List ByteArray) (LC : List (List Value)) (vN vL : Value) (P Q : Nat → Prop) (wr : World) : Prop where
  b0 : Blk wr w.heap.size CJ 27
  b1 : Blk wr (w.heap.size + 1) CV 27
  b2 : Blk wr (w.heap.size + 2) #[Value.int IntKind.i64 0, Value.int IntKind.i64 0, Value.string ⟨#[]⟩, Value.slice none 0 0, Value.slice none 0 0] 27
  b3 : Blk wr (w.heap.size + 3) #[.int .i64 5, .int .i64 0, .string ⟨#[]⟩, vL, vN] 27
  rN : str.R 9 wr P vN N
  rL : (raw 5).R 27 wr Q vL LC
  st : ∀ q, (P q → w.heap.size + 4 ≤ q ∧ q < wr.heap.size ∧ ¬ Q q) ∧ (Q q → w.heap.size + 4 ≤ q ∧ q < wr.heap.size)
  bl : Below w.heap.size w wr
  sz : w.heap.size + 4 ≤ wr.heap.size
namespace PutM
variable {w wr w1 : World} {CJ CV : Array Value} {N : List ByteArray} {LC : List (List Value)} {vN vL v1 : Value} {P Q : Nat → Prop}
theorem below (h : PutM w CJ CV N LC vN vL P Q wr) (hb : Below wr.heap.size wr w1) : PutM w CJ CV N LC vN vL P Q w1 :=
  ⟨h.b0.below hb, h.b1.below hb, h.b2.below hb, h.b3.below hb, R_below h.rN hb, R_below h.rL hb, fun q => ⟨fun hp => by have h1 := (h.st q).1 hp; have h2 := hb.size; exact ⟨h1.1, by omega, h1.2.2⟩, fun hq => by have h1 := (h.st q).2 hq; have h2 := hb.size; omega⟩, below_then h.bl hb, by have := h.sz; have := hb.size; omega⟩
theorem fr {U : Nat → Prop} (h : PutM w CJ CV N LC vN vL P Q wr) (hU : ∀ q, U q → w.heap.size + 4 ≤ q) (hf : Fr wr w1 U) : Blk w1 w.heap.size CJ 27 ∧ Blk w1 (w.heap.size + 1) CV 27 ∧ Blk w1 (w.heap.size + 2) #[Value.int IntKind.i64 0, Value.int IntKind.i64 0, Value.string ⟨#[]⟩, Value.slice none 0 0, Value.slice none 0 0] 27 ∧ Blk w1 (w.heap.size + 3) #[.int .i64 5, .int .i64 0, .string ⟨#[]⟩, vL, vN] 27 ∧ Below w.heap.size w w1 ∧ w.heap.size + 4 ≤ w1.heap.size :=
  ⟨h.b0.fr hf (fun hu => by have := hU _ hu; omega), h.b1.fr hf (fun hu => by have := hU _ hu; omega), h.b2.fr hf (fun hu => by have := hU _ hu; omega), h.b3.fr hf (fun hu => by have := hU _ hu; omega), below_frS h.bl hf (fun k hk => by have := hU _ hk; omega), by have := h.sz; have := hf.size; omega⟩
theorem frN (h : PutM w CJ CV N LC vN vL P Q wr) (hf : Fr wr w1 P) : Blk w1 w.heap.size CJ 27 ∧ Blk w1 (w.heap.size + 1) CV 27 ∧ Blk w1 (w.heap.size + 2) #[Value.int IntKind.i64 0, Value.int IntKind.i64 0, Value.string ⟨#[]⟩, Value.slice none 0 0, Value.slice none 0 0] 27 ∧ Blk w1 (w.heap.size + 3) #[.int .i64 5, .int .i64 0, .string ⟨#[]⟩, vL, vN] 27 ∧ Below w.heap.size w w1 ∧ w.heap.size + 4 ≤ w1.heap.size := h.fr (fun q hq => ((h.st q).1 hq).1) hf
theorem frL (h : PutM w CJ CV N LC vN vL P Q wr) (hf : Fr wr w1 Q) : Blk w1 w.heap.size CJ 27 ∧ Blk w1 (w.heap.size + 1) CV 27 ∧ Blk w1 (w.heap.size + 2) #[Value.int IntKind.i64 0, Value.int IntKind.i64 0, Value.string ⟨#[]⟩, Value.slice none 0 0, Value.slice none 0 0] 27 ∧ Blk w1 (w.heap.size + 3) #[.int .i64 5, .int .i64 0, .string ⟨#[]⟩, vL, vN] 27 ∧ Below w.heap.size w w1 ∧ w.heap.size + 4 ≤ w1.heap.size := h.fr (fun q hq => ((h.st q).2 hq).1) hf
theorem setB (w1 : World) (g j : Nat) (u : Value) (hg : w.heap.size ≤ g) (h : Below w.heap.size w w1) : Below w.heap.size w (w1.setCell ⟨g, j, none⟩ u) :=
  below_frS h (Fr.setCell (S := fun k => k = g) (Fr.refl _ _) _ (fun _ => rfl) _) (fun k hk => by have : k = g := hk; omega)
theorem name (h : PutM w CJ CV N LC vN vL P Q wr) {y : ByteArray} (hv : str.R 9 w1 (fun q => P q ∨ wr.heap.size ≤ q) v1 (N ++ [y])) (hf : Fr wr w1 P) :
    PutM w CJ CV (N ++ [y]) LC v1 vL (fun q => (P q ∨ wr.heap.size ≤ q) ∧ q < w1.heap.size) Q (w1.setCell ⟨w.heap.size + 3, 4, none⟩ v1) := by
  obtain ⟨b0, b1, b2, b3, bl, sz⟩ := h.frN hf
  have hz := hf.size
  have hs := h.sz
  refine ⟨b0.other _ (by (try simp only); omega) _, b1.other _ (by (try simp only); omega) _, b2.other _ (by (try simp only); omega) _, b3.set 4 v1, R_setCell (R_bound hv) (fun hp => ?_) _, R_setCell (R_fr h.rL hf (fun k hk _ hp => ((h.st k).1 hp).2.2 hk)) (fun hq => by have := ((h.st _).2 hq).1; (try simp only at this); omega) _, fun q => ⟨fun hp => ?_, fun hq => ?_⟩, setB w1 _ _ _ (by omega) bl, by simpa using sz⟩
  · obtain ⟨hp, _⟩ := hp
    (try simp only at hp)
    rcases hp with hp | hp
    · have := ((h.st _).1 hp).1; omega
    · omega
  · obtain ⟨hp, hl⟩ := hp
    have hl2 : q < (w1.setCell ⟨w.heap.size + 3, 4, none⟩ v1).heap.size := by simpa using hl
    rcases hp with hp | hp
    · have := (h.st q).1 hp
      exact ⟨this.1, hl2, this.2.2⟩
    · exact ⟨by omega, hl2, fun hq => by have := ((h.st q).2 hq).2; omega⟩
  · have := (h.st q).2 hq
    exact ⟨this.1, by simp; omega⟩
theorem elem (h : PutM w CJ CV N LC vN vL P Q wr) {cs : List Value} (hv : (raw 5).R 27 w1 (fun q => Q q ∨ wr.heap.size ≤ q) v1 (LC ++ [cs])) (hf : Fr wr w1 Q) :
    PutM w CJ CV N (LC ++ [cs]) vN v1 P (fun q => (Q q ∨ wr.heap.size ≤ q) ∧ q < w1.heap.size) (w1.setCell ⟨w.heap.size + 3, 3, none⟩ v1) := by
  obtain ⟨b0, b1, b2, b3, bl, sz⟩ := h.frL hf
  have hz := hf.size
  have hs := h.sz
  refine ⟨b0.other _ (by (try simp only); omega) _, b1.other _ (by (try simp only); omega) _, b2.other _ (by (try simp only); omega) _, b3.set 3 v1, R_setCell (R_fr h.rN hf (fun k hk _ hp => ((h.st k).1 hk).2.2 hp)) (fun hq => by have := ((h.st _).1 hq).1; (try simp only at this); omega) _, R_setCell (R_bound hv) (fun hp => ?_) _, fun q => ⟨fun hp => ?_, fun hq => ?_⟩, setB w1 _ _ _ (by omega) bl, by simpa using sz⟩
  · obtain ⟨hp, _⟩ := hp
    (try simp only at hp)
    rcases hp with hp | hp
    · have := ((h.st _).2 hp).1; omega
    · omega
  · have := (h.st q).1 hp
    refine ⟨this.1, by simp; omega, fun hq => ?_⟩
    rcases hq.1 with hq | hq
    · exact this.2.2 hq
    · omega
  · obtain ⟨hp, hl⟩ := hq
    have hl2 : q < (w1.setCell ⟨w.heap.size + 3, 3, none⟩ v1).heap.size := by simpa using hl
    rcases hp with hp | hp
    · exact ⟨((h.st q).2 hp).1, hl2⟩
    · exact ⟨by omega, hl2⟩
end PutM
end Go.Proofs.Ytlkjpnlpankhpaa.X
