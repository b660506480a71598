/- What is proved here: how great a difference is; a row appended with all that it owns. Conditions: none. -/
import Derived.Test.YtnpogfhfjofbmaaXDf
import Derived.Test.YtnpogfhfjofbmaaXGe
import Derived.Test.YtnpogfhfjofbmaaXGf
import Derived.Test.YtnpogfhfjofbmaaXO
namespace Go.Proofs.Ytnpogfhfjofbmaa.X
open Go.RowKit Go.Sort
set_option linter.unusedVariables false
set_option linter.unusedSimpArgs false
open Ty
theorem sumZ_congr {α : Type} (f g : α → Int) : ∀ l : List α, (∀ x ∈ l, f x = g x) → sumZ f l = sumZ g l
  | [], _ => rfl
  | x :: l, h => by simp only [sumZ]; rw [h x (by simp), sumZ_congr f g l (fun y hy => h y (by simp [hy]))]
theorem sizeN_up : ∀ (d : Nat) (x : J), sizeN d x ≤ 400 → sizeN (d + 1) x = sizeN d x
  | 0, x, h => by simp [sizeN] at h
  | d + 1, x, h => by
    have h1 : sumZ (sizeN (d + 1)) x.list = sumZ (sizeN d) x.list := sumZ_congr _ _ _ (fun y hy => sizeN_up d y (size_part h hy))
    show (if ownB x = true ∧ 1 + sumZ (sizeN (d + 1)) x.list ≤ 400 then 1 + sumZ (sizeN (d + 1)) x.list else 401) = _
    rw [h1]; rfl
theorem sizeN_to {d e : Nat} (h : d ≤ e) {x : J} (hx : sizeN d x ≤ 400) : sizeN e x ≤ 400 := by
  obtain ⟨i, rfl⟩ : ∃ i, e = d + i := ⟨e - d, by omega⟩
  clear h
  induction i with
  | zero => exact hx
  | succ i ih => rw [← Nat.add_assoc, sizeN_up _ _ ih]; exact ih
theorem size_own {d : Nat} {x : J} (h : sizeN (d + 1) x ≤ 400) : ownB x = true ∧ sizeN (d + 1) x = 1 + sumZ (sizeN d) x.list := by
  unfold sizeN at h ⊢
  split at h
  · rename_i h1
    exact ⟨h1.1, by rw [if_pos h1]⟩
  · omega
theorem textB_size {s : ByteArray} (h : textB s = true) : s.size ≤ 60 := by
  unfold textB at h
  simp only [Bool.and_eq_true, decide_eq_true_eq] at h
  omega
theorem namesB_size {l : List ByteArray} (h : namesB l = true) : ∀ s ∈ l, s.size ≤ 60 := by
  intro s hs
  obtain ⟨k, hk, rfl⟩ := List.mem_iff_getElem.1 hs
  have h1 := List.all_eq_true.1 h k (List.mem_range.2 hk)
  rw [nameStep_at hk, Bool.and_eq_true] at h1
  exact textB_size h1.1
theorem bytes_nil' {s : ByteArray} : (s.toList == []) = true ↔ s = ByteArray.empty := by
  have : (s.toList == ByteArray.empty.toList) = true ↔ s = ByteArray.empty := bytes_eq
  simpa using this
theorem own_facts {x : J} (h : ownB x = true) : x.s.size ≤ 60 ∧ x.names.length ≤ x.list.length ∧ ∀ s ∈ x.names, s.size ≤ 60 := by
  unfold ownB at h
  split at h
  · cases h
  split at h
  · cases h
  rename_i h2
  split at h
  · cases h
  split at h
  · cases h
  rename_i h4
  have hs : x.kind ≠ 3 → x.s.size = 0 := by
    intro hk
    have : x.s.toList == [] := by
      cases hb : (x.s.toList == [])
      · simp [hb, hk] at h4
      · rfl
    rw [bytes_nil'.1 this]; rfl
  have hn : x.kind ≠ 5 → x.names = [] := by
    intro hk
    cases hb : x.names with
    | nil => rfl
    | cons a l => simp [hb, hk] at h2
  by_cases h5 : x.kind = 5
  · have h6 : (((x.names.length : Int) == x.list.length) && namesB x.names) = true := by
      rw [h5] at h; exact h
    rw [Bool.and_eq_true] at h6
    refine ⟨by have := hs (by omega); omega, by have := h6.1; simp at this; omega, namesB_size h6.2⟩
  · rw [hn h5]
    refine ⟨?_, by simp, by simp⟩
    by_cases h3 : x.kind = 3
    · rw [h3] at h
      exact textB_size h
    · have := hs h3; omega
theorem bulk_names {l : List ByteArray} (h : ∀ s ∈ l, s.size ≤ 60) : bulkStringS l ≤ 61 * l.length := by
  unfold bulkStringS
  induction l with
  | nil => simp [bulkL]
  | cons a l ih =>
    have h1 := h a (by simp)
    have h2 := ih (fun s hs => h s (by simp [hs]))
    simp only [bulkL, List.length_cons] at h2 ⊢
    omega
theorem bulkL_sum {α : Type} (f : α → Nat) (g : α → Int) (c e : Nat) : ∀ l : List α, (∀ x ∈ l, (f x : Int) + e ≤ c * g x) → (bulkL f l : Int) + e * l.length ≤ c * sumZ g l
  | [], _ => by simp [bulkL, sumZ]
  | x :: l, h => by
    have h1 := h x (by simp)
    have h2 := bulkL_sum f g c e l (fun y hy => h y (by simp [hy]))
    simp only [bulkL, sumZ, List.length_cons]
    have h3 : (c : Int) * (g x + sumZ g l) = c * g x + c * sumZ g l := by rw [Int.mul_add]
    have h4 : (e : Int) * ((l.length + 1 : Nat) : Int) = e * l.length + e := by push_cast; rw [Int.mul_add, Int.mul_one]
    rw [h3, h4]
    push_cast
    omega
theorem bulk_size : ∀ (m d : Nat) (x : J), sizeN d x ≤ 400 → (bulkJ m x : Int) + (62 : Nat) ≤ (122 : Nat) * sizeN d x
  | 0, d, x, h => by have := (sizeN_bound d x).1; simp only [bulkJ]; omega
  | m + 1, 0, x, h => by simp [sizeN] at h
  | m + 1, d + 1, x, h => by
    obtain ⟨ho, he⟩ := size_own h
    obtain ⟨h1, h2, h3⟩ := own_facts ho
    have h4 := bulk_names h3
    have h5 := bulkL_sum (bulkJ m) (sizeN d) 122 62 x.list (fun y hy => bulk_size m d y (size_part h hy))
    rw [he]
    simp only [bulkJ]
    push_cast at h5 ⊢
    omega
theorem cn_size : ∀ (m d : Nat) (x : J), sizeN d x ≤ 400 → (cnJ m x : Int) + (1 : Nat) ≤ (4 : Nat) * sizeN d x
  | 0, d, x, h => by have := (sizeN_bound d x).1; simp only [cnJ]; omega
  | m + 1, 0, x, h => by simp [sizeN] at h
  | m + 1, d + 1, x, h => by
    obtain ⟨ho, he⟩ := size_own h
    obtain ⟨h1, h2, h3⟩ := own_facts ho
    have h5 := bulkL_sum (cnJ m) (sizeN d) 4 1 x.list (fun y hy => cn_size m d y (size_part h hy))
    rw [he]
    simp only [cnJ]
    push_cast at h5 ⊢
    omega
theorem sum_len (d : Nat) : ∀ l : List J, (l.length : Int) ≤ sumZ (sizeN d) l
  | [] => by simp [sumZ]
  | x :: l => by have := sum_len d l; have := (sizeN_bound d x).1; simp only [sumZ, List.length_cons]; push_cast; omega
theorem list_len {d : Nat} {x : J} (h : sizeN (d + 1) x ≤ 400) : x.list.length ≤ 399 := by
  obtain ⟨_, he⟩ := size_own h
  have := sum_len d x.list
  omega
theorem flat_len {α : Type} (f : Nat → List α) (g : J → Int) (l : List J) (k : Nat) (hk : k ≤ l.length) (h : ∀ i (hi : i < l.length), i < k → ((f i).length : Int) ≤ 401 * g l[i]) : (((List.range k).flatMap f).length : Int) ≤ 401 * sumZ g (l.take k) := by
  induction k with
  | zero => simp [sumZ]
  | succ k ih =>
    have h1 := ih (by omega) (fun i hi hik => h i hi (by omega))
    have h2 := h k (by omega) (by omega)
    rw [flat_step, sumZ_take g l k (by omega), List.length_append]
    push_cast
    omega
theorem null_bulk (m : Nat) : bulkJ m J.null = 0 := by
  cases m with
  | zero => rfl
  | succ m => simp [bulkJ, J.null, bulkL, bulkStringS]
theorem null_cn (m : Nat) : cnJ m J.null ≤ 3 := by
  cases m with
  | zero => simp [cnJ]
  | succ m => simp [cnJ, J.null, bulkL]
theorem name_list {d : Nat} {a : J} (h : sizeN (d + 1) a ≤ 400) (s : ByteArray) (hn : ¬ nameAt a.names s < 0) : ∃ q : Nat, ∃ hq : q < a.list.length, nameAt a.names s = (q : Int) ∧ a.list.getD (nameAt a.names s).toNat J.null = a.list[q] := by
  obtain ⟨ho, _⟩ := size_own h
  obtain ⟨_, h2, _⟩ := own_facts ho
  have h3 := nameAt_pos a.names s
  refine ⟨(nameAt a.names s).toNat, by omega, by omega, ?_⟩
  rw [List.getD_eq_getElem?_getD, List.getElem?_eq_getElem (by omega)]; rfl
theorem at_list {d : Nat} {b : J} (h : sizeN (d + 1) b ≤ 400) (i : Nat) (hi : i < b.names.length) : ∃ hq : i < b.list.length, b.list.getD i J.null = b.list[i] ∧ b.names.getD i ByteArray.empty = b.names[i] ∧ b.names[i].size ≤ 60 := by
  obtain ⟨ho, _⟩ := size_own h
  obtain ⟨_, h2, h3⟩ := own_facts ho
  refine ⟨by omega, ?_, ?_, h3 _ (List.getElem_mem hi)⟩
  · rw [List.getD_eq_getElem?_getD, List.getElem?_eq_getElem (by omega)]; rfl
  · rw [List.getD_eq_getElem?_getD, List.getElem?_eq_getElem (by omega)]; rfl
theorem under_len (s : ByteArray) (l : List JOp) : (underL s l).length = l.length := by simp [underL]
theorem gone_len (a b : J) : (diffGone a b).length ≤ a.names.length := by
  unfold diffGone
  rw [List.length_map]
  exact List.length_filter_le _ _
/-- How many operations a difference has, and how great each is. -/
theorem diff_ops : ∀ (d : Nat) (a b : J), sizeN d a ≤ 400 → sizeN d b ≤ 400 → ((diffL d a b).length : Int) ≤ 401 * sizeN d b ∧ ∀ o ∈ diffL d a b, ∀ m, bulkOp m o ≤ 61 * d + 48800 ∧ cnOp m o ≤ d + 1604
  | 0, a, b, ha, hb => by simp [sizeN] at ha
  | d + 1, a, b, ha, hb => by
    obtain ⟨hoa, hea⟩ := size_own ha
    obtain ⟨hob, heb⟩ := size_own hb
    obtain ⟨_, ha2, ha3⟩ := own_facts hoa
    obtain ⟨_, hb2, hb3⟩ := own_facts hob
    have hbp := (sizeN_bound (d + 1) b).1
    have hla := list_len ha
    rw [diffL]
    split
    · exact ⟨by simp; omega, by simp⟩
    split
    · refine ⟨by simp; omega, fun o ho m => ?_⟩
      rw [List.mem_singleton] at ho
      subst ho
      have h1 := bulk_size m (d + 1) b hb
      have h2 := cn_size m (d + 1) b hb
      simp only [bulkOp, cnOp, bulkStringS, bulkL, List.length_nil]
      push_cast at h1 h2
      omega
    have hat : ∀ i (hi : i < b.names.length), ((diffAt (diffL d) a b i).length : Int) ≤ 401 * sizeN d (b.list[i]'(by omega)) ∧ ∀ o ∈ diffAt (diffL d) a b i, ∀ m, bulkOp m o ≤ 61 * (d + 1) + 48800 ∧ cnOp m o ≤ (d + 1) + 1604 := by
      intro i hi
      obtain ⟨hil, e1, e2, h60⟩ := at_list hb i hi
      have hsz := size_part hb (List.getElem_mem hil)
      have hpos := (sizeN_bound d b.list[i]).1
      unfold diffAt
      rw [e1, e2]
      split
      · refine ⟨by simp; omega, fun o ho m => ?_⟩
        rw [List.mem_singleton] at ho
        subst ho
        have h1 := bulk_size m d _ hsz
        have h2 := cn_size m d _ hsz
        simp only [bulkOp, cnOp, bulkStringS, bulkL, List.length_nil, List.length_cons]
        push_cast at h1 h2
        omega
      · rename_i hn
        obtain ⟨q, hq, _, e3⟩ := name_list ha _ hn
        rw [e3]
        obtain ⟨h1, h2⟩ := diff_ops d a.list[q] b.list[i] (size_part ha (List.getElem_mem hq)) hsz
        refine ⟨by rw [under_len]; exact h1, fun o ho m => ?_⟩
        unfold underL at ho
        obtain ⟨o', ho', rfl⟩ := List.mem_map.1 ho
        have h3 := h2 o' ho' m
        simp only [bulkOp, cnOp, bulkStringS, bulkL, List.length_cons] at h3 ⊢
        omega
    refine ⟨?_, fun o ho m => ?_⟩
    · rw [List.length_append]
      have h1 := gone_len a b
      have h2 := flat_len (diffAt (diffL d) a b) (sizeN d) b.list b.names.length hb2 (fun i _ hi => (hat i hi).1)
      have h3 := sumZ_le (sizeN d) (sizeN_pos d) b.list b.names.length
      rw [heb]
      push_cast
      omega
    · rcases List.mem_append.1 ho with ho | ho
      · unfold diffGone at ho
        obtain ⟨s, hs, rfl⟩ := List.mem_map.1 ho
        have h1 := ha3 s (List.mem_filter.1 hs).1
        have h2 := null_bulk m
        have h3 := null_cn m
        simp only [bulkOp, cnOp, bulkStringS, bulkL, List.length_nil, List.length_cons]
        omega
      · obtain ⟨i, hi, hoi⟩ := List.mem_flatMap.1 ho
        exact (hat i (List.mem_range.1 hi)).2 o hoi m
theorem diffAt_len {d : Nat} {a b : J} (ha : sizeN (d + 1) a ≤ 400) (hb : sizeN (d + 1) b ≤ 400) (i : Nat) (hi : i < b.names.length) (hil : i < b.list.length) : ((diffAt (diffL d) a b i).length : Int) ≤ 401 * sizeN d b.list[i] := by
  obtain ⟨_, e1, e2, h60⟩ := at_list hb i hi
  have hsz := size_part hb (List.getElem_mem hil)
  have hpos := (sizeN_bound d b.list[i]).1
  unfold diffAt
  rw [e1, e2]
  split
  · simp; omega
  · rename_i hn
    obtain ⟨q, hq, _, e3⟩ := name_list ha _ hn
    rw [e3, under_len]
    exact (diff_ops d a.list[q] b.list[i] (size_part ha (List.getElem_mem hq)) hsz).1
def goneK (a b : J) (k : Nat) : List JOp := ((a.names.take k).filter (fun s => decide (nameAt b.names s < 0))).map (fun s => (⟨2, [s], J.null⟩ : JOp))
theorem goneK_in (a b : J) (k : Nat) (hk : k < a.names.length) (h : ¬ nameAt b.names a.names[k] < 0) : goneK a b (k + 1) = goneK a b k := by
  unfold goneK
  rw [diffGone_step a b k hk, if_neg h, List.append_nil]
theorem goneK_out (a b : J) (k : Nat) (hk : k < a.names.length) (h : nameAt b.names a.names[k] < 0) : goneK a b (k + 1) = goneK a b k ++ [⟨2, [a.names[k]], J.null⟩] := by
  unfold goneK
  rw [diffGone_step a b k hk, if_pos h]
theorem goneK_len (a b : J) (k : Nat) : (goneK a b k).length ≤ k := by
  unfold goneK
  rw [List.length_map]
  exact Nat.le_trans (List.length_filter_le _ _) (by rw [List.length_take]; omega)
theorem goneK_all (a b : J) : goneK a b a.names.length = diffGone a b := by
  unfold goneK diffGone
  rw [List.take_length]
noncomputable def diffK (d : Nat) (a b : J) (k : Nat) : List JOp := diffGone a b ++ (List.range k).flatMap (diffAt (diffL d) a b)
theorem diffK_step (d : Nat) (a b : J) (k : Nat) : diffK d a b (k + 1) = diffK d a b k ++ diffAt (diffL d) a b k := by
  unfold diffK
  rw [flat_step, List.append_assoc]
theorem diffK_zero (d : Nat) (a b : J) : diffK d a b 0 = diffGone a b := by simp [diffK]
theorem diffK_len {d : Nat} {a b : J} (ha : sizeN (d + 1) a ≤ 400) (hb : sizeN (d + 1) b ≤ 400) (k : Nat) (hk : k ≤ b.names.length) : (diffK d a b k).length ≤ 200000 := by
  obtain ⟨hoa, hea⟩ := size_own ha
  obtain ⟨hob, heb⟩ := size_own hb
  obtain ⟨_, ha2, _⟩ := own_facts hoa
  obtain ⟨_, hb2, _⟩ := own_facts hob
  have hla := list_len ha
  have h1 := gone_len a b
  have h2 := flat_len (diffAt (diffL d) a b) (sizeN d) b.list k (by omega) (fun i hil hi => diffAt_len ha hb i (by omega) hil)
  have h3 := sumZ_le (sizeN d) (sizeN_pos d) b.list k
  unfold diffK
  rw [List.length_append]
  omega
theorem diffL_same {d : Nat} {a b : J} (h : eqv a b = true) : diffL (d + 1) a b = [] := by rw [diffL, if_pos h]
theorem diffL_kind {d : Nat} {a b : J} (h : eqv a b = false) (hk : a.kind ≠ 5 ∨ b.kind ≠ 5) : diffL (d + 1) a b = [⟨3, [], b⟩] := by rw [diffL, if_neg (by simp [h]), if_pos hk]
theorem diffL_obj {d : Nat} {a b : J} (h : eqv a b = false) (ha : a.kind = 5) (hb : b.kind = 5) : diffL (d + 1) a b = diffK d a b b.names.length := by rw [diffL, if_neg (by simp [h]), if_neg (by omega)]; rfl
theorem diffAt_new {d : Nat} {a b : J} (hb : sizeN (d + 1) b ≤ 400) (i : Nat) (hi : i < b.names.length) (hil : i < b.list.length) (h : nameAt a.names b.names[i] < 0) : diffAt (diffL d) a b i = [⟨1, [b.names[i]], b.list[i]⟩] := by
  obtain ⟨_, e1, e2, h60⟩ := at_list hb i hi
  unfold diffAt
  rw [e1, e2, if_pos h]
theorem diffAt_old {d : Nat} {a b : J} (hb : sizeN (d + 1) b ≤ 400) (i : Nat) (hi : i < b.names.length) (hil : i < b.list.length) (q : Nat) (hq : q < a.list.length) (h : nameAt a.names b.names[i] = (q : Int)) : diffAt (diffL d) a b i = underL b.names[i] (diffL d a.list[q] b.list[i]) := by
  obtain ⟨_, e1, e2, h60⟩ := at_list hb i hi
  unfold diffAt
  rw [e1, e2, h, if_neg (by omega)]
  rw [List.getD_eq_getElem?_getD, List.getElem?_eq_getElem (by omega)]; rfl
theorem tJ_ne {m : Nat} {w : World} {A : Option Addr} {l : List J} (hr : (tJ m).C w A l) (h : 0 < l.length) : ∃ m', m = m' + 1 := by
  obtain ⟨ad, cs0, _, hK0, _⟩ := C_at hr (Below.refl _ _) 0 h
  cases m with
  | zero => exact hK0.elim
  | succ m => exact ⟨m, rfl⟩
theorem block_cell' {w : World} {g : Nat} {cur : Array Value} {e : TypeId} {fr : Nat × Nat} (h : w.heap[g]? = some (.cells cur e fr)) (j : Nat) : w.cell? ⟨g, j, none⟩ = cur[j]? := by
  unfold World.cell?
  rw [show w.heap[(⟨g, j, none⟩ : Addr).block]? = some (.cells cur e fr) from h]
  simp
section
variable {P : Program} {ops : Array Oper} {rest : List Oper} {o : Oper} {a : Act} {Q : Exit → Act → World → Prop}
/-- append(v, ys...): the elements and all that they own go over. -/
theorem append_move {α : Type} (d : Ty α) {W : World} (hgd : o.guard = none) (s x : Operand) (t e : TypeId) (z : Value) (bytes : Nat)
    (ho : o.op = .call { callee := .builtin .append, args := #[s, x], argTypes := #[t, t] })
    (ht : P.underlying t = some (.slice e)) (hinfo : (P.info? e).map (fun i => (i.zero, i.size, i.bytes)) = some (some z, d.sz, bytes)) (hz : z.cells.size = d.sz) (hsz : 0 < d.sz) (hb0 : 0 < bytes)
    {S S2 S' : Nat → Prop} {v : Value} {xs ys : List α} (A : Option Addr) (m c : Nat)
    (hs : a.eval s = v) (hx : a.eval x = .slice A m c) (HR : d.R e W S v xs) (HY : d.R e W S2 (.slice A m c) ys)
    (hST : ∀ k, S2 k → k < W.heap.size → ¬ S k) (hS : ∀ k, S k → S' k) (hT : ∀ k, S2 k → S' k) (hnew : ∀ k, W.heap.size ≤ k → S' k)
    (hbytes : (xs.length + ys.length) * bytes ≤ 140737488355328)
    (h : ∀ v1 w1, d.R e w1 S' v1 (xs ++ ys) → Fr W w1 S → wpList P ops Q rest (a.put o.dst v1) w1) :
    wpList P ops Q (o :: rest) a W := by
  by_cases h0 : ys.length = 0
  · obtain ⟨A1, c1, hv, _, _⟩ := R_C HY
    injection hv with h1 h2 h3
    obtain rfl : ys = [] := List.length_eq_zero_iff.1 h0
    simp only [List.length_nil] at h2 hbytes
    subst h2
    exact append_gen d (S := S) (S' := S') (v := v) (xs := xs) (ys := []) hgd s x t e z bytes ho ht hinfo hz hsz hb0 (fun _ _ => False) A 0 c [] hs hx HR rfl (by simp) (fun j u hu => by simp at hu) (fun u hu => by simp at hu) (fun i y hi => by simp at hi) (fun _ _ _ hf _ => hf.elim) (fun _ _ hf => hf.elim) hS (fun _ _ hf => hf.elim) hnew hbytes h
  · obtain ⟨g, cap, hv, _, _⟩ := R_form HY (by omega)
    injection hv with h1 h2 h3
    subst h1; subst h2; subst h3
    obtain ⟨cur, T, hb, _, _, hle, _, hcs, hTS, hTT, hO⟩ := R_parts HY
    have hml : ys.length * d.sz ≤ c * d.sz := Nat.mul_le_mul_right _ hle
    have hl : (cur.toList.take (ys.length * d.sz)).length = ys.length * d.sz := by simp; omega
    refine append_gen d (S := S) (S' := S') (v := v) (xs := xs) (ys := ys) hgd s x t e z bytes ho ht hinfo hz hsz hb0 T (some ⟨g, 0, none⟩) ys.length c (cur.toList.take (ys.length * d.sz)) hs hx HR rfl hl
      (fun j u hu => ?_) (fun u hu => ?_) (fun i y hi => ?_) hTT (fun i k hk => hST k (hTS i k hk).1 (hTS i k hk).2.2) hS (fun i k hk => hT k (hTS i k hk).1) hnew hbytes h
    · have hj : j < ys.length * d.sz := by
        have := (List.getElem?_eq_some_iff.1 hu).1
        omega
      refine ⟨_, rfl, ?_⟩
      rw [Addr.add_lit, block_cell' hb]
      rw [List.getElem?_take, if_pos hj] at hu
      simpa using hu
    · obtain ⟨j, hj⟩ := List.mem_iff_getElem?.1 hu
      have hj1 : j < ys.length * d.sz := by
        have := (List.getElem?_eq_some_iff.1 hj).1
        omega
      rw [List.getElem?_take, if_pos hj1] at hj
      have hi : j / d.sz < ys.length := Nat.div_lt_of_lt_mul (by rw [Nat.mul_comm]; exact hj1)
      have h6 := hO (j / d.sz) ys[j / d.sz] (by simp [hi])
      refine d.K_one (d.O_K h6) u ?_
      rw [List.mem_iff_getElem?]
      refine ⟨j % d.sz, ?_⟩
      rw [List.getElem?_take, if_pos (Nat.mod_lt _ hsz), List.getElem?_drop, show j / d.sz * d.sz + j % d.sz = j by rw [Nat.mul_comm]; exact Nat.div_add_mod _ _]
      exact hj
    · have hil : i < ys.length := (List.getElem?_eq_some_iff.1 hi).1
      have h6 := hO i y hi
      have h7 : i * d.sz + d.sz ≤ ys.length * d.sz := by
        have := Nat.mul_le_mul_right d.sz (show i + 1 ≤ ys.length by omega)
        rw [Nat.add_mul] at this
        omega
      rw [List.drop_take, List.take_take, Nat.min_eq_left (by omega)]
      exact h6
end
end Go.Proofs.Ytnpogfhfjofbmaa.X
