/- What is proved here: plain facts on texts: each instance of a text replaced, a text cut at a byte, the way of a patch written and read; no program in them. Conditions: none. -/
import Derived.Lib.Replace
import Derived.Lib.Split
import Derived.Lib.ItoaNum
import Derived.Lib.ItoaMem
import Derived.Lib.AtoiAll
namespace Go.Proofs.YtkgefjjgjjmklaaDoor.X
open Go.Lib
set_option linter.unusedVariables false
set_option linter.unusedSimpArgs false

/-! Replacing -/
def repAll (old new s : List UInt8) : List UInt8 := replaceK old new (count s old) s
theorem index_nil_ (old : List UInt8) (h : old ≠ []) : index [] old = -1 := by
  unfold index
  cases old with
  | nil => exact absurd rfl h
  | cons a t => rfl
theorem index_cons_no {old : List UInt8} {b : UInt8} {l : List UInt8} (h : old.isPrefixOf (b :: l) = false) : index (b :: l) old = if index l old = -1 then -1 else index l old + 1 := by
  rw [index, h]
  by_cases h2 : index l old = -1 <;> simp [h2]
theorem index_pre {old s : List UInt8} (h : old.isPrefixOf s = true) (hne : old ≠ []) : index s old = 0 := by
  cases s with
  | nil => cases old with
    | nil => exact absurd rfl hne
    | cons a t => simp at h
  | cons b l => rw [index, h]; rfl
theorem count_nil_ (old : List UInt8) (h : old ≠ []) : count [] old = 0 := count_miss (index_nil_ old h)
theorem count_cons_no {old : List UInt8} (hne : old ≠ []) {b : UInt8} {l : List UInt8} (h : old.isPrefixOf (b :: l) = false) : count (b :: l) old = count l old := by
  have h1 := index_cons_no h
  by_cases h2 : index l old = -1
  · rw [if_pos h2] at h1
    rw [count_miss h1, count_miss h2]
  · rw [if_neg h2] at h1
    have hg := index_ge l old
    obtain ⟨i, hi⟩ : ∃ i : Nat, index l old = i := ⟨(index l old).toNat, by omega⟩
    rw [hi] at h1
    rw [count_hit hne hi, count_hit hne (i := i + 1) (by rw [h1]; rfl), show i + 1 + old.length = (i + old.length) + 1 by omega, List.drop_succ_cons]
theorem replaceK_cons_no {old new : List UInt8} {b : UInt8} {l : List UInt8} (h : old.isPrefixOf (b :: l) = false) (k : Nat) : replaceK old new k (b :: l) = b :: replaceK old new k l := by
  cases k with
  | zero => rfl
  | succ k =>
    have h1 := index_cons_no h
    by_cases h2 : index l old = -1
    · rw [if_pos h2] at h1
      rw [replaceK, replaceK, h1, h2]; rfl
    · rw [if_neg h2] at h1
      have hg := index_ge l old
      obtain ⟨i, hi⟩ : ∃ i : Nat, index l old = i := ⟨(index l old).toNat, by omega⟩
      rw [hi] at h1
      rw [replaceK_hit old new k l i hi, replaceK_hit old new k (b :: l) (i + 1) (by rw [h1]; rfl), show i + 1 + old.length = (i + old.length) + 1 by omega, List.drop_succ_cons, List.take_succ_cons]
      rfl
theorem repAll_nil (old new : List UInt8) (h : old ≠ []) : repAll old new [] = [] := by
  unfold repAll
  rw [count_nil_ old h]; rfl
theorem repAll_no {old : List UInt8} (new : List UInt8) (hne : old ≠ []) {b : UInt8} {l : List UInt8} (h : old.isPrefixOf (b :: l) = false) : repAll old new (b :: l) = b :: repAll old new l := by
  unfold repAll
  rw [count_cons_no hne h, replaceK_cons_no h]
theorem repAll_hit {old : List UInt8} (new : List UInt8) (hne : old ≠ []) (r : List UInt8) : repAll old new (old ++ r) = new ++ repAll old new r := by
  have hp : old.isPrefixOf (old ++ r) = true := by simp
  have h0 : index (old ++ r) old = ((0 : Nat) : Int) := index_pre hp hne
  unfold repAll
  rw [count_hit hne h0, Nat.add_comm 1, replaceK_hit old new _ _ 0 h0, Nat.zero_add, List.drop_left]
  rfl
theorem replaceAll_eq (s old new : List UInt8) (h : old ≠ new) : replaceAll s old new = repAll old new s := by
  unfold replaceAll replace repAll replaceNum
  rw [if_neg (by simpa using h), if_pos (.inl (by omega))]
/-- One byte replaced. -/
def rep1 (c : UInt8) (new s : List UInt8) : List UInt8 := s.flatMap (fun b => if b = c then new else [b])
theorem rep1_eq (c : UInt8) (new : List UInt8) : ∀ s, repAll [c] new s = rep1 c new s
  | [] => repAll_nil _ _ (by simp)
  | b :: l => by
    have ih := rep1_eq c new l
    by_cases hb : b = c
    · subst hb
      rw [show b :: l = [b] ++ l from rfl, repAll_hit new (by simp) l, ih]
      simp [rep1]
    · rw [repAll_no new (by simp) (by simp [List.isPrefixOf]; exact fun h => absurd h.symm hb), ih]
      simp [rep1, hb]
/-- Two bytes replaced by one. -/
def rep2 (a b c : UInt8) : List UInt8 → List UInt8
  | [] => []
  | [x] => [x]
  | x :: y :: r => if x = a ∧ y = b then c :: rep2 a b c r else x :: rep2 a b c (y :: r)
theorem rep2_cons2 (a b c x y : UInt8) (r : List UInt8) : rep2 a b c (x :: y :: r) = if x = a ∧ y = b then c :: rep2 a b c r else x :: rep2 a b c (y :: r) := by rw [rep2.eq_def]
theorem rep2_eq (a b c : UInt8) : ∀ s, repAll [a, b] [c] s = rep2 a b c s
  | [] => repAll_nil _ _ (by simp)
  | [x] => by rw [repAll_no _ (by simp) (by simp [List.isPrefixOf]), repAll_nil _ _ (by simp)]; simp [rep2]
  | x :: y :: r => by
    by_cases h : x = a ∧ y = b
    · obtain ⟨rfl, rfl⟩ := h
      rw [rep2_cons2, if_pos ⟨rfl, rfl⟩, show x :: y :: r = [x, y] ++ r from rfl, repAll_hit [c] (by simp) r, rep2_eq x y c r]
      rfl
    · rw [repAll_no _ (by simp) (by simp [List.isPrefixOf]; exact fun h1 h2 => h ⟨h1.symm, h2.symm⟩), rep2_eq a b c (y :: r), rep2_cons2, if_neg h]
theorem repAll_length (old new : List UInt8) (h1 : old ≠ []) : ∀ s, (repAll old new s).length ≤ s.length * (new.length + 1) := by
  intro s
  generalize hn : s.length = n
  induction n using Nat.strongRecOn generalizing s with
  | _ n ih =>
    cases s with
    | nil => rw [repAll_nil _ _ h1]; simp
    | cons b l =>
      by_cases hp : old.isPrefixOf (b :: l) = true
      · obtain ⟨r, hr⟩ := List.isPrefixOf_iff_prefix.1 hp
        have hl : old.length + r.length = n := by rw [← hn, ← hr]; simp
        have ho : 0 < old.length := List.length_pos_iff.2 h1
        rw [← hr, repAll_hit new h1 r, List.length_append]
        have := ih r.length (by omega) r rfl
        have h2 : (r.length + 1) * (new.length + 1) ≤ n * (new.length + 1) := Nat.mul_le_mul_right _ (by omega)
        rw [Nat.add_mul] at h2
        omega
      · rw [Bool.not_eq_true] at hp
        rw [repAll_no new h1 hp]
        have := ih l.length (by rw [← hn]; simp) l rfl
        have h2 : (l.length + 1) * (new.length + 1) = n * (new.length + 1) := by rw [← hn]; simp
        rw [Nat.add_mul] at h2
        simp only [List.length_cons]
        omega

/-! Ways -/
def esc1 (b : UInt8) : List UInt8 := if b = 126 then [126, 48] else if b = 47 then [126, 49] else [b]
def esc (t : List UInt8) : List UInt8 := t.flatMap esc1
def wayT (way : List (List UInt8)) : List UInt8 := way.flatMap (fun t => 47 :: esc t)
theorem esc_eq (t : List UInt8) : rep1 47 [126, 49] (rep1 126 [126, 48] t) = esc t := by
  induction t with
  | nil => rfl
  | cons b l ih =>
    simp only [rep1, esc, List.flatMap_cons, List.flatMap_append] at ih ⊢
    rw [ih]
    congr 1
    unfold esc1
    by_cases h : b = 126
    · simp [h]
    · by_cases h2 : b = 47
      · simp [h, h2]
      · simp [h, h2]
theorem esc_cons (b : UInt8) (t : List UInt8) : esc (b :: t) = esc1 b ++ esc t := rfl
theorem esc_append (a b : List UInt8) : esc (a ++ b) = esc a ++ esc b := by simp [esc]
theorem esc_length (t : List UInt8) : (esc t).length ≤ 2 * t.length := by
  induction t with
  | nil => simp [esc]
  | cons b l ih =>
    rw [esc_cons, List.length_append]
    have : (esc1 b).length ≤ 2 := by
      unfold esc1
      split
      · simp
      · split <;> simp
    simp only [List.length_cons]
    omega
theorem esc_no (t : List UInt8) : 47 ∉ esc t := by
  induction t with
  | nil => simp [esc]
  | cons b l ih =>
    rw [esc_cons, List.mem_append]
    rintro (h | h)
    · unfold esc1 at h
      split at h
      · simp at h
      · split at h
        · simp at h
        · rename_i h2
          simp only [List.mem_singleton] at h
          exact h2 h.symm
    · exact ih h
def unesc (t : List UInt8) : List UInt8 := rep2 126 48 126 (rep2 126 49 47 t)
theorem unesc_eq (t : List UInt8) : replaceAll (replaceAll t [126, 49] [47]) [126, 48] [126] = unesc t := by
  rw [replaceAll_eq _ _ _ (by simp), replaceAll_eq _ _ _ (by simp), rep2_eq, rep2_eq]; rfl
theorem escw_eq (t : List UInt8) : replaceAll (replaceAll t [126] [126, 48]) [47] [126, 49] = esc t := by
  rw [replaceAll_eq _ _ _ (by simp), replaceAll_eq _ _ _ (by simp), rep1_eq, rep1_eq, esc_eq]
/-- Only the tilde written out. -/
def esc0 (t : List UInt8) : List UInt8 := t.flatMap (fun b => if b = 126 then [126, 48] else [b])
theorem rep2_skip (a b c x : UInt8) (r : List UInt8) (h : x ≠ a) : rep2 a b c (x :: r) = x :: rep2 a b c r := by
  cases r with
  | nil => rfl
  | cons y r => rw [rep2_cons2, if_neg (fun h2 => h h2.1)]
theorem unesc1 : ∀ t, rep2 126 49 47 (esc t) = esc0 t
  | [] => rfl
  | b :: t => by
    rw [esc_cons]
    unfold esc1
    by_cases h : b = 126
    · subst h
      rw [if_pos rfl]
      show rep2 126 49 47 (126 :: 48 :: esc t) = _
      rw [rep2_cons2, if_neg (by simp), rep2_skip _ _ _ _ _ (by decide), unesc1 t]
      simp [esc0]
    · rw [if_neg h]
      by_cases h2 : b = 47
      · subst h2
        rw [if_pos rfl]
        show rep2 126 49 47 (126 :: 49 :: esc t) = _
        rw [rep2_cons2, if_pos ⟨rfl, rfl⟩, unesc1 t]
        simp [esc0]
      · rw [if_neg h2]
        show rep2 126 49 47 (b :: esc t) = _
        rw [rep2_skip _ _ _ _ _ h, unesc1 t]
        simp [esc0, h]
theorem unesc2 : ∀ t, rep2 126 48 126 (esc0 t) = t
  | [] => rfl
  | b :: t => by
    by_cases h : b = 126
    · subst h
      show rep2 126 48 126 (126 :: 48 :: esc0 t) = _
      rw [rep2_cons2, if_pos ⟨rfl, rfl⟩, unesc2 t]
    · have : esc0 (b :: t) = b :: esc0 t := by simp [esc0, h]
      rw [this, rep2_skip _ _ _ _ _ h, unesc2 t]
theorem unesc_esc (t : List UInt8) : unesc (esc t) = t := by unfold unesc; rw [unesc1, unesc2]

/-! Cutting -/
def spl (c : UInt8) : List UInt8 → List (List UInt8)
  | [] => [[]]
  | b :: l => if b = c then [] :: spl c l else match spl c l with
    | h :: t => (b :: h) :: t
    | [] => []
theorem splitK_cons_no {c b : UInt8} (hb : b ≠ c) (l : List UInt8) (k : Nat) : splitK [c] 0 k (b :: l) = match splitK [c] 0 k l with
    | h :: t => (b :: h) :: t
    | [] => [] := by
  cases k with
  | zero => rfl
  | succ k =>
    have h1 := index_cons_no (old := [c]) (b := b) (l := l) (by simp [List.isPrefixOf]; exact fun h => absurd h.symm hb)
    by_cases h2 : index l [c] = -1
    · rw [if_pos h2] at h1
      rw [splitK, splitK, h1, h2]; rfl
    · rw [if_neg h2] at h1
      have hg := index_ge l [c]
      obtain ⟨i, hi⟩ : ∃ i : Nat, index l [c] = i := ⟨(index l [c]).toNat, by omega⟩
      have h3 : index (b :: l) [c] = ((i + 1 : Nat) : Int) := by rw [h1, hi]; rfl
      rw [splitK, splitK, h3, hi, if_neg (by simp <;> omega), if_neg (by simp <;> omega)]
      simp
theorem split_one (c : UInt8) : ∀ s, split s [c] = spl c s
  | [] => by
    unfold split
    rw [count_nil_ [c] (by simp)]; rfl
  | b :: l => by
    have ih := split_one c l
    unfold split at ih ⊢
    by_cases hb : b = c
    · subst hb
      have h0 : index (b :: l) [b] = ((0 : Nat) : Int) := index_pre (by simp [List.isPrefixOf]) (by simp)
      rw [count_hit (by simp) h0, Nat.add_comm 1, splitK, h0, if_neg (by simp)]
      simp only [spl, if_pos]
      simpa using ih
    · rw [count_cons_no (by simp) (by simp [List.isPrefixOf]; exact fun h => absurd h.symm hb), splitK_cons_no hb, ih, spl, if_neg hb]
theorem spl_none {c : UInt8} : ∀ {x : List UInt8}, c ∉ x → spl c x = [x]
  | [], _ => rfl
  | b :: l, h => by
    simp only [List.mem_cons, not_or] at h
    rw [spl, if_neg (fun e => h.1 e.symm), spl_none h.2]
theorem spl_app {c : UInt8} : ∀ {x : List UInt8} (r : List UInt8), c ∉ x → spl c (x ++ c :: r) = x :: spl c r
  | [], r, _ => by simp [spl]
  | b :: l, r, h => by
    simp only [List.mem_cons, not_or] at h
    rw [List.cons_append, spl, if_neg (fun e => h.1 e.symm), spl_app r h.2]
theorem spl_way (t : List UInt8) : ∀ w : List (List UInt8), spl 47 (esc t ++ wayT w) = esc t :: w.map esc := by
  intro w
  induction w generalizing t with
  | nil => simp [wayT]; exact spl_none (esc_no t)
  | cons t2 w ih =>
    have : wayT (t2 :: w) = 47 :: (esc t2 ++ wayT w) := by simp [wayT]
    rw [this, spl_app _ (esc_no t), ih t2]; rfl

/-! The way of a text -/
/-- As the program reads it. -/
def wayI (s : List UInt8) : Option (List (List UInt8)) :=
  if s = [] then some [] else
    let w := (split s [47]).tail.map unesc
    if 6 < w.length ∨ wayT w ≠ s then none else some w
/-- As the reference reads it: behind the first byte. -/
def dec : List UInt8 → List (List UInt8) → List UInt8 → Option (List (List UInt8))
  | [], out, now => some (out ++ [now])
  | c :: r, out, now =>
    if c = 47 then dec r (out ++ [now]) [] else
    if c = 126 then (match r with
      | [] => none
      | d :: r2 => if d = 48 then dec r2 out (now ++ [126]) else if d = 49 then dec r2 out (now ++ [47]) else none)
    else dec r out (now ++ [c])
def cut6 (o : Option (List (List UInt8))) : Option (List (List UInt8)) := match o with
  | some w => if 6 < w.length then none else some w
  | none => none
def wayS : List UInt8 → Option (List (List UInt8))
  | [] => some []
  | c :: r => if c = 47 then cut6 (dec r [] []) else none
theorem dec_cons (c : UInt8) (r : List UInt8) (out : List (List UInt8)) (now : List UInt8) : dec (c :: r) out now = if c = 47 then dec r (out ++ [now]) [] else if c = 126 then (match r with
      | [] => none
      | d :: r2 => if d = 48 then dec r2 out (now ++ [126]) else if d = 49 then dec r2 out (now ++ [47]) else none) else dec r out (now ++ [c]) := by
  rw [dec.eq_def]
theorem dec_esc (r : List UInt8) (out : List (List UInt8)) : ∀ (t now : List UInt8), dec (esc t ++ r) out now = dec r out (now ++ t)
  | [], now => by simp [esc]
  | b :: t, now => by
    rw [esc_cons, List.append_assoc]
    unfold esc1
    by_cases h : b = 126
    · subst h
      rw [if_pos rfl]
      show dec (126 :: 48 :: (esc t ++ r)) out now = _
      rw [dec_cons, if_neg (by decide), if_pos rfl]
      show (if (48 : UInt8) = 48 then dec (esc t ++ r) out (now ++ [126]) else _) = _
      rw [if_pos rfl, dec_esc r out t]; simp
    · rw [if_neg h]
      by_cases h2 : b = 47
      · subst h2
        rw [if_pos rfl]
        show dec (126 :: 49 :: (esc t ++ r)) out now = _
        rw [dec_cons, if_neg (by decide), if_pos rfl]
        show (if (49 : UInt8) = 48 then _ else if (49 : UInt8) = 49 then dec (esc t ++ r) out (now ++ [47]) else _) = _
        rw [if_neg (by decide), if_pos rfl, dec_esc r out t]; simp
      · rw [if_neg h2]
        show dec (b :: (esc t ++ r)) out now = _
        rw [dec_cons, if_neg h2, if_neg h, dec_esc r out t]; simp
theorem wayT_cons (t : List UInt8) (w : List (List UInt8)) : wayT (t :: w) = 47 :: (esc t ++ wayT w) := by simp [wayT]
theorem wayT_append (a b : List (List UInt8)) : wayT (a ++ b) = wayT a ++ wayT b := by simp [wayT]
theorem dec_way : ∀ (w out : List (List UInt8)) (now : List UInt8), dec (wayT w) out now = some (out ++ now :: w)
  | [], out, now => rfl
  | t :: w, out, now => by
    rw [wayT_cons, dec_cons, if_pos rfl, dec_esc, List.nil_append, dec_way w]; simp
theorem dec_sound : ∀ (n : Nat) (r : List UInt8) (out : List (List UInt8)) (now : List UInt8) (w : List (List UInt8)), r.length ≤ n → dec r out now = some w → wayT out ++ 47 :: (esc now ++ r) = wayT w
  | n, [], out, now, w, _, h => by
    rw [dec] at h
    injection h with h
    rw [← h, wayT_append, wayT_cons]; simp [wayT]
  | n + 1, c :: r, out, now, w, hn, h => by
    simp only [List.length_cons] at hn
    rw [dec_cons] at h
    by_cases h1 : c = 47
    · rw [if_pos h1] at h
      have := dec_sound n r _ _ w (by omega) h
      rw [← this, wayT_append, wayT_cons, h1]; simp [wayT, esc]
    · rw [if_neg h1] at h
      by_cases h2 : c = 126
      · rw [if_pos h2] at h
        cases r with
        | nil => simp at h
        | cons d r =>
          simp only [List.length_cons] at hn
          simp only at h
          by_cases h3 : d = 48
          · rw [if_pos h3] at h
            have := dec_sound n r _ _ w (by omega) h
            rw [← this, esc_append, h2, h3]; simp [esc, esc1]
          · rw [if_neg h3] at h
            by_cases h4 : d = 49
            · rw [if_pos h4] at h
              have := dec_sound n r _ _ w (by omega) h
              rw [← this, esc_append, h2, h4]; simp [esc, esc1]
            · rw [if_neg h4] at h; cases h
      · rw [if_neg h2] at h
        have := dec_sound n r _ _ w (by omega) h
        rw [← this, esc_append]; simp [esc, esc1, h1, h2]
theorem wayS_sound {s : List UInt8} {w : List (List UInt8)} (h : wayS s = some w) : s = wayT w ∧ w.length ≤ 6 := by
  cases s with
  | nil => rw [wayS] at h; injection h with h; subst h; exact ⟨rfl, by simp⟩
  | cons c r =>
    rw [wayS] at h
    split at h
    · rename_i hc
      unfold cut6 at h
      split at h
      · rename_i w2 h2
        split at h
        · cases h
        · injection h with h; subst h
          have := dec_sound _ r [] [] w2 (Nat.le_refl _) h2
          refine ⟨?_, by omega⟩
          rw [← this, hc]; simp [wayT, esc]
      · cases h
    · cases h
theorem wayS_way (w : List (List UInt8)) (h : w.length ≤ 6) : wayS (wayT w) = some w := by
  cases w with
  | nil => rfl
  | cons t w =>
    rw [wayT_cons, wayS, if_pos rfl, dec_esc, dec_way]
    simp only [cut6, List.nil_append]
    rw [if_neg (by simpa using h)]
theorem wayI_way (w : List (List UInt8)) (h : w.length ≤ 6) : wayI (wayT w) = some w := by
  cases w with
  | nil => rfl
  | cons t w =>
    have hs : (split (wayT (t :: w)) [47]).tail.map unesc = t :: w := by
      rw [split_one, wayT_cons]
      have : spl 47 (47 :: (esc t ++ wayT w)) = [] :: spl 47 (esc t ++ wayT w) := by rw [spl, if_pos rfl]
      rw [this, List.tail_cons, spl_way]
      simp only [List.map_cons, List.map_map, unesc_esc]
      congr 1
      rw [show unesc ∘ esc = id from funext unesc_esc]; simp
    unfold wayI
    rw [if_neg (by rw [wayT_cons]; simp)]
    simp only [hs]
    rw [if_neg (fun e => by
      rcases e with e | e
      · omega
      · exact e rfl)]
theorem wayI_sound {s : List UInt8} {w : List (List UInt8)} (h : wayI s = some w) : s = wayT w ∧ w.length ≤ 6 := by
  unfold wayI at h
  split at h
  · rename_i hs
    injection h with h; subst h; exact ⟨hs, by simp⟩
  · simp only at h
    split at h
    · cases h
    · rename_i h2
      injection h with h
      rw [h] at h2
      have h3 : ¬ 6 < w.length := fun e => h2 (.inl e)
      exact ⟨Classical.byContradiction fun e => h2 (.inr (fun e2 => e e2.symm)), by omega⟩
theorem way_eq (s : List UInt8) : wayI s = wayS s := by
  cases h : wayS s with
  | some w =>
    obtain ⟨rfl, hl⟩ := wayS_sound h
    exact wayI_way w hl
  | none =>
    cases h2 : wayI s with
    | none => rfl
    | some w =>
      obtain ⟨rfl, hl⟩ := wayI_sound h2
      rw [wayS_way w hl] at h; cases h
end Go.Proofs.YtkgefjjgjjmklaaDoor.X
