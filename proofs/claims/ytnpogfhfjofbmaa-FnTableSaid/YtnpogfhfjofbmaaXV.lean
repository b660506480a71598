/- What is proved here: slices.Delete of one row out of a row of rows of one's own. Conditions: none. -/
import Derived.Test.YtnpogfhfjofbmaaXQ
import Derived.Deep.RegionLaw
import Derived.Lib.Walk
import Derived.Shelf.RegionOpenPlain
import Derived.Lib.SliceRun
namespace Go.Proofs.Ytnpogfhfjofbmaa.X
open Go.RowKit Go.Sort
set_option linter.unusedVariables false
set_option linter.unusedSimpArgs false
open Ty
theorem over_get {α : Type} (l : List α) (o : Nat) (vs : List α) (h : o + vs.length ≤ l.length) (k : Nat) : (over l o vs)[k]? = if o ≤ k ∧ k < o + vs.length then vs[k - o]? else l[k]? := by
  unfold over
  have h1 : (l.take o).length = o := by simp; omega
  rcases Nat.lt_or_ge k o with hk | hk
  · rw [if_neg (by omega), List.append_assoc, List.getElem?_append_left (by omega), List.getElem?_take, if_pos hk]
  · rw [List.append_assoc, List.getElem?_append_right (by omega), h1]
    rcases Nat.lt_or_ge k (o + vs.length) with hk2 | hk2
    · rw [if_pos ⟨hk, hk2⟩, List.getElem?_append_left (by omega)]
    · rw [if_neg (by omega), List.getElem?_append_right (by omega), List.getElem?_drop]
      congr 1
      omega
theorem cut_eq {α : Type} (l m : List α) (a b n : Nat) (h : ∀ k, k < n → l[a + k]? = m[b + k]?) : (l.drop a).take n = (m.drop b).take n := by
  apply List.ext_getElem?
  intro k
  rw [List.getElem?_take, List.getElem?_take]
  split
  · rw [List.getElem?_drop, List.getElem?_drop]
    exact h k (by assumption)
  · rfl
theorem block_cell {w : World} {g : Nat} {cur : Array Value} {e : TypeId} {fr : Nat × Nat} (h : w.heap[g]? = some (.cells cur e fr)) (j : Nat) : w.cell? ⟨g, j, none⟩ = cur[j]? := by
  unfold World.cell?
  rw [show w.heap[(⟨g, j, none⟩ : Addr).block]? = some (.cells cur e fr) from h]
  simp
theorem block_frozen {w : World} {g : Nat} {cur : Array Value} {e : TypeId} (h : w.heap[g]? = some (.cells cur e (0, 0))) (j : Nat) : w.frozen? ⟨g, j, none⟩ = false := by
  simp [World.frozen?, h]
theorem parts_one {α : Type} {d : Ty α} {w : World} {cur : Array Value} {T : Nat → Nat → Prop} {xs : List α} (hO : ∀ i x, xs[i]? = some x → d.O w (T i) x ((cur.toList.drop (i * d.sz)).take d.sz)) {k : Nat} (hk : k < xs.length * d.sz) {u : Value} (hu : cur.toList[k]? = some u) : u.oneCell' = true := by
  have hsz : 0 < d.sz := by
    rcases Nat.eq_zero_or_pos d.sz with h | h
    · rw [h] at hk; omega
    · exact h
  have hi : k / d.sz < xs.length := Nat.div_lt_of_lt_mul (by rw [Nat.mul_comm]; exact hk)
  have h1 := hO (k / d.sz) xs[k / d.sz] (by simp [hi])
  refine d.K_one (d.O_K h1) u ?_
  rw [List.mem_iff_getElem?]
  refine ⟨k % d.sz, ?_⟩
  rw [List.getElem?_take, if_pos (Nat.mod_lt _ hsz), List.getElem?_drop, Nat.mul_comm, Nat.div_add_mod]
  exact hu
theorem zero1 (a b : Value) : (Builtin.zeroCells #[a, b] 1).toList = [a, b] := by
  simp [Builtin.zeroCells, show Array.range 2 = #[0, 1] from rfl]
set_option maxHeartbeats 4000000 in
set_option maxRecDepth 1000000 in
theorem slices_Delete_row {S : Nat → Prop} (g c i : Nat) (l : List Row) (w : World) (hR : tRow.R 41 w S (.slice (some ⟨g, 0, none⟩) l.length c) l) (hi : i < l.length) :
    Calls Try.prog 133 #[.slice (some ⟨g, 0, none⟩) l.length c, .int .i64 i, .int .i64 (i + 1)] w fun e w' => ∃ v, e = .returned v ∧ tRow.R 41 w' S v (l.eraseIdx i) ∧ Fr w w' S := by
  obtain ⟨cur, T, hh, hg, _, hn, hm, hsz, hT, hd, hO⟩ := R_parts hR
  have hsz : cur.size = c * 2 := hsz
  have hO : ∀ i x, l[i]? = some x → tRow.O w (T i) x ((cur.toList.drop (i * 2)).take 2) := hO
  obtain ⟨news, hnews⟩ : ∃ news, news = (cur.toList.drop ((i + 1) * 2)).take ((l.length - (i + 1)) * 2) := ⟨_, rfl⟩
  have hlen : news.length = (l.length - (i + 1)) * 2 := by rw [hnews]; simp; omega
  have hget : ∀ t, t < (l.length - (i + 1)) * 2 → news[t]? = cur.toList[(i + 1) * 2 + t]? := fun t ht => by
    rw [hnews, List.getElem?_take, if_pos ht, List.getElem?_drop]
  have hone : ∀ u ∈ news, u.oneCell' = true := fun u hu => by
    obtain ⟨t, ht⟩ := List.mem_iff_getElem?.1 hu
    have ht1 : t < (l.length - (i + 1)) * 2 := by
      have := (List.getElem?_eq_some_iff.1 ht).1
      omega
    rw [hget t ht1] at ht
    exact parts_one (d := tRow) (T := T) (xs := l) hO (k := (i + 1) * 2 + t) (by show _ < l.length * 2; omega) ht
  obtain ⟨A, hA, hsrc⟩ : ∃ A : Addr, (if c = i + 1 then some (⟨g, 0, none⟩ : Addr) else some ⟨g, (i + 1) * 2, none⟩) = some A ∧ Hd (∀ t u, news[t]? = some u → w.drew.cell? (A.add t) = some u) := by
    by_cases h : c = i + 1
    · refine ⟨⟨g, 0, none⟩, by simp [h], ⟨fun t u hu => ?_⟩⟩
      have h0 : news = [] := List.eq_nil_of_length_eq_zero (by rw [hlen]; omega)
      rw [h0] at hu
      simp at hu
    · refine ⟨⟨g, (i + 1) * 2, none⟩, by simp [h], ⟨fun t u hu => ?_⟩⟩
      have ht1 : t < (l.length - (i + 1)) * 2 := by
        have := (List.getElem?_eq_some_iff.1 hu).1
        omega
      rw [hget t ht1] at hu
      rw [Addr.add_lit]
      show w.cell? _ = _
      rw [block_cell hh]
      simpa using hu
  have s3 : Hd (∀ t, t < news.length → (w.drew.cell? ⟨g, 0 + i * 2 + t, none⟩).isSome = true ∧ w.drew.frozen? ⟨g, 0 + i * 2 + t, none⟩ = false) := ⟨fun t ht => by
    refine ⟨?_, block_frozen hh _⟩
    show (w.cell? _).isSome = true
    rw [block_cell hh, Array.getElem?_eq_getElem (by omega)]
    rfl⟩
  have s1 := Hd.mk hlen
  have s2 := Hd.mk hone
  obtain ⟨W1, hW1⟩ : ∃ W1, W1 = w.drew.setCells g (0 + i * 2) news := ⟨_, rfl⟩
  obtain ⟨cur1, hh1, hl1⟩ := heap_setCells news (0 + i * 2) w.drew cur hh (by omega)
  rw [← hW1] at hh1
  have hs1 : cur1.size = cur.size := by
    have := congrArg List.length hl1
    rw [over_length _ _ _ (by simp; omega)] at this
    simpa using this
  have hcl : ∀ ty, (Builtin.clear_ #[68] ty #[.slice (some ⟨g, (i + (l.length - (i + 1))) * 2, none⟩) (l.length - (i + (l.length - (i + 1)))) (c - (i + (l.length - (i + 1))))]).run Try.prog W1 = .ok (.tuple #[]) (W1.setCells g ((i + (l.length - (i + 1))) * 2) [.int .i64 0, .slice none 0 0]) := fun ty => by
    have h1 : l.length - (i + (l.length - (i + 1))) = 1 := by omega
    rw [h1]
    have hp : ∀ j, j < 2 → (W1.cell? ⟨g, (i + (l.length - (i + 1))) * 2 + j, none⟩).isSome = true := fun j hj => by
      rw [block_cell hh1, Array.getElem?_eq_getElem (by omega)]
      rfl
    have hzc : (Builtin.zeroCells (Value.agg #[.int .i64 0, .slice none 0 0]).cells 1).toList = [.int .i64 0, .slice none 0 0] := zero1 _ _
    rw [← hzc]
    exact run_clear_wide (P := Try.prog) W1 68 41 ty (.agg #[.int .i64 0, .slice none 0 0]) (by rw [Try.underlying68]) (fun w => by rw [Try.zeroValue41]) (by simp [Value.cells, Value.oneCell']) g ((i + (l.length - (i + 1))) * 2) 1 (c - (i + (l.length - (i + 1)))) (by omega) hp (fun j hj => block_frozen hh1 _)
  obtain ⟨W2, hW2⟩ : ∃ W2, W2 = W1.setCells g ((i + (l.length - (i + 1))) * 2) [.int .i64 0, .slice none 0 0] := ⟨_, rfl⟩
  obtain ⟨cur2, hh2, hl2⟩ := heap_setCells [.int .i64 0, .slice none 0 0] ((i + (l.length - (i + 1))) * 2) W1 cur1 hh1 (by simp; omega)
  rw [← hW2] at hh2
  have hs2 : cur2.size = cur.size := by
    have := congrArg List.length hl2
    rw [over_length _ _ _ (by simp; omega)] at this
    simpa [hs1] using this
  have hne : ∀ k, k ≠ g → W2.heap[k]? = w.heap[k]? := fun k hk => by
    rw [hW2, heap_setCells_ne _ _ _ _ hk, hW1, heap_setCells_ne _ _ _ _ hk]; rfl
  have hfr : Fr w W2 S := by
    rw [hW2, hW1]
    exact setCells_fr (fun _ => hg) _ _ _ (setCells_fr (fun _ => hg) _ _ _ (Fr.refl w S).drew)
  have hfin : tRow.R 41 W2 S (.slice (some ⟨g, 0, none⟩) (l.eraseIdx i).length c) (l.eraseIdx i) := by
    have hel : (l.eraseIdx i).length = l.length - 1 := by rw [List.length_eraseIdx, if_pos hi]
    refine R_of_parts (cur := cur2) hh2 hg (by omega) hm (by rw [hs2]; exact hsz) (fun j => if j < i then T j else T (j + 1)) (fun j b hb => ?_) (fun j k b hj hk => ?_) (fun j x hx => ?_)
    · have : S b ∧ b ≠ g ∧ b < w.heap.size := by
        by_cases h : j < i
        · simp only [if_pos h] at hb; exact hT _ _ hb
        · simp only [if_neg h] at hb; exact hT _ _ hb
      exact ⟨this.1, this.2.1⟩
    · by_cases h : j < i <;> by_cases h' : k < i
      · simp only [if_pos h, if_pos h'] at hj hk; exact hd _ _ _ hj hk
      · simp only [if_pos h, if_neg h'] at hj hk; have := hd _ _ _ hj hk; omega
      · simp only [if_neg h, if_pos h'] at hj hk; have := hd _ _ _ hj hk; omega
      · simp only [if_neg h, if_neg h'] at hj hk; have := hd _ _ _ hj hk; omega
    · have hjl : j < l.length - 1 := by rw [← hel]; exact (List.getElem?_eq_some_iff.1 hx).1
      rw [List.getElem?_eraseIdx] at hx
      by_cases h : j < i
      · rw [if_pos h] at hx
        simp only [if_pos h]
        have he : (cur2.toList.drop (j * 2)).take 2 = (cur.toList.drop (j * 2)).take 2 := cut_eq _ _ _ _ _ (fun k hk => by
          rw [hl2, over_get _ _ _ (by simp; omega), if_neg (by omega), hl1, over_get _ _ _ (by simp; omega), if_neg (by omega)])
        show tRow.O W2 (T j) x ((cur2.toList.drop (j * 2)).take 2)
        rw [he]
        exact tRow.O_move (fun k hk => hne k (hT _ _ hk).2.1) (hO j x hx)
      · rw [if_neg h] at hx
        simp only [if_neg h]
        have he : (cur2.toList.drop (j * 2)).take 2 = (cur.toList.drop ((j + 1) * 2)).take 2 := cut_eq _ _ _ _ _ (fun k hk => by
          rw [hl2, over_get _ _ _ (by simp; omega), if_neg (by omega), hl1, over_get _ _ _ (by simp; omega), if_pos (by omega), hget _ (by omega)]
          congr 1; omega)
        show tRow.O W2 (T (j + 1)) x ((cur2.toList.drop (j * 2)).take 2)
        rw [he]
        exact tRow.O_move (fun k hk => hne k (hT _ _ hk).2.1) (hO (j + 1) x hx)
  have HF := Hd.mk hfin; have HFR := Hd.mk hfr
  have hlenE := Hd.mk (show (l.eraseIdx i).length = i + (l.length - (i + 1)) by rw [List.length_eraseIdx, if_pos hi]; omega)
  have hW := Hd.mk hW1
  rw [← hW2] at hcl
  have hic : i ≤ c := by omega
  have hjc : i + 1 ≤ c := by omega
  have hij : (i : Int) ≤ (i : Int) + 1 := by omega
  have hi0 : (0 : Int) ≤ (i : Int) + 1 := by omega
  have mixed : Try.prog.follows .mixedOrders = true := by kernel_rfl
  have hil : (i : Int) + 1 ≤ (l.length : Int) := by omega
  clear hfin hfr hW1 hW2 hh1 hh2 hl1 hl2 hs1 hs2 hne hnews hlen hget hone hT hd hO hh hR
  go_enter Try.func133, Try.ntmps133
  go_wp2_with fail
  obtain ⟨i0, hif, hzz⟩ := Option.map_eq_some_iff.1 info_RowS
  simp only [Prod.mk.injEq] at hzz
  obtain ⟨hz0, hz1, hz2⟩ := hzz
  go_region_law_o (refine step_append_room rfl (.tmp 22) (.tmp 25) 68 rfl 41 i0 2 (by rw [Try.underlying68]) hif hz1 g 0 i c (by simp [Act.eval, Act.put]) A (l.length - (i + 1)) (c - (i + 1)) news (by simp [Act.eval, Act.put]) s1.out hsrc.out s2.out (by omega) s3.out ?_; rw [← hW.out])
  go_wp2
  go_ret
  have e := hlenE.out
  have h := HF.out
  rw [e] at h
  exact ⟨_, rfl, h, HFR.out⟩
theorem idxF_cases {α : Type} (p : α → Bool) (l : List α) : (idxF p l = -1 ∧ l.findIdx p = l.length) ∨ (idxF p l = (l.findIdx p : Int) ∧ l.findIdx p < l.length) := by
  unfold idxF
  by_cases h : l.findIdx p < l.length
  · exact .inr ⟨if_pos h, h⟩
  · have := List.findIdx_le_length (xs := l) (p := p)
    exact .inl ⟨if_neg h, by omega⟩
set_option maxRecDepth 100000 in
theorem impl_RowDrop (A : Option Addr) (c : Nat) (l : List Row) (n : Int) (w : World) (hr : tRow.C w A l) (hl : bulkRowS l ≤ 4194304) :
    Calls Try.prog 45 #[.slice A l.length c, .int .i64 n] w fun e w' => ∃ v, e = .returned v ∧ tRow.R 41 w' (fun k => w.heap.size ≤ k) v (rowDrop l n) ∧ Below w.heap.size w w' := by
  have HC := Hd.mk hr; clear hr
  go_enter Try.func45, Try.ntmps45
  go_wp2_with fail
  refine (impl_copyRows _ _ l w HC.out hl).mono ?_
  rintro e w1 ⟨v, rfl, hv, hX⟩
  have HX := Hd.mk hX; clear hX
  have HV := Hd.mk hv; clear hv
  go_wp2_with fail
  refine (impl_RowAt _ _ l n w1 (C_below HC.out HX.out)).mono ?_
  rintro e w2 ⟨rfl, hX⟩
  have HX2 := Hd.mk (below_then HX.out hX)
  have HV2 := Hd.mk (R_below HV.out hX); clear hX HV
  rcases idxF_cases (fun r : Row => r.id == n) l with ⟨h1, h2⟩ | ⟨h1, h2⟩
  · rw [show rowAt l n = -1 from h1]
    have HE := Hd.mk (show rowDrop l n = l by unfold rowDrop; rw [h2, List.eraseIdx_of_length_le (Nat.le_refl _)])
    clear h1 h2
    go_wp2_with fail
    go_ret
    exact ⟨_, rfl, by rw [HE.out]; exact HV2.out, HX2.out⟩
  · rw [show rowAt l n = (l.findIdx (fun r : Row => r.id == n) : Int) from h1]
    have HE := Hd.mk (show rowDrop l n = l.eraseIdx (l.findIdx (fun r : Row => r.id == n)) from rfl)
    clear h1
    generalize l.findIdx (fun r : Row => r.id == n) = q at HE h2 ⊢
    obtain ⟨g, cap, rfl, _, _⟩ := R_form HV2.out (by omega)
    have hq : (0 : Int) ≤ (q : Int) := by omega
    have hq2 : (q : Int) + 1 ≤ 4194304 := by have : l.length ≤ 4194304 := by (simp only [bulkRowS] at hl; omega)
                                             omega
    go_wp2_with fail
    refine (slices_Delete_row g cap q l w2 HV2.out h2).mono ?_
    rintro e w3 ⟨v3, rfl, hv3, hf⟩
    have HV3 := Hd.mk hv3
    have HX3 := Hd.mk (((Fr.of_below HX2.out (fun k => w.heap.size ≤ k)).then_ hf (fun k h _ => h)).below (fun k h => h))
    clear hv3 hf
    go_wp2_with fail
    go_ret
    exact ⟨_, rfl, by rw [HE.out]; exact HV3.out, HX3.out⟩
end Go.Proofs.Ytnpogfhfjofbmaa.X
