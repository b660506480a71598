/- What is proved here: the walk of l1Put. Conditions: none. -/
import Derived.Test.YtlkjpnlpankhpaaXPu
namespace Go.Proofs.Ytlkjpnlpankhpaa.X
open Go.RowKit Go.Sort
set_option linter.unusedVariables false
set_option linter.unusedSimpArgs false
open Ty
theorem one5 (a b : Int) (s : ByteArray) (A B : Option Addr) (n c n2 c2 : Nat) : ∀ u ∈ [Value.int IntKind.i64 a, Value.int IntKind.i64 b, Value.string s, Value.slice A n c, Value.slice B n2 c2], u.oneCell' = true := by
  intro u hu
  simp only [List.mem_cons, List.not_mem_nil, or_false] at hu
  rcases hu with rfl | rfl | rfl | rfl | rfl <;> rfl
theorem put_fin {m : Nat} {w W : World} {j v : J} {Sj Sv : Nat → Prop} {CJ CV : Array Value} {N : List ByteArray} {src : List Nat} {C : Nat → List Value} {vN vL : Value} {P Q : Nat → Prop} (h : PutM w CJ CV N (src.map C) vN vL P Q W) (Ts : Nat → Nat → Prop)
    (HE : ∀ i, i ≤ j.list.length → (tJ (m + 1)).O w (Ts i) (putSrc j v i) (C i)) (hTT : ∀ i i' b, Ts i b → Ts i' b → i = i') (hTS : ∀ i b, Ts i b → b < w.heap.size ∧ (Sj b ∨ Sv b)) (hnd : src.Nodup) (hle : ∀ i ∈ src, i ≤ j.list.length) :
    (tJ (m + 1)).R 27 W (fun k => Q k ∨ (k < w.heap.size ∧ (Sj k ∨ Sv k))) vL (src.map (putSrc j v)) := by
  refine R_of_raw (tJ (m + 1)) (S := Q) h.rL (by simp) (fun i b => ∃ x, src[i]? = some x ∧ Ts x b) (fun i x cs hx hc => ?_) (fun i i' b h1 h2 => ?_) (fun i b hb => ?_) (fun k hk => .inl hk)
  · rw [List.getElem?_map, Option.map_eq_some_iff] at hx hc
    obtain ⟨y, hy, rfl⟩ := hx
    obtain ⟨y', hy', rfl⟩ := hc
    rw [hy] at hy'
    obtain rfl := Option.some.inj hy'
    exact Ty.O_mono _ (fun b hb => ⟨y, hy, hb⟩) (Ty.O_below (HE y (hle y (List.mem_of_getElem? hy))) h.bl)
  · obtain ⟨x, hx, h1⟩ := h1
    obtain ⟨x', hx', h2⟩ := h2
    obtain rfl := hTT _ _ _ h1 h2
    exact (List.getElem?_inj (List.getElem?_eq_some_iff.1 hx).1 hnd).1 (hx.trans hx'.symm)
  · obtain ⟨x, _, hb⟩ := hb
    have h1 := hTS _ _ hb
    exact ⟨.inr h1, fun hq => by have := ((h.st b).2 hq).1; omega⟩
theorem putE_inv (l : List ByteArray) (s : ByteArray) (n : Nat) (hn : l.length ≤ n) : (putE l s n).2.Nodup ∧ ∀ i ∈ (putE l s n).2, i ≤ n := by
  have h := putS_inv l s n l.length (Nat.le_refl _) hn
  unfold putE
  simp only
  split
  · exact ⟨h.2.2.2.1, fun i hi => by rcases h.2.2.2.2.1 i hi with h1 | h1 <;> omega⟩
  · rename_i hc
    have hc : (putS l s n l.length).1 = false := by simpa using hc
    refine ⟨?_, fun i hi => ?_⟩
    · simp only [List.nodup_append, List.nodup_cons, List.not_mem_nil, not_false_eq_true, List.nodup_nil, and_self, List.mem_singleton]
      refine ⟨h.2.2.2.1, trivial, fun a ha b hb => ?_⟩
      subst hb
      rcases h.2.2.2.2.1 a ha with h1 | ⟨_, h1⟩
      · omega
      · rw [hc] at h1; cases h1
    · simp only [List.mem_append, List.mem_singleton] at hi
      rcases hi with hi | hi
      · rcases h.2.2.2.2.1 i hi with h1 | h1 <;> omega
      · omega
theorem put_done {m : Nat} {w W W2 : World} {j v : J} {s : ByteArray} {Sj Sv : Nat → Prop} {CJ CV : Array Value} {N : List ByteArray} {src : List Nat} {LC : List (List Value)} {C : Nat → List Value} {vN vL : Value} {P Q : Nat → Prop} (h : PutM w CJ CV N LC vN vL P Q W) (hLC : LC = src.map C)
    (hE : putE j.names s j.list.length = (N, src)) (hlen : j.names.length = j.list.length) (hT : ∃ Ts : Nat → Nat → Prop, (∀ i, i ≤ j.list.length → (tJ (m + 1)).O w (Ts i) (putSrc j v i) (C i)) ∧ (∀ i i' b, Ts i b → Ts i' b → i = i') ∧ ∀ i b, Ts i b → b < w.heap.size ∧ (Sj b ∨ Sv b))
    (hf : Fr W W2 (fun k => k = w.heap.size + 2)) : (tJ (m + 2)).O W2 (fun k => w.heap.size ≤ k ∨ Sj k ∨ Sv k) (putJ j v s) [.int .i64 5, .int .i64 0, .string ⟨#[]⟩, vL, vN] ∧ Below w.heap.size w W2 := by
  subst hLC
  obtain ⟨Ts, t1, t2, t3⟩ := hT
  have hI := putE_inv j.names s j.list.length (by omega)
  rw [hE] at hI
  have hR := put_fin h Ts t1 t2 t3 hI.1 hI.2
  have he : putJ j v s = ⟨5, 0, ⟨#[]⟩, src.map (putSrc j v), N⟩ := by unfold putJ; rw [hE]
  rw [he]
  refine ⟨tJ_O.2 ⟨vL, vN, _, P, rfl, by show (0 : Nat) ≤ _; omega, R_fr hR hf (fun k hk _ e => ?_), R_fr h.rN hf (fun k hk _ e => by have := ((h.st k).1 hk).1; have e : k = _ := e; omega), fun k hk => ?_, fun k hk => .inl (by have := ((h.st k).1 hk).1; omega), fun k hk hp => ?_⟩, below_frS h.bl hf (fun k e => by have e : k = _ := e; omega)⟩
  · have e : k = w.heap.size + 2 := e
    rcases hk with hk | hk
    · have := ((h.st k).2 hk).1; omega
    · omega
  · rcases hk with hk | hk
    · exact .inl (by have := ((h.st k).2 hk).1; omega)
    · exact .inr hk.2
  · rcases hk with hk | hk
    · exact ((h.st k).1 hp).2.2 hk
    · have := ((h.st k).1 hp).1; omega
set_option maxHeartbeats 2000000 in
set_option maxRecDepth 100000 in
theorem spec_l1Put {m : Nat} {Sj Sv : Nat → Prop} (j v : J) (s : ByteArray) (cs cs2 : List Value) (w : World) (hj : (tJ (m + 2)).O w Sj j cs) (hv : (tJ (m + 1)).O w Sv v cs2) (hd : ∀ k, Sj k → ¬ Sv k) (hs : s.size ≤ 1000) (hlen : j.names.length = j.list.length) (h5 : j.list.length ≤ 100000) :
    Calls Try.prog 120 #[.agg cs.toArray, .string s, .agg cs2.toArray] w fun e w' => ∃ cs', e = .returned (.agg cs'.toArray) ∧ (tJ (m + 2)).O w' (fun k => w.heap.size ≤ k ∨ Sj k ∨ Sv k) (putJ j v s) cs' ∧ Below w.heap.size w w' := by
  obtain ⟨v3, v4, S3, S4, rfl, hsj, hr3, hr4, hs3, hs4, hs34⟩ := tJ_O.1 hj
  obtain ⟨A3, c3, rfl, hc3, hC3⟩ := R_C hr3
  obtain ⟨A4, c4, rfl, hc4, hC4⟩ := R_C hr4
  obtain ⟨C, T, hO, hT, hTT, hcell⟩ := R_elems (tJ (m + 1)) hr3
  have HN4 := Hd.mk hC4
  have HVO := Hd.mk (Ty.O_bound _ hv)
  obtain ⟨v5, v6, _, _, rfl, hsv, hr5, hr6, _⟩ := tJ_O.1 hv
  obtain ⟨B3, e3, rfl, _, _⟩ := R_C hr5
  obtain ⟨B4, e4, rfl, _, _⟩ := R_C hr6
  obtain ⟨n, hn⟩ : ∃ n, n = j.list.length := ⟨_, rfl⟩
  obtain ⟨C', hC'⟩ : ∃ f : Nat → List Value, f = fun i => if i = n then [Value.int IntKind.i64 v.kind, Value.int IntKind.i64 v.n, Value.string v.s, Value.slice B3 v.list.length e3, Value.slice B4 v.names.length e4] else C i := ⟨_, rfl⟩
  have HCn := Hd.mk (show C' n = [Value.int IntKind.i64 v.kind, Value.int IntKind.i64 v.n, Value.string v.s, Value.slice B3 v.list.length e3, Value.slice B4 v.names.length e4] by rw [hC']; exact if_pos rfl)
  have HCi := Hd.mk (show ∀ i, i < n → C' i = C i from fun i hi => by rw [hC']; exact if_neg (by omega))
  have HTS := Hd.mk (show ∃ Ts : Nat → Nat → Prop, (∀ i, i ≤ j.list.length → (tJ (m + 1)).O w (Ts i) (putSrc j v i) (C' i)) ∧ (∀ i i' b, Ts i b → Ts i' b → i = i') ∧ ∀ i b, Ts i b → b < w.heap.size ∧ (Sj b ∨ Sv b) from by
    obtain ⟨Ts, t1, t2⟩ : ∃ Ts : Nat → Nat → Prop, (∀ b, Ts n b ↔ (Sv b ∧ b < w.heap.size)) ∧ ∀ i, i ≠ n → ∀ b, Ts i b ↔ T i b := ⟨fun i b => if i = n then Sv b ∧ b < w.heap.size else T i b, fun b => by simp, fun i h b => by simp [h]⟩
    refine ⟨Ts, fun i hi => ?_, fun i i' b h1 h2 => ?_, fun i b h => ?_⟩
    · by_cases h : i = n
      · rw [h, HCn.out]
        unfold putSrc
        rw [if_pos hn]
        exact Ty.O_mono _ (fun b hb => (t1 b).2 hb) HVO.out
      · rw [HCi.out i (by omega)]
        unfold putSrc
        rw [if_neg (by omega)]
        refine Ty.O_mono _ (fun b hb => (t2 i h b).2 hb) (hO i _ ?_)
        rw [List.getD_eq_getElem?_getD, List.getElem?_eq_getElem (by omega)]; rfl
    · by_cases h : i = n <;> by_cases h' : i' = n
      · omega
      · rw [h, t1] at h1; rw [t2 _ h'] at h2
        exact absurd h1.1 (hd b (hs3 b (hT _ _ h2).1))
      · rw [t2 _ h] at h1; rw [h', t1] at h2
        exact absurd h2.1 (hd b (hs3 b (hT _ _ h1).1))
      · rw [t2 _ h] at h1; rw [t2 _ h'] at h2
        exact hTT _ _ _ h1 h2
    · by_cases h' : i = n
      · rw [h', t1] at h; exact ⟨h.2, .inr h.1⟩
      · rw [t2 _ h'] at h; exact ⟨(hT _ _ h).2, .inl (hs3 b (hT _ _ h).1)⟩)
  have HELE := Hd.mk hcell
  have HO := Hd.mk hO
  have Hn := Hd.mk hn
  have HLEN := Hd.mk hlen
  have h5n : j.names.length ≤ 100000 := by omega
  have hm3 := hC3.1; have hm4 := hC4.1
  clear hr3 hr4 hr5 hr6 hC3 hC4 hj hv hs3 hs4 hs34 hd hC' hO hT hTT hcell hlen hn
  have hB := Hd.mk (Below.refl w.heap.size w)
  go_enter Try.func120, Try.ntmps120
  go_wp2_with fail
  apply wp_gen; intro W1 hW
  have hz_ : w.heap.size + 4 ≤ W1.heap.size := by rw [hW]; simp
  have hE : Below w.heap.size w W1 := by rw [hW]; (repeat (first | with_reducible refine below_alloc ?_ _ | with_reducible refine below_drew ?_)); exact Below.refl _ _
  have hB := Hd.mk (below_then hB.out hE)
  have b0 := Hd.mk (show Blk W1 (w.heap.size) #[Value.int IntKind.i64 j.kind, Value.int IntKind.i64 j.n, Value.string j.s, Value.slice A3 j.list.length c3, Value.slice A4 j.names.length c4] 27 by rw [hW]; first | exact ((((Blk.new _ _ _).alloc _).alloc _).alloc _) | (simpa using ((((Blk.new _ _ _).alloc _).alloc _).alloc _)))
  have b1 := Hd.mk (show Blk W1 (w.heap.size + 1) #[Value.int IntKind.i64 v.kind, Value.int IntKind.i64 v.n, Value.string v.s, Value.slice B3 v.list.length e3, Value.slice B4 v.names.length e4] 27 by rw [hW]; first | exact (((Blk.new1 _ _ _ _).alloc _).alloc _) | (simpa using (((Blk.new1 _ _ _ _).alloc _).alloc _)))
  have b2 := Hd.mk (show Blk W1 (w.heap.size + 1 + 1) #[Value.int IntKind.i64 0, Value.int IntKind.i64 0, Value.string ⟨#[]⟩, Value.slice none 0 0, Value.slice none 0 0] 27 by rw [hW]; first | exact ((Blk.new2 _ _ _ _ _).alloc _) | (simpa using ((Blk.new2 _ _ _ _ _).alloc _)))
  have b3 := Hd.mk (show Blk W1 (w.heap.size + 1 + 1 + 1) #[Value.int IntKind.i64 5, Value.int IntKind.i64 0, Value.string ⟨#[]⟩, Value.slice none 0 0, Value.slice none 0 0] 27 by rw [hW]; first | exact (Blk.new3 _ _ _ _ _ _) | (simpa using (Blk.new3 _ _ _ _ _ _)))
  clear hW hE
  have z1 := Hd.mk hz_; clear hz_
  have HW1 : PutM w #[Value.int IntKind.i64 j.kind, Value.int IntKind.i64 j.n, Value.string j.s, Value.slice A3 j.list.length c3, Value.slice A4 j.names.length c4] #[Value.int IntKind.i64 v.kind, Value.int IntKind.i64 v.n, Value.string v.s, Value.slice B3 v.list.length e3, Value.slice B4 v.names.length e4] [] [] (.slice none 0 0) (.slice none 0 0) (fun _ => False) (fun _ => False) W1 := ⟨b0.out, b1.out, b2.out, b3.out, R_nil, R_nil, fun q => ⟨fun h => h.elim, fun h => h.elim⟩, hB.out, by have z1_ := z1.out; omega⟩
  have HW1 := Hd.mk HW1; clear b0 b1 b2 b3 hB z1
  go_loopw [8, 9] (fun p i wr => ∃ (k : Nat) (pt : Bool) (N : List ByteArray) (src : List Nat) (LC : List (List Value)) (vN vL : Value) (P Q : Nat → Prop), k ≤ j.names.length ∧ p = .bool pt ∧ i = .int .i64 k ∧ Hd (putS j.names s n k = (pt, N, src)) ∧ Hd (LC = src.map C') ∧ Hd (PutM w #[Value.int IntKind.i64 j.kind, Value.int IntKind.i64 j.n, Value.string j.s, Value.slice A3 j.list.length c3, Value.slice A4 j.names.length c4] #[Value.int IntKind.i64 v.kind, Value.int IntKind.i64 v.n, Value.string v.s, Value.slice B3 v.list.length e3, Value.slice B4 v.names.length e4] N LC vN vL P Q wr)) (fun _ i _ => j.names.length - (intOf i).toNat)
  case atStart => exact ⟨0, false, [], [], [], .slice none 0 0, .slice none 0 0, _, _, Nat.zero_le _, rfl, rfl, ⟨rfl⟩, ⟨rfl⟩, HW1⟩
  case round =>
    clear HW1
    obtain ⟨k, pt, N, src, LC, vN, vL, P, Q, hk, rfl, rfl, HPS, HLC, H⟩ := hrel
    have HI := Hd.mk (show PutI j.names s n k (pt, N, src) by rw [← HPS.out]; exact putS_inv _ _ _ _ hk (by have := HLEN.out; have := Hn.out; omega))
    have hLN := Hd.mk (show N.length ≤ 100001 by have h1 := HI.out.1; have h2 := HI.out.2.1; (try simp only at h1 h2); omega)
    have hLL := Hd.mk (show LC.length ≤ 100001 by have h2 := HI.out.2.1; rw [HLC.out, List.length_map]; (try simp only at h2); omega)
    have hk0 : (0 : Int) ≤ (k : Int) := by omega
    obtain ⟨AN, cN, he_, _, _⟩ := R_C H.out.rN
    subst he_
    obtain ⟨AL, cL, he_, _, _⟩ := R_C H.out.rL
    subst he_
    by_cases hlt : k < j.names.length
    · obtain ⟨ad4, had, xn, hsn⟩ := C_str_at HN4.out (Below.refl _ _) k hlt
      have XN := Hd.mk xn; clear xn
      obtain rfl := had
      have hkl : k < j.list.length := by rw [← HLEN.out]; exact hlt
      have hkn : k < n := by rw [Hn.out]; exact hkl
      have hgq := run_geq j.names[k] s
      obtain ⟨ad3, had3, e0, e1⟩ := HELE.out k hkl
      obtain rfl := had3
      obtain ⟨u3, u4, _, _, hck, _, hru3, hru4, _⟩ := tJ_O.1 (HO.out k j.list[k] (List.getElem?_eq_getElem hkl))
      obtain ⟨D3, d3, rfl, _, _⟩ := R_C hru3
      obtain ⟨D4, d4, rfl, _, _⟩ := R_C hru4
      rw [hck] at e0 e1
      have XE := Hd.mk (show w.cell? (ad3.add (k * 5)) = some (Value.int IntKind.i64 j.list[k].kind) ∧ w.cell? ⟨(ad3.add (k * 5)).block, (ad3.add (k * 5)).off + 1, none⟩ = some (Value.int IntKind.i64 j.list[k].n) ∧ w.cell? ⟨(ad3.add (k * 5)).block, (ad3.add (k * 5)).off + 2, none⟩ = some (Value.string j.list[k].s) ∧ w.cell? ⟨(ad3.add (k * 5)).block, (ad3.add (k * 5)).off + 3, none⟩ = some (Value.slice D3 j.list[k].list.length d3) ∧ w.cell? ⟨(ad3.add (k * 5)).block, (ad3.add (k * 5)).off + 4, none⟩ = some (Value.slice D4 j.list[k].names.length d4) from ⟨e0 _ rfl, e1 0 _ rfl, e1 1 _ rfl, e1 2 _ rfl, e1 3 _ rfl⟩)
      have HCK := Hd.mk (show C' k = [Value.int IntKind.i64 j.list[k].kind, Value.int IntKind.i64 j.list[k].n, Value.string j.list[k].s, Value.slice D3 j.list[k].list.length d3, Value.slice D4 j.list[k].names.length d4] by rw [HCi.out k hkn]; exact hck)
      clear e0 e1 hck hru3 hru4
      have HGD := Hd.mk (show j.names.getD k ⟨#[]⟩ = j.names[k] by rw [List.getD_eq_getElem?_getD, List.getElem?_eq_getElem hlt]; rfl)
      have hm5 : k * 5 ≤ 500000 := by omega
      cases pt
      · cases hge : ltB j.names[k] s
        · rw [hge] at hgq
          cases hb : (j.names[k].toList == s.toList)
          · have HPS2 := Hd.mk (show putS j.names s n (k + 1) = (true, (N ++ [s]) ++ [j.names[k]], (src ++ [n]) ++ [k]) by
              show putOn s (j.names.getD k ⟨#[]⟩) k (putIn s n (j.names.getD k ⟨#[]⟩) (putS j.names s n k)) = _
              rw [HPS.out, HGD.out]; simp [putIn, putOn, hb, hge])
            have UA := trivial; have UB := trivial
            have fb0_3 : wr.cell? ⟨w.heap.size, 3, none⟩ = some (Value.slice (some ad3) j.list.length c3) := (H.out.b0).cell 3 rfl
            have fb0_4 : wr.cell? ⟨w.heap.size, 4, none⟩ = some (Value.slice (some ad4) j.names.length c4) := (H.out.b0).cell 4 rfl
            have fb0_z := (H.out.b0).frozen
            have fb1_0 : wr.cell? ⟨w.heap.size + 1, 0, none⟩ = some (Value.int IntKind.i64 v.kind) := (H.out.b1).cell 0 rfl
            have fb1_1 : wr.cell? ⟨w.heap.size + 1, 1, none⟩ = some (Value.int IntKind.i64 v.n) := (H.out.b1).cell 1 rfl
            have fb1_2 : wr.cell? ⟨w.heap.size + 1, 2, none⟩ = some (Value.string v.s) := (H.out.b1).cell 2 rfl
            have fb1_3 : wr.cell? ⟨w.heap.size + 1, 3, none⟩ = some (Value.slice B3 v.list.length e3) := (H.out.b1).cell 3 rfl
            have fb1_4 : wr.cell? ⟨w.heap.size + 1, 4, none⟩ = some (Value.slice B4 v.names.length e4) := (H.out.b1).cell 4 rfl
            have fb1_z := (H.out.b1).frozen
            have fb3_0 : wr.cell? ⟨w.heap.size + 3, 0, none⟩ = some (Value.int IntKind.i64 5) := (H.out.b3).cell 0 rfl
            have fb3_1 : wr.cell? ⟨w.heap.size + 3, 1, none⟩ = some (Value.int IntKind.i64 0) := (H.out.b3).cell 1 rfl
            have fb3_2 : wr.cell? ⟨w.heap.size + 3, 2, none⟩ = some (Value.string ⟨#[]⟩) := (H.out.b3).cell 2 rfl
            have fb3_3 : wr.cell? ⟨w.heap.size + 3, 3, none⟩ = some (Value.slice AL LC.length cL) := (H.out.b3).cell 3 rfl
            have fb3_4 : wr.cell? ⟨w.heap.size + 3, 4, none⟩ = some (Value.slice AN N.length cN) := (H.out.b3).cell 4 rfl
            have fb3_z := (H.out.b3).frozen
            have xn : wr.cell? (ad4.add k) = some (.string j.names[k]) := cell_below H.out.bl XN.out
            have x0 : wr.cell? (ad3.add (k * 5)) = some (Value.int IntKind.i64 j.list[k].kind) := cell_below H.out.bl XE.out.1
            have x1 : wr.cell? ⟨(ad3.add (k * 5)).block, (ad3.add (k * 5)).off + 1, none⟩ = some (Value.int IntKind.i64 j.list[k].n) := cell_below H.out.bl XE.out.2.1
            have x2 : wr.cell? ⟨(ad3.add (k * 5)).block, (ad3.add (k * 5)).off + 2, none⟩ = some (Value.string j.list[k].s) := cell_below H.out.bl XE.out.2.2.1
            have x3 : wr.cell? ⟨(ad3.add (k * 5)).block, (ad3.add (k * 5)).off + 3, none⟩ = some (Value.slice D3 j.list[k].list.length d3) := cell_below H.out.bl XE.out.2.2.2.1
            have x4 : wr.cell? ⟨(ad3.add (k * 5)).block, (ad3.add (k * 5)).off + 4, none⟩ = some (Value.slice D4 j.list[k].names.length d4) := cell_below H.out.bl XE.out.2.2.2.2
            go_wp2_with (first | (clear UA; at_builtin; refine append_s1 rfl rfl s (by omega) rfl _ _ rfl rfl rfl H.out.rN (by have h1_ := hLN.out; have h2_ := hLL.out; skip; omega) (fun v3 w2 hv3 hf3 => ?_); obtain ⟨m0, m1, m2, m3, _, _⟩ := H.out.frN hf3; have H2 := H.out.name hv3 hf3; obtain ⟨N2, hl_⟩ : ∃ z, z = N ++ [s] := ⟨_, rfl⟩; rw [← hl_] at H2 hv3; have E2 := Hd.mk hl_; clear hl_; obtain ⟨AA2, cc2, he_, _, _⟩ := R_C hv3; subst he_; have H2 := Hd.mk H2; have g2b0_3 : w2.cell? ⟨w.heap.size, 3, none⟩ = some (Value.slice (some ad3) j.list.length c3) := (m0).cell 3 rfl; have g2b0_4 : w2.cell? ⟨w.heap.size, 4, none⟩ = some (Value.slice (some ad4) j.names.length c4) := (m0).cell 4 rfl; have g2b0_z := (m0).frozen; have g2b1_0 : w2.cell? ⟨w.heap.size + 1, 0, none⟩ = some (Value.int IntKind.i64 v.kind) := (m1).cell 0 rfl; have g2b1_1 : w2.cell? ⟨w.heap.size + 1, 1, none⟩ = some (Value.int IntKind.i64 v.n) := (m1).cell 1 rfl; have g2b1_2 : w2.cell? ⟨w.heap.size + 1, 2, none⟩ = some (Value.string v.s) := (m1).cell 2 rfl; have g2b1_3 : w2.cell? ⟨w.heap.size + 1, 3, none⟩ = some (Value.slice B3 v.list.length e3) := (m1).cell 3 rfl; have g2b1_4 : w2.cell? ⟨w.heap.size + 1, 4, none⟩ = some (Value.slice B4 v.names.length e4) := (m1).cell 4 rfl; have g2b1_z := (m1).frozen; have g2b3_0 : w2.cell? ⟨w.heap.size + 3, 0, none⟩ = some (Value.int IntKind.i64 5) := (m3).cell 0 rfl; have g2b3_1 : w2.cell? ⟨w.heap.size + 3, 1, none⟩ = some (Value.int IntKind.i64 0) := (m3).cell 1 rfl; have g2b3_2 : w2.cell? ⟨w.heap.size + 3, 2, none⟩ = some (Value.string ⟨#[]⟩) := (m3).cell 2 rfl; have g2b3_3 : w2.cell? ⟨w.heap.size + 3, 3, none⟩ = some (Value.slice AL LC.length cL) := (m3).cell 3 rfl; have g2b3_4 : w2.cell? ⟨w.heap.size + 3, 4, none⟩ = some (Value.slice AN N.length cN) := (m3).cell 4 rfl; have g2b3_z := (m3).frozen; clear hv3 hf3 m0 m1 m2 m3) | (clear UB; at_builtin; refine append_r1 rfl (by simp) [Value.int IntKind.i64 v.kind, Value.int IntKind.i64 v.n, Value.string v.s, Value.slice B3 v.list.length e3, Value.slice B4 v.names.length e4] ⟨rfl, one5 _ _ _ _ _ _ _ _ _⟩ rfl _ _ rfl rfl rfl H2.out.rL (by have h1_ := hLN.out; have h2_ := hLL.out; have lE2 := congrArg List.length E2.out; rw [List.length_append, List.length_singleton] at lE2; omega) (fun v3 w3 hv3 hf3 => ?_); obtain ⟨m0, m1, m2, m3, _, _⟩ := H2.out.frL hf3; have H3 := H2.out.elem hv3 hf3; obtain ⟨LC3, hl_⟩ : ∃ z, z = LC ++ [[Value.int IntKind.i64 v.kind, Value.int IntKind.i64 v.n, Value.string v.s, Value.slice B3 v.list.length e3, Value.slice B4 v.names.length e4]] := ⟨_, rfl⟩; rw [← hl_] at H3 hv3; have E3 := Hd.mk hl_; clear hl_; obtain ⟨AA3, cc3, he_, _, _⟩ := R_C hv3; subst he_; have H3 := Hd.mk H3; have g3b0_3 : w3.cell? ⟨w.heap.size, 3, none⟩ = some (Value.slice (some ad3) j.list.length c3) := (m0).cell 3 rfl; have g3b0_4 : w3.cell? ⟨w.heap.size, 4, none⟩ = some (Value.slice (some ad4) j.names.length c4) := (m0).cell 4 rfl; have g3b0_z := (m0).frozen; have g3b1_0 : w3.cell? ⟨w.heap.size + 1, 0, none⟩ = some (Value.int IntKind.i64 v.kind) := (m1).cell 0 rfl; have g3b1_1 : w3.cell? ⟨w.heap.size + 1, 1, none⟩ = some (Value.int IntKind.i64 v.n) := (m1).cell 1 rfl; have g3b1_2 : w3.cell? ⟨w.heap.size + 1, 2, none⟩ = some (Value.string v.s) := (m1).cell 2 rfl; have g3b1_3 : w3.cell? ⟨w.heap.size + 1, 3, none⟩ = some (Value.slice B3 v.list.length e3) := (m1).cell 3 rfl; have g3b1_4 : w3.cell? ⟨w.heap.size + 1, 4, none⟩ = some (Value.slice B4 v.names.length e4) := (m1).cell 4 rfl; have g3b1_z := (m1).frozen; have g3b3_0 : w3.cell? ⟨w.heap.size + 3, 0, none⟩ = some (Value.int IntKind.i64 5) := (m3).cell 0 rfl; have g3b3_1 : w3.cell? ⟨w.heap.size + 3, 1, none⟩ = some (Value.int IntKind.i64 0) := (m3).cell 1 rfl; have g3b3_2 : w3.cell? ⟨w.heap.size + 3, 2, none⟩ = some (Value.string ⟨#[]⟩) := (m3).cell 2 rfl; have g3b3_3 : w3.cell? ⟨w.heap.size + 3, 3, none⟩ = some (Value.slice AL LC.length cL) := (m3).cell 3 rfl; have g3b3_4 : w3.cell? ⟨w.heap.size + 3, 4, none⟩ = some (Value.slice AA2 N2.length cc2) := (m3).cell 4 rfl; have g3b3_z := (m3).frozen; clear hv3 hf3 m0 m1 m2 m3; have g3x : (w3.setCell ⟨w.heap.size + 1 + 1 + 1, 3, none⟩ (Value.slice AA3 LC3.length cc3)).cell? (ad4.add k) = some (.string j.names[k]) := cell_below H3.out.bl XN.out))
            clear fb0_3 fb0_4 fb0_z fb1_0 fb1_1 fb1_2 fb1_3 fb1_4 fb1_z fb3_0 fb3_1 fb3_2 fb3_3 fb3_4 fb3_z g2b0_3 g2b0_4 g2b0_z g2b1_0 g2b1_1 g2b1_2 g2b1_3 g2b1_4 g2b1_z g2b3_0 g2b3_1 g2b3_2 g2b3_3 g2b3_4 g2b3_z g3b0_3 g3b0_4 g3b0_z g3b1_0 g3b1_1 g3b1_2 g3b1_3 g3b1_4 g3b1_z g3b3_0 g3b3_1 g3b3_2 g3b3_3 g3b3_4 g3b3_z g3x xn x0 x1 x2 x3 x4
            obtain ⟨W4, hW⟩ : ∃ W, W = (w3.setCell ⟨w.heap.size + 3, 3, none⟩ (Value.slice AA3 LC3.length cc3)) := ⟨_, rfl⟩
            rw [← hW]
            have H3_ := H3.out
            rw [← hW] at H3_
            replace H3 := Hd.mk H3_; clear H3_ hW
            have fb0_3 : W4.cell? ⟨w.heap.size, 3, none⟩ = some (Value.slice (some ad3) j.list.length c3) := (H3.out.b0).cell 3 rfl
            have fb0_4 : W4.cell? ⟨w.heap.size, 4, none⟩ = some (Value.slice (some ad4) j.names.length c4) := (H3.out.b0).cell 4 rfl
            have fb0_z := (H3.out.b0).frozen
            have fb1_0 : W4.cell? ⟨w.heap.size + 1, 0, none⟩ = some (Value.int IntKind.i64 v.kind) := (H3.out.b1).cell 0 rfl
            have fb1_1 : W4.cell? ⟨w.heap.size + 1, 1, none⟩ = some (Value.int IntKind.i64 v.n) := (H3.out.b1).cell 1 rfl
            have fb1_2 : W4.cell? ⟨w.heap.size + 1, 2, none⟩ = some (Value.string v.s) := (H3.out.b1).cell 2 rfl
            have fb1_3 : W4.cell? ⟨w.heap.size + 1, 3, none⟩ = some (Value.slice B3 v.list.length e3) := (H3.out.b1).cell 3 rfl
            have fb1_4 : W4.cell? ⟨w.heap.size + 1, 4, none⟩ = some (Value.slice B4 v.names.length e4) := (H3.out.b1).cell 4 rfl
            have fb1_z := (H3.out.b1).frozen
            have fb3_0 : W4.cell? ⟨w.heap.size + 3, 0, none⟩ = some (Value.int IntKind.i64 5) := (H3.out.b3).cell 0 rfl
            have fb3_1 : W4.cell? ⟨w.heap.size + 3, 1, none⟩ = some (Value.int IntKind.i64 0) := (H3.out.b3).cell 1 rfl
            have fb3_2 : W4.cell? ⟨w.heap.size + 3, 2, none⟩ = some (Value.string ⟨#[]⟩) := (H3.out.b3).cell 2 rfl
            have fb3_3 : W4.cell? ⟨w.heap.size + 3, 3, none⟩ = some (Value.slice AA3 LC3.length cc3) := (H3.out.b3).cell 3 rfl
            have fb3_4 : W4.cell? ⟨w.heap.size + 3, 4, none⟩ = some (Value.slice AA2 N2.length cc2) := (H3.out.b3).cell 4 rfl
            have fb3_z := (H3.out.b3).frozen
            have xn : W4.cell? (ad4.add k) = some (.string j.names[k]) := cell_below H3.out.bl XN.out
            have x0 : W4.cell? (ad3.add (k * 5)) = some (Value.int IntKind.i64 j.list[k].kind) := cell_below H3.out.bl XE.out.1
            have x1 : W4.cell? ⟨(ad3.add (k * 5)).block, (ad3.add (k * 5)).off + 1, none⟩ = some (Value.int IntKind.i64 j.list[k].n) := cell_below H3.out.bl XE.out.2.1
            have x2 : W4.cell? ⟨(ad3.add (k * 5)).block, (ad3.add (k * 5)).off + 2, none⟩ = some (Value.string j.list[k].s) := cell_below H3.out.bl XE.out.2.2.1
            have x3 : W4.cell? ⟨(ad3.add (k * 5)).block, (ad3.add (k * 5)).off + 3, none⟩ = some (Value.slice D3 j.list[k].list.length d3) := cell_below H3.out.bl XE.out.2.2.2.1
            have x4 : W4.cell? ⟨(ad3.add (k * 5)).block, (ad3.add (k * 5)).off + 4, none⟩ = some (Value.slice D4 j.list[k].names.length d4) := cell_below H3.out.bl XE.out.2.2.2.2
            have rfb0_3 := cell_regrown fb0_3
            have rfb0_4 := cell_regrown fb0_4
            have rfb1_0 := cell_regrown fb1_0
            have rfb1_1 := cell_regrown fb1_1
            have rfb1_2 := cell_regrown fb1_2
            have rfb1_3 := cell_regrown fb1_3
            have rfb1_4 := cell_regrown fb1_4
            have rfb3_0 := cell_regrown fb3_0
            have rfb3_1 := cell_regrown fb3_1
            have rfb3_2 := cell_regrown fb3_2
            have rfb3_3 := cell_regrown fb3_3
            have rfb3_4 := cell_regrown fb3_4
            have rxn := cell_regrown xn
            have rx0 := cell_regrown x0
            have rx1 := cell_regrown x1
            have rx2 := cell_regrown x2
            have rx3 := cell_regrown x3
            have rx4 := cell_regrown x4
            refine region_mixT (.p 0 (.q 1 (.p 2 (.q 3 (.p 4 (.q 5 (.q 6 (.b 7 .fin)))))))) [8, 9, 10] (by kernel_rfl) (by kernel_rfl) (fun _ _ _ _ _ h => h) ?_
            refine genT ?_; intro W5 hW
            have hS := Hd.mk (show Below W4.heap.size W4 W5 by rw [hW]; exact below_drew (Below.refl _ _)); clear hW
            replace H3 := Hd.mk (H3.out.below hS.out)
            refine mixT_p rfl ?_
            go_big_quiet_want; go_big_quiet_op; go_big_quiet_on; refine wpQuiet_nil ?_
            refine mixT_q rfl ?_
            go_big_quiet_want; go_big_quiet_op; go_big_quiet_on; refine wpQuiet_nil ?_
            refine mixT_p rfl ?_
            go_big_quiet_want; go_big_quiet_op; go_big_quiet_on; refine wpQuiet_nil ?_
            refine mixT_q rfl ?_
            go_big_quiet_want; go_big_quiet_op; go_big_quiet_on; refine wpQuiet_nil ?_
            refine mixT_p rfl ?_
            go_big_quiet_want; go_big_quiet_op; go_big_quiet_on; refine wpQuiet_nil ?_
            refine mixT_q rfl ?_
            go_big_quiet_want; go_big_quiet_op; go_big_quiet_on; refine wpQuiet_nil ?_
            refine mixT_q rfl ?_
            go_big_quiet_want; go_big_quiet_op; go_big_quiet_on; refine wpQuiet_nil ?_
            refine mixT_b rfl ?_ (by rfl)
            go_wp2_with fail
            refine ⟨cls_below (below_alloc hS.out _), ?_⟩
            refine mixT_fin ?_
            clear hS rfb0_3 rfb0_4 rfb1_0 rfb1_1 rfb1_2 rfb1_3 rfb1_4 rfb3_0 rfb3_1 rfb3_2 rfb3_3 rfb3_4 rxn rx0 rx1 rx2 rx3 rx4
            clear fb0_3 fb0_4 fb0_z fb1_0 fb1_1 fb1_2 fb1_3 fb1_4 fb1_z fb3_0 fb3_1 fb3_2 fb3_3 fb3_4 fb3_z xn x0 x1 x2 x3 x4
            refine tail_b rfl ?_ (by rfl)
            go_wp2_with (at_builtin; refine append_s1 rfl rfl j.names[k] (by omega) rfl _ _ rfl rfl rfl H3.out.rN (by have h1_ := hLN.out; have h2_ := hLL.out; have lE2 := congrArg List.length E2.out; rw [List.length_append, List.length_singleton] at lE2; have lE3 := congrArg List.length E3.out; rw [List.length_append, List.length_singleton] at lE3; omega) (fun v3 w6 hv3 hf3 => ?_); obtain ⟨m0, m1, m2, m3, _, _⟩ := H3.out.frN hf3; have H6 := H3.out.name hv3 hf3; obtain ⟨N6, hl_⟩ : ∃ z, z = N2 ++ [j.names[k]] := ⟨_, rfl⟩; rw [← hl_] at H6 hv3; have E6 := Hd.mk hl_; clear hl_; obtain ⟨AA6, cc6, he_, _, _⟩ := R_C hv3; subst he_; have H6 := Hd.mk H6; have g6b0_3 : w6.cell? ⟨w.heap.size, 3, none⟩ = some (Value.slice (some ad3) j.list.length c3) := (m0).cell 3 rfl; have g6b0_4 : w6.cell? ⟨w.heap.size, 4, none⟩ = some (Value.slice (some ad4) j.names.length c4) := (m0).cell 4 rfl; have g6b0_z := (m0).frozen; have g6b1_0 : w6.cell? ⟨w.heap.size + 1, 0, none⟩ = some (Value.int IntKind.i64 v.kind) := (m1).cell 0 rfl; have g6b1_1 : w6.cell? ⟨w.heap.size + 1, 1, none⟩ = some (Value.int IntKind.i64 v.n) := (m1).cell 1 rfl; have g6b1_2 : w6.cell? ⟨w.heap.size + 1, 2, none⟩ = some (Value.string v.s) := (m1).cell 2 rfl; have g6b1_3 : w6.cell? ⟨w.heap.size + 1, 3, none⟩ = some (Value.slice B3 v.list.length e3) := (m1).cell 3 rfl; have g6b1_4 : w6.cell? ⟨w.heap.size + 1, 4, none⟩ = some (Value.slice B4 v.names.length e4) := (m1).cell 4 rfl; have g6b1_z := (m1).frozen; have g6b3_0 : w6.cell? ⟨w.heap.size + 3, 0, none⟩ = some (Value.int IntKind.i64 5) := (m3).cell 0 rfl; have g6b3_1 : w6.cell? ⟨w.heap.size + 3, 1, none⟩ = some (Value.int IntKind.i64 0) := (m3).cell 1 rfl; have g6b3_2 : w6.cell? ⟨w.heap.size + 3, 2, none⟩ = some (Value.string ⟨#[]⟩) := (m3).cell 2 rfl; have g6b3_3 : w6.cell? ⟨w.heap.size + 3, 3, none⟩ = some (Value.slice AA3 LC3.length cc3) := (m3).cell 3 rfl; have g6b3_4 : w6.cell? ⟨w.heap.size + 3, 4, none⟩ = some (Value.slice AA2 N2.length cc2) := (m3).cell 4 rfl; have g6b3_z := (m3).frozen; clear hv3 hf3 m0 m1 m2 m3)
            refine mixQ_n ?_
            refine tail_b rfl ?_ (by rfl)
            go_wp2_with fail
            refine mixQ_n ?_
            refine tail_b rfl ?_ (by rfl)
            go_wp2_with fail
            refine mixQ_n ?_
            refine tail_nil ?_
            clear g6b0_3 g6b0_4 g6b0_z g6b1_0 g6b1_1 g6b1_2 g6b1_3 g6b1_4 g6b1_z g6b3_0 g6b3_1 g6b3_2 g6b3_3 g6b3_4 g6b3_z
            obtain ⟨W7, hW⟩ : ∃ W, W = (w6.setCell ⟨w.heap.size + 3, 4, none⟩ (Value.slice AA6 N6.length cc6)) := ⟨_, rfl⟩
            rw [← hW]
            have H6_ := H6.out
            rw [← hW] at H6_
            replace H6 := Hd.mk H6_; clear H6_ hW
            go_wp2_with fail
            have fb0_3 : W7.cell? ⟨w.heap.size, 3, none⟩ = some (Value.slice (some ad3) j.list.length c3) := (H6.out.b0).cell 3 rfl
            have fb0_4 : W7.cell? ⟨w.heap.size, 4, none⟩ = some (Value.slice (some ad4) j.names.length c4) := (H6.out.b0).cell 4 rfl
            have fb0_z := (H6.out.b0).frozen
            have fb1_0 : W7.cell? ⟨w.heap.size + 1, 0, none⟩ = some (Value.int IntKind.i64 v.kind) := (H6.out.b1).cell 0 rfl
            have fb1_1 : W7.cell? ⟨w.heap.size + 1, 1, none⟩ = some (Value.int IntKind.i64 v.n) := (H6.out.b1).cell 1 rfl
            have fb1_2 : W7.cell? ⟨w.heap.size + 1, 2, none⟩ = some (Value.string v.s) := (H6.out.b1).cell 2 rfl
            have fb1_3 : W7.cell? ⟨w.heap.size + 1, 3, none⟩ = some (Value.slice B3 v.list.length e3) := (H6.out.b1).cell 3 rfl
            have fb1_4 : W7.cell? ⟨w.heap.size + 1, 4, none⟩ = some (Value.slice B4 v.names.length e4) := (H6.out.b1).cell 4 rfl
            have fb1_z := (H6.out.b1).frozen
            have fb3_0 : W7.cell? ⟨w.heap.size + 3, 0, none⟩ = some (Value.int IntKind.i64 5) := (H6.out.b3).cell 0 rfl
            have fb3_1 : W7.cell? ⟨w.heap.size + 3, 1, none⟩ = some (Value.int IntKind.i64 0) := (H6.out.b3).cell 1 rfl
            have fb3_2 : W7.cell? ⟨w.heap.size + 3, 2, none⟩ = some (Value.string ⟨#[]⟩) := (H6.out.b3).cell 2 rfl
            have fb3_3 : W7.cell? ⟨w.heap.size + 3, 3, none⟩ = some (Value.slice AA3 LC3.length cc3) := (H6.out.b3).cell 3 rfl
            have fb3_4 : W7.cell? ⟨w.heap.size + 3, 4, none⟩ = some (Value.slice AA6 N6.length cc6) := (H6.out.b3).cell 4 rfl
            have fb3_z := (H6.out.b3).frozen
            have xn : W7.cell? (ad4.add k) = some (.string j.names[k]) := cell_below H6.out.bl XN.out
            have x0 : W7.cell? (ad3.add (k * 5)) = some (Value.int IntKind.i64 j.list[k].kind) := cell_below H6.out.bl XE.out.1
            have x1 : W7.cell? ⟨(ad3.add (k * 5)).block, (ad3.add (k * 5)).off + 1, none⟩ = some (Value.int IntKind.i64 j.list[k].n) := cell_below H6.out.bl XE.out.2.1
            have x2 : W7.cell? ⟨(ad3.add (k * 5)).block, (ad3.add (k * 5)).off + 2, none⟩ = some (Value.string j.list[k].s) := cell_below H6.out.bl XE.out.2.2.1
            have x3 : W7.cell? ⟨(ad3.add (k * 5)).block, (ad3.add (k * 5)).off + 3, none⟩ = some (Value.slice D3 j.list[k].list.length d3) := cell_below H6.out.bl XE.out.2.2.2.1
            have x4 : W7.cell? ⟨(ad3.add (k * 5)).block, (ad3.add (k * 5)).off + 4, none⟩ = some (Value.slice D4 j.list[k].names.length d4) := cell_below H6.out.bl XE.out.2.2.2.2
            have rfb0_3 := cell_regrown fb0_3
            have rfb0_4 := cell_regrown fb0_4
            have rfb1_0 := cell_regrown fb1_0
            have rfb1_1 := cell_regrown fb1_1
            have rfb1_2 := cell_regrown fb1_2
            have rfb1_3 := cell_regrown fb1_3
            have rfb1_4 := cell_regrown fb1_4
            have rfb3_0 := cell_regrown fb3_0
            have rfb3_1 := cell_regrown fb3_1
            have rfb3_2 := cell_regrown fb3_2
            have rfb3_3 := cell_regrown fb3_3
            have rfb3_4 := cell_regrown fb3_4
            have rxn := cell_regrown xn
            have rx0 := cell_regrown x0
            have rx1 := cell_regrown x1
            have rx2 := cell_regrown x2
            have rx3 := cell_regrown x3
            have rx4 := cell_regrown x4
            refine region_mixT (.p 0 (.q 1 (.p 2 (.q 3 (.p 4 (.q 5 (.q 6 (.b 7 .fin)))))))) [8, 9, 10] (by kernel_rfl) (by kernel_rfl) (fun _ _ _ _ _ h => h) ?_
            refine genT ?_; intro W8 hW
            have hS := Hd.mk (show Below W7.heap.size W7 W8 by rw [hW]; exact below_drew (Below.refl _ _)); clear hW
            replace H6 := Hd.mk (H6.out.below hS.out)
            refine mixT_p rfl ?_
            go_big_quiet_want; go_big_quiet_op; go_big_quiet_on; refine wpQuiet_nil ?_
            refine mixT_q rfl ?_
            go_big_quiet_want; go_big_quiet_op; go_big_quiet_on; refine wpQuiet_nil ?_
            refine mixT_p rfl ?_
            go_big_quiet_want; go_big_quiet_op; go_big_quiet_on; refine wpQuiet_nil ?_
            refine mixT_q rfl ?_
            go_big_quiet_want; go_big_quiet_op; go_big_quiet_on; refine wpQuiet_nil ?_
            refine mixT_p rfl ?_
            go_big_quiet_want; go_big_quiet_op; go_big_quiet_on; refine wpQuiet_nil ?_
            refine mixT_q rfl ?_
            go_big_quiet_want; go_big_quiet_op; go_big_quiet_on; refine wpQuiet_nil ?_
            refine mixT_q rfl ?_
            go_big_quiet_want; go_big_quiet_op; go_big_quiet_on; refine wpQuiet_nil ?_
            refine mixT_b rfl ?_ (by rfl)
            go_wp2_with fail
            refine ⟨cls_below (below_alloc hS.out _), ?_⟩
            refine mixT_fin ?_
            clear hS rfb0_3 rfb0_4 rfb1_0 rfb1_1 rfb1_2 rfb1_3 rfb1_4 rfb3_0 rfb3_1 rfb3_2 rfb3_3 rfb3_4 rxn rx0 rx1 rx2 rx3 rx4
            clear fb0_3 fb0_4 fb0_z fb1_0 fb1_1 fb1_2 fb1_3 fb1_4 fb1_z fb3_0 fb3_1 fb3_2 fb3_3 fb3_4 fb3_z xn x0 x1 x2 x3 x4
            refine tail_b rfl ?_ (by rfl)
            go_wp2_with (at_builtin; refine append_r1 rfl rfl [Value.int IntKind.i64 j.list[k].kind, Value.int IntKind.i64 j.list[k].n, Value.string j.list[k].s, Value.slice D3 j.list[k].list.length d3, Value.slice D4 j.list[k].names.length d4] ⟨rfl, one5 _ _ _ _ _ _ _ _ _⟩ rfl _ _ rfl rfl rfl H6.out.rL (by have h1_ := hLN.out; have h2_ := hLL.out; have lE2 := congrArg List.length E2.out; rw [List.length_append, List.length_singleton] at lE2; have lE3 := congrArg List.length E3.out; rw [List.length_append, List.length_singleton] at lE3; have lE6 := congrArg List.length E6.out; rw [List.length_append, List.length_singleton] at lE6; omega) (fun v3 w9 hv3 hf3 => ?_); obtain ⟨m0, m1, m2, m3, _, _⟩ := H6.out.frL hf3; have H9 := H6.out.elem hv3 hf3; obtain ⟨LC9, hl_⟩ : ∃ z, z = LC3 ++ [[Value.int IntKind.i64 j.list[k].kind, Value.int IntKind.i64 j.list[k].n, Value.string j.list[k].s, Value.slice D3 j.list[k].list.length d3, Value.slice D4 j.list[k].names.length d4]] := ⟨_, rfl⟩; rw [← hl_] at H9 hv3; have E9 := Hd.mk hl_; clear hl_; obtain ⟨AA9, cc9, he_, _, _⟩ := R_C hv3; subst he_; have H9 := Hd.mk H9; have g9b0_3 : w9.cell? ⟨w.heap.size, 3, none⟩ = some (Value.slice (some ad3) j.list.length c3) := (m0).cell 3 rfl; have g9b0_4 : w9.cell? ⟨w.heap.size, 4, none⟩ = some (Value.slice (some ad4) j.names.length c4) := (m0).cell 4 rfl; have g9b0_z := (m0).frozen; have g9b1_0 : w9.cell? ⟨w.heap.size + 1, 0, none⟩ = some (Value.int IntKind.i64 v.kind) := (m1).cell 0 rfl; have g9b1_1 : w9.cell? ⟨w.heap.size + 1, 1, none⟩ = some (Value.int IntKind.i64 v.n) := (m1).cell 1 rfl; have g9b1_2 : w9.cell? ⟨w.heap.size + 1, 2, none⟩ = some (Value.string v.s) := (m1).cell 2 rfl; have g9b1_3 : w9.cell? ⟨w.heap.size + 1, 3, none⟩ = some (Value.slice B3 v.list.length e3) := (m1).cell 3 rfl; have g9b1_4 : w9.cell? ⟨w.heap.size + 1, 4, none⟩ = some (Value.slice B4 v.names.length e4) := (m1).cell 4 rfl; have g9b1_z := (m1).frozen; have g9b3_0 : w9.cell? ⟨w.heap.size + 3, 0, none⟩ = some (Value.int IntKind.i64 5) := (m3).cell 0 rfl; have g9b3_1 : w9.cell? ⟨w.heap.size + 3, 1, none⟩ = some (Value.int IntKind.i64 0) := (m3).cell 1 rfl; have g9b3_2 : w9.cell? ⟨w.heap.size + 3, 2, none⟩ = some (Value.string ⟨#[]⟩) := (m3).cell 2 rfl; have g9b3_3 : w9.cell? ⟨w.heap.size + 3, 3, none⟩ = some (Value.slice AA3 LC3.length cc3) := (m3).cell 3 rfl; have g9b3_4 : w9.cell? ⟨w.heap.size + 3, 4, none⟩ = some (Value.slice AA6 N6.length cc6) := (m3).cell 4 rfl; have g9b3_z := (m3).frozen; clear hv3 hf3 m0 m1 m2 m3)
            refine mixQ_n ?_
            refine tail_b rfl ?_ (by rfl)
            go_wp2_with fail
            refine mixQ_n ?_
            refine tail_b rfl ?_ (by rfl)
            go_wp2_with fail
            refine mixQ_n ?_
            refine tail_nil ?_
            clear g9b0_3 g9b0_4 g9b0_z g9b1_0 g9b1_1 g9b1_2 g9b1_3 g9b1_4 g9b1_z g9b3_0 g9b3_1 g9b3_2 g9b3_3 g9b3_4 g9b3_z
            obtain ⟨W10, hW⟩ : ∃ W, W = (w9.setCell ⟨w.heap.size + 3, 3, none⟩ (Value.slice AA9 LC9.length cc9)) := ⟨_, rfl⟩
            rw [← hW]
            have H9_ := H9.out
            rw [← hW] at H9_
            replace H9 := Hd.mk H9_; clear H9_ hW
            go_wp2_with fail
            go_roundw
            case rel => exact ⟨k + 1, true, _, _, _, _, _, _, _, by omega, rfl, by go_num, ⟨by rw [HPS2.out]; rw [E6.out, E2.out]⟩, ⟨by rw [E9.out, E3.out, HLC.out]; simp [HCK.out, HCn.out]⟩, H9⟩
            case measure => simp [intOf]; omega
          · have HPS2 := Hd.mk (show putS j.names s n (k + 1) = (true, (N ++ [s]), src ++ [n]) by
              show putOn s (j.names.getD k ⟨#[]⟩) k (putIn s n (j.names.getD k ⟨#[]⟩) (putS j.names s n k)) = _
              rw [HPS.out, HGD.out]; simp [putIn, putOn, hb, hge])
            have UA := trivial; have UB := trivial
            have fb0_3 : wr.cell? ⟨w.heap.size, 3, none⟩ = some (Value.slice (some ad3) j.list.length c3) := (H.out.b0).cell 3 rfl
            have fb0_4 : wr.cell? ⟨w.heap.size, 4, none⟩ = some (Value.slice (some ad4) j.names.length c4) := (H.out.b0).cell 4 rfl
            have fb0_z := (H.out.b0).frozen
            have fb1_0 : wr.cell? ⟨w.heap.size + 1, 0, none⟩ = some (Value.int IntKind.i64 v.kind) := (H.out.b1).cell 0 rfl
            have fb1_1 : wr.cell? ⟨w.heap.size + 1, 1, none⟩ = some (Value.int IntKind.i64 v.n) := (H.out.b1).cell 1 rfl
            have fb1_2 : wr.cell? ⟨w.heap.size + 1, 2, none⟩ = some (Value.string v.s) := (H.out.b1).cell 2 rfl
            have fb1_3 : wr.cell? ⟨w.heap.size + 1, 3, none⟩ = some (Value.slice B3 v.list.length e3) := (H.out.b1).cell 3 rfl
            have fb1_4 : wr.cell? ⟨w.heap.size + 1, 4, none⟩ = some (Value.slice B4 v.names.length e4) := (H.out.b1).cell 4 rfl
            have fb1_z := (H.out.b1).frozen
            have fb3_0 : wr.cell? ⟨w.heap.size + 3, 0, none⟩ = some (Value.int IntKind.i64 5) := (H.out.b3).cell 0 rfl
            have fb3_1 : wr.cell? ⟨w.heap.size + 3, 1, none⟩ = some (Value.int IntKind.i64 0) := (H.out.b3).cell 1 rfl
            have fb3_2 : wr.cell? ⟨w.heap.size + 3, 2, none⟩ = some (Value.string ⟨#[]⟩) := (H.out.b3).cell 2 rfl
            have fb3_3 : wr.cell? ⟨w.heap.size + 3, 3, none⟩ = some (Value.slice AL LC.length cL) := (H.out.b3).cell 3 rfl
            have fb3_4 : wr.cell? ⟨w.heap.size + 3, 4, none⟩ = some (Value.slice AN N.length cN) := (H.out.b3).cell 4 rfl
            have fb3_z := (H.out.b3).frozen
            have xn : wr.cell? (ad4.add k) = some (.string j.names[k]) := cell_below H.out.bl XN.out
            have x0 : wr.cell? (ad3.add (k * 5)) = some (Value.int IntKind.i64 j.list[k].kind) := cell_below H.out.bl XE.out.1
            have x1 : wr.cell? ⟨(ad3.add (k * 5)).block, (ad3.add (k * 5)).off + 1, none⟩ = some (Value.int IntKind.i64 j.list[k].n) := cell_below H.out.bl XE.out.2.1
            have x2 : wr.cell? ⟨(ad3.add (k * 5)).block, (ad3.add (k * 5)).off + 2, none⟩ = some (Value.string j.list[k].s) := cell_below H.out.bl XE.out.2.2.1
            have x3 : wr.cell? ⟨(ad3.add (k * 5)).block, (ad3.add (k * 5)).off + 3, none⟩ = some (Value.slice D3 j.list[k].list.length d3) := cell_below H.out.bl XE.out.2.2.2.1
            have x4 : wr.cell? ⟨(ad3.add (k * 5)).block, (ad3.add (k * 5)).off + 4, none⟩ = some (Value.slice D4 j.list[k].names.length d4) := cell_below H.out.bl XE.out.2.2.2.2
            go_wp2_with (first | (clear UA; at_builtin; refine append_s1 rfl rfl s (by omega) rfl _ _ rfl rfl rfl H.out.rN (by have h1_ := hLN.out; have h2_ := hLL.out; skip; omega) (fun v3 w2 hv3 hf3 => ?_); obtain ⟨m0, m1, m2, m3, _, _⟩ := H.out.frN hf3; have H2 := H.out.name hv3 hf3; obtain ⟨N2, hl_⟩ : ∃ z, z = N ++ [s] := ⟨_, rfl⟩; rw [← hl_] at H2 hv3; have E2 := Hd.mk hl_; clear hl_; obtain ⟨AA2, cc2, he_, _, _⟩ := R_C hv3; subst he_; have H2 := Hd.mk H2; have g2b0_3 : w2.cell? ⟨w.heap.size, 3, none⟩ = some (Value.slice (some ad3) j.list.length c3) := (m0).cell 3 rfl; have g2b0_4 : w2.cell? ⟨w.heap.size, 4, none⟩ = some (Value.slice (some ad4) j.names.length c4) := (m0).cell 4 rfl; have g2b0_z := (m0).frozen; have g2b1_0 : w2.cell? ⟨w.heap.size + 1, 0, none⟩ = some (Value.int IntKind.i64 v.kind) := (m1).cell 0 rfl; have g2b1_1 : w2.cell? ⟨w.heap.size + 1, 1, none⟩ = some (Value.int IntKind.i64 v.n) := (m1).cell 1 rfl; have g2b1_2 : w2.cell? ⟨w.heap.size + 1, 2, none⟩ = some (Value.string v.s) := (m1).cell 2 rfl; have g2b1_3 : w2.cell? ⟨w.heap.size + 1, 3, none⟩ = some (Value.slice B3 v.list.length e3) := (m1).cell 3 rfl; have g2b1_4 : w2.cell? ⟨w.heap.size + 1, 4, none⟩ = some (Value.slice B4 v.names.length e4) := (m1).cell 4 rfl; have g2b1_z := (m1).frozen; have g2b3_0 : w2.cell? ⟨w.heap.size + 3, 0, none⟩ = some (Value.int IntKind.i64 5) := (m3).cell 0 rfl; have g2b3_1 : w2.cell? ⟨w.heap.size + 3, 1, none⟩ = some (Value.int IntKind.i64 0) := (m3).cell 1 rfl; have g2b3_2 : w2.cell? ⟨w.heap.size + 3, 2, none⟩ = some (Value.string ⟨#[]⟩) := (m3).cell 2 rfl; have g2b3_3 : w2.cell? ⟨w.heap.size + 3, 3, none⟩ = some (Value.slice AL LC.length cL) := (m3).cell 3 rfl; have g2b3_4 : w2.cell? ⟨w.heap.size + 3, 4, none⟩ = some (Value.slice AN N.length cN) := (m3).cell 4 rfl; have g2b3_z := (m3).frozen; clear hv3 hf3 m0 m1 m2 m3) | (clear UB; at_builtin; refine append_r1 rfl (by simp) [Value.int IntKind.i64 v.kind, Value.int IntKind.i64 v.n, Value.string v.s, Value.slice B3 v.list.length e3, Value.slice B4 v.names.length e4] ⟨rfl, one5 _ _ _ _ _ _ _ _ _⟩ rfl _ _ rfl rfl rfl H2.out.rL (by have h1_ := hLN.out; have h2_ := hLL.out; have lE2 := congrArg List.length E2.out; rw [List.length_append, List.length_singleton] at lE2; omega) (fun v3 w3 hv3 hf3 => ?_); obtain ⟨m0, m1, m2, m3, _, _⟩ := H2.out.frL hf3; have H3 := H2.out.elem hv3 hf3; obtain ⟨LC3, hl_⟩ : ∃ z, z = LC ++ [[Value.int IntKind.i64 v.kind, Value.int IntKind.i64 v.n, Value.string v.s, Value.slice B3 v.list.length e3, Value.slice B4 v.names.length e4]] := ⟨_, rfl⟩; rw [← hl_] at H3 hv3; have E3 := Hd.mk hl_; clear hl_; obtain ⟨AA3, cc3, he_, _, _⟩ := R_C hv3; subst he_; have H3 := Hd.mk H3; have g3b0_3 : w3.cell? ⟨w.heap.size, 3, none⟩ = some (Value.slice (some ad3) j.list.length c3) := (m0).cell 3 rfl; have g3b0_4 : w3.cell? ⟨w.heap.size, 4, none⟩ = some (Value.slice (some ad4) j.names.length c4) := (m0).cell 4 rfl; have g3b0_z := (m0).frozen; have g3b1_0 : w3.cell? ⟨w.heap.size + 1, 0, none⟩ = some (Value.int IntKind.i64 v.kind) := (m1).cell 0 rfl; have g3b1_1 : w3.cell? ⟨w.heap.size + 1, 1, none⟩ = some (Value.int IntKind.i64 v.n) := (m1).cell 1 rfl; have g3b1_2 : w3.cell? ⟨w.heap.size + 1, 2, none⟩ = some (Value.string v.s) := (m1).cell 2 rfl; have g3b1_3 : w3.cell? ⟨w.heap.size + 1, 3, none⟩ = some (Value.slice B3 v.list.length e3) := (m1).cell 3 rfl; have g3b1_4 : w3.cell? ⟨w.heap.size + 1, 4, none⟩ = some (Value.slice B4 v.names.length e4) := (m1).cell 4 rfl; have g3b1_z := (m1).frozen; have g3b3_0 : w3.cell? ⟨w.heap.size + 3, 0, none⟩ = some (Value.int IntKind.i64 5) := (m3).cell 0 rfl; have g3b3_1 : w3.cell? ⟨w.heap.size + 3, 1, none⟩ = some (Value.int IntKind.i64 0) := (m3).cell 1 rfl; have g3b3_2 : w3.cell? ⟨w.heap.size + 3, 2, none⟩ = some (Value.string ⟨#[]⟩) := (m3).cell 2 rfl; have g3b3_3 : w3.cell? ⟨w.heap.size + 3, 3, none⟩ = some (Value.slice AL LC.length cL) := (m3).cell 3 rfl; have g3b3_4 : w3.cell? ⟨w.heap.size + 3, 4, none⟩ = some (Value.slice AA2 N2.length cc2) := (m3).cell 4 rfl; have g3b3_z := (m3).frozen; clear hv3 hf3 m0 m1 m2 m3; have g3x : (w3.setCell ⟨w.heap.size + 1 + 1 + 1, 3, none⟩ (Value.slice AA3 LC3.length cc3)).cell? (ad4.add k) = some (.string j.names[k]) := cell_below H3.out.bl XN.out))
            clear fb0_3 fb0_4 fb0_z fb1_0 fb1_1 fb1_2 fb1_3 fb1_4 fb1_z fb3_0 fb3_1 fb3_2 fb3_3 fb3_4 fb3_z g2b0_3 g2b0_4 g2b0_z g2b1_0 g2b1_1 g2b1_2 g2b1_3 g2b1_4 g2b1_z g2b3_0 g2b3_1 g2b3_2 g2b3_3 g2b3_4 g2b3_z g3b0_3 g3b0_4 g3b0_z g3b1_0 g3b1_1 g3b1_2 g3b1_3 g3b1_4 g3b1_z g3b3_0 g3b3_1 g3b3_2 g3b3_3 g3b3_4 g3b3_z g3x xn x0 x1 x2 x3 x4
            go_roundw
            case rel => exact ⟨k + 1, true, _, _, _, _, _, _, _, by omega, rfl, by go_num, ⟨by rw [HPS2.out]; rw [E2.out]⟩, ⟨by rw [E3.out, HLC.out]; simp [HCK.out, HCn.out]⟩, H3⟩
            case measure => simp [intOf]; omega
        · rw [hge] at hgq
          cases hb : (j.names[k].toList == s.toList)
          · have HPS2 := Hd.mk (show putS j.names s n (k + 1) = (false, N ++ [j.names[k]], src ++ [k]) by
              show putOn s (j.names.getD k ⟨#[]⟩) k (putIn s n (j.names.getD k ⟨#[]⟩) (putS j.names s n k)) = _
              rw [HPS.out, HGD.out]; simp [putIn, putOn, hb, hge])
            have fb0_3 : wr.cell? ⟨w.heap.size, 3, none⟩ = some (Value.slice (some ad3) j.list.length c3) := (H.out.b0).cell 3 rfl
            have fb0_4 : wr.cell? ⟨w.heap.size, 4, none⟩ = some (Value.slice (some ad4) j.names.length c4) := (H.out.b0).cell 4 rfl
            have fb0_z := (H.out.b0).frozen
            have fb1_0 : wr.cell? ⟨w.heap.size + 1, 0, none⟩ = some (Value.int IntKind.i64 v.kind) := (H.out.b1).cell 0 rfl
            have fb1_1 : wr.cell? ⟨w.heap.size + 1, 1, none⟩ = some (Value.int IntKind.i64 v.n) := (H.out.b1).cell 1 rfl
            have fb1_2 : wr.cell? ⟨w.heap.size + 1, 2, none⟩ = some (Value.string v.s) := (H.out.b1).cell 2 rfl
            have fb1_3 : wr.cell? ⟨w.heap.size + 1, 3, none⟩ = some (Value.slice B3 v.list.length e3) := (H.out.b1).cell 3 rfl
            have fb1_4 : wr.cell? ⟨w.heap.size + 1, 4, none⟩ = some (Value.slice B4 v.names.length e4) := (H.out.b1).cell 4 rfl
            have fb1_z := (H.out.b1).frozen
            have fb3_0 : wr.cell? ⟨w.heap.size + 3, 0, none⟩ = some (Value.int IntKind.i64 5) := (H.out.b3).cell 0 rfl
            have fb3_1 : wr.cell? ⟨w.heap.size + 3, 1, none⟩ = some (Value.int IntKind.i64 0) := (H.out.b3).cell 1 rfl
            have fb3_2 : wr.cell? ⟨w.heap.size + 3, 2, none⟩ = some (Value.string ⟨#[]⟩) := (H.out.b3).cell 2 rfl
            have fb3_3 : wr.cell? ⟨w.heap.size + 3, 3, none⟩ = some (Value.slice AL LC.length cL) := (H.out.b3).cell 3 rfl
            have fb3_4 : wr.cell? ⟨w.heap.size + 3, 4, none⟩ = some (Value.slice AN N.length cN) := (H.out.b3).cell 4 rfl
            have fb3_z := (H.out.b3).frozen
            have xn : wr.cell? (ad4.add k) = some (.string j.names[k]) := cell_below H.out.bl XN.out
            have x0 : wr.cell? (ad3.add (k * 5)) = some (Value.int IntKind.i64 j.list[k].kind) := cell_below H.out.bl XE.out.1
            have x1 : wr.cell? ⟨(ad3.add (k * 5)).block, (ad3.add (k * 5)).off + 1, none⟩ = some (Value.int IntKind.i64 j.list[k].n) := cell_below H.out.bl XE.out.2.1
            have x2 : wr.cell? ⟨(ad3.add (k * 5)).block, (ad3.add (k * 5)).off + 2, none⟩ = some (Value.string j.list[k].s) := cell_below H.out.bl XE.out.2.2.1
            have x3 : wr.cell? ⟨(ad3.add (k * 5)).block, (ad3.add (k * 5)).off + 3, none⟩ = some (Value.slice D3 j.list[k].list.length d3) := cell_below H.out.bl XE.out.2.2.2.1
            have x4 : wr.cell? ⟨(ad3.add (k * 5)).block, (ad3.add (k * 5)).off + 4, none⟩ = some (Value.slice D4 j.list[k].names.length d4) := cell_below H.out.bl XE.out.2.2.2.2
            go_wp2_with fail
            clear fb0_3 fb0_4 fb0_z fb1_0 fb1_1 fb1_2 fb1_3 fb1_4 fb1_z fb3_0 fb3_1 fb3_2 fb3_3 fb3_4 fb3_z xn x0 x1 x2 x3 x4
            have fb0_3 : wr.cell? ⟨w.heap.size, 3, none⟩ = some (Value.slice (some ad3) j.list.length c3) := (H.out.b0).cell 3 rfl
            have fb0_4 : wr.cell? ⟨w.heap.size, 4, none⟩ = some (Value.slice (some ad4) j.names.length c4) := (H.out.b0).cell 4 rfl
            have fb0_z := (H.out.b0).frozen
            have fb1_0 : wr.cell? ⟨w.heap.size + 1, 0, none⟩ = some (Value.int IntKind.i64 v.kind) := (H.out.b1).cell 0 rfl
            have fb1_1 : wr.cell? ⟨w.heap.size + 1, 1, none⟩ = some (Value.int IntKind.i64 v.n) := (H.out.b1).cell 1 rfl
            have fb1_2 : wr.cell? ⟨w.heap.size + 1, 2, none⟩ = some (Value.string v.s) := (H.out.b1).cell 2 rfl
            have fb1_3 : wr.cell? ⟨w.heap.size + 1, 3, none⟩ = some (Value.slice B3 v.list.length e3) := (H.out.b1).cell 3 rfl
            have fb1_4 : wr.cell? ⟨w.heap.size + 1, 4, none⟩ = some (Value.slice B4 v.names.length e4) := (H.out.b1).cell 4 rfl
            have fb1_z := (H.out.b1).frozen
            have fb3_0 : wr.cell? ⟨w.heap.size + 3, 0, none⟩ = some (Value.int IntKind.i64 5) := (H.out.b3).cell 0 rfl
            have fb3_1 : wr.cell? ⟨w.heap.size + 3, 1, none⟩ = some (Value.int IntKind.i64 0) := (H.out.b3).cell 1 rfl
            have fb3_2 : wr.cell? ⟨w.heap.size + 3, 2, none⟩ = some (Value.string ⟨#[]⟩) := (H.out.b3).cell 2 rfl
            have fb3_3 : wr.cell? ⟨w.heap.size + 3, 3, none⟩ = some (Value.slice AL LC.length cL) := (H.out.b3).cell 3 rfl
            have fb3_4 : wr.cell? ⟨w.heap.size + 3, 4, none⟩ = some (Value.slice AN N.length cN) := (H.out.b3).cell 4 rfl
            have fb3_z := (H.out.b3).frozen
            have xn : wr.cell? (ad4.add k) = some (.string j.names[k]) := cell_below H.out.bl XN.out
            have x0 : wr.cell? (ad3.add (k * 5)) = some (Value.int IntKind.i64 j.list[k].kind) := cell_below H.out.bl XE.out.1
            have x1 : wr.cell? ⟨(ad3.add (k * 5)).block, (ad3.add (k * 5)).off + 1, none⟩ = some (Value.int IntKind.i64 j.list[k].n) := cell_below H.out.bl XE.out.2.1
            have x2 : wr.cell? ⟨(ad3.add (k * 5)).block, (ad3.add (k * 5)).off + 2, none⟩ = some (Value.string j.list[k].s) := cell_below H.out.bl XE.out.2.2.1
            have x3 : wr.cell? ⟨(ad3.add (k * 5)).block, (ad3.add (k * 5)).off + 3, none⟩ = some (Value.slice D3 j.list[k].list.length d3) := cell_below H.out.bl XE.out.2.2.2.1
            have x4 : wr.cell? ⟨(ad3.add (k * 5)).block, (ad3.add (k * 5)).off + 4, none⟩ = some (Value.slice D4 j.list[k].names.length d4) := cell_below H.out.bl XE.out.2.2.2.2
            have rfb0_3 := cell_regrown fb0_3
            have rfb0_4 := cell_regrown fb0_4
            have rfb1_0 := cell_regrown fb1_0
            have rfb1_1 := cell_regrown fb1_1
            have rfb1_2 := cell_regrown fb1_2
            have rfb1_3 := cell_regrown fb1_3
            have rfb1_4 := cell_regrown fb1_4
            have rfb3_0 := cell_regrown fb3_0
            have rfb3_1 := cell_regrown fb3_1
            have rfb3_2 := cell_regrown fb3_2
            have rfb3_3 := cell_regrown fb3_3
            have rfb3_4 := cell_regrown fb3_4
            have rxn := cell_regrown xn
            have rx0 := cell_regrown x0
            have rx1 := cell_regrown x1
            have rx2 := cell_regrown x2
            have rx3 := cell_regrown x3
            have rx4 := cell_regrown x4
            refine region_mixT (.p 0 (.q 1 (.p 2 (.q 3 (.p 4 (.q 5 (.q 6 (.b 7 .fin)))))))) [8, 9, 10] (by kernel_rfl) (by kernel_rfl) (fun _ _ _ _ _ h => h) ?_
            refine genT ?_; intro W2 hW
            have hS := Hd.mk (show Below wr.heap.size wr W2 by rw [hW]; exact below_drew (Below.refl _ _)); clear hW
            replace H := Hd.mk (H.out.below hS.out)
            refine mixT_p rfl ?_
            go_big_quiet_want; go_big_quiet_op; go_big_quiet_on; refine wpQuiet_nil ?_
            refine mixT_q rfl ?_
            go_big_quiet_want; go_big_quiet_op; go_big_quiet_on; refine wpQuiet_nil ?_
            refine mixT_p rfl ?_
            go_big_quiet_want; go_big_quiet_op; go_big_quiet_on; refine wpQuiet_nil ?_
            refine mixT_q rfl ?_
            go_big_quiet_want; go_big_quiet_op; go_big_quiet_on; refine wpQuiet_nil ?_
            refine mixT_p rfl ?_
            go_big_quiet_want; go_big_quiet_op; go_big_quiet_on; refine wpQuiet_nil ?_
            refine mixT_q rfl ?_
            go_big_quiet_want; go_big_quiet_op; go_big_quiet_on; refine wpQuiet_nil ?_
            refine mixT_q rfl ?_
            go_big_quiet_want; go_big_quiet_op; go_big_quiet_on; refine wpQuiet_nil ?_
            refine mixT_b rfl ?_ (by rfl)
            go_wp2_with fail
            refine ⟨cls_below (below_alloc hS.out _), ?_⟩
            refine mixT_fin ?_
            clear hS rfb0_3 rfb0_4 rfb1_0 rfb1_1 rfb1_2 rfb1_3 rfb1_4 rfb3_0 rfb3_1 rfb3_2 rfb3_3 rfb3_4 rxn rx0 rx1 rx2 rx3 rx4
            clear fb0_3 fb0_4 fb0_z fb1_0 fb1_1 fb1_2 fb1_3 fb1_4 fb1_z fb3_0 fb3_1 fb3_2 fb3_3 fb3_4 fb3_z xn x0 x1 x2 x3 x4
            refine tail_b rfl ?_ (by rfl)
            go_wp2_with (at_builtin; refine append_s1 rfl rfl j.names[k] (by omega) rfl _ _ rfl rfl rfl H.out.rN (by have h1_ := hLN.out; have h2_ := hLL.out; skip; omega) (fun v3 w3 hv3 hf3 => ?_); obtain ⟨m0, m1, m2, m3, _, _⟩ := H.out.frN hf3; have H3 := H.out.name hv3 hf3; obtain ⟨N3, hl_⟩ : ∃ z, z = N ++ [j.names[k]] := ⟨_, rfl⟩; rw [← hl_] at H3 hv3; have E3 := Hd.mk hl_; clear hl_; obtain ⟨AA3, cc3, he_, _, _⟩ := R_C hv3; subst he_; have H3 := Hd.mk H3; have g3b0_3 : w3.cell? ⟨w.heap.size, 3, none⟩ = some (Value.slice (some ad3) j.list.length c3) := (m0).cell 3 rfl; have g3b0_4 : w3.cell? ⟨w.heap.size, 4, none⟩ = some (Value.slice (some ad4) j.names.length c4) := (m0).cell 4 rfl; have g3b0_z := (m0).frozen; have g3b1_0 : w3.cell? ⟨w.heap.size + 1, 0, none⟩ = some (Value.int IntKind.i64 v.kind) := (m1).cell 0 rfl; have g3b1_1 : w3.cell? ⟨w.heap.size + 1, 1, none⟩ = some (Value.int IntKind.i64 v.n) := (m1).cell 1 rfl; have g3b1_2 : w3.cell? ⟨w.heap.size + 1, 2, none⟩ = some (Value.string v.s) := (m1).cell 2 rfl; have g3b1_3 : w3.cell? ⟨w.heap.size + 1, 3, none⟩ = some (Value.slice B3 v.list.length e3) := (m1).cell 3 rfl; have g3b1_4 : w3.cell? ⟨w.heap.size + 1, 4, none⟩ = some (Value.slice B4 v.names.length e4) := (m1).cell 4 rfl; have g3b1_z := (m1).frozen; have g3b3_0 : w3.cell? ⟨w.heap.size + 3, 0, none⟩ = some (Value.int IntKind.i64 5) := (m3).cell 0 rfl; have g3b3_1 : w3.cell? ⟨w.heap.size + 3, 1, none⟩ = some (Value.int IntKind.i64 0) := (m3).cell 1 rfl; have g3b3_2 : w3.cell? ⟨w.heap.size + 3, 2, none⟩ = some (Value.string ⟨#[]⟩) := (m3).cell 2 rfl; have g3b3_3 : w3.cell? ⟨w.heap.size + 3, 3, none⟩ = some (Value.slice AL LC.length cL) := (m3).cell 3 rfl; have g3b3_4 : w3.cell? ⟨w.heap.size + 3, 4, none⟩ = some (Value.slice AN N.length cN) := (m3).cell 4 rfl; have g3b3_z := (m3).frozen; clear hv3 hf3 m0 m1 m2 m3)
            refine mixQ_n ?_
            refine tail_b rfl ?_ (by rfl)
            go_wp2_with fail
            refine mixQ_n ?_
            refine tail_b rfl ?_ (by rfl)
            go_wp2_with fail
            refine mixQ_n ?_
            refine tail_nil ?_
            clear g3b0_3 g3b0_4 g3b0_z g3b1_0 g3b1_1 g3b1_2 g3b1_3 g3b1_4 g3b1_z g3b3_0 g3b3_1 g3b3_2 g3b3_3 g3b3_4 g3b3_z
            obtain ⟨W4, hW⟩ : ∃ W, W = (w3.setCell ⟨w.heap.size + 3, 4, none⟩ (Value.slice AA3 N3.length cc3)) := ⟨_, rfl⟩
            rw [← hW]
            have H3_ := H3.out
            rw [← hW] at H3_
            replace H3 := Hd.mk H3_; clear H3_ hW
            go_wp2_with fail
            have fb0_3 : W4.cell? ⟨w.heap.size, 3, none⟩ = some (Value.slice (some ad3) j.list.length c3) := (H3.out.b0).cell 3 rfl
            have fb0_4 : W4.cell? ⟨w.heap.size, 4, none⟩ = some (Value.slice (some ad4) j.names.length c4) := (H3.out.b0).cell 4 rfl
            have fb0_z := (H3.out.b0).frozen
            have fb1_0 : W4.cell? ⟨w.heap.size + 1, 0, none⟩ = some (Value.int IntKind.i64 v.kind) := (H3.out.b1).cell 0 rfl
            have fb1_1 : W4.cell? ⟨w.heap.size + 1, 1, none⟩ = some (Value.int IntKind.i64 v.n) := (H3.out.b1).cell 1 rfl
            have fb1_2 : W4.cell? ⟨w.heap.size + 1, 2, none⟩ = some (Value.string v.s) := (H3.out.b1).cell 2 rfl
            have fb1_3 : W4.cell? ⟨w.heap.size + 1, 3, none⟩ = some (Value.slice B3 v.list.length e3) := (H3.out.b1).cell 3 rfl
            have fb1_4 : W4.cell? ⟨w.heap.size + 1, 4, none⟩ = some (Value.slice B4 v.names.length e4) := (H3.out.b1).cell 4 rfl
            have fb1_z := (H3.out.b1).frozen
            have fb3_0 : W4.cell? ⟨w.heap.size + 3, 0, none⟩ = some (Value.int IntKind.i64 5) := (H3.out.b3).cell 0 rfl
            have fb3_1 : W4.cell? ⟨w.heap.size + 3, 1, none⟩ = some (Value.int IntKind.i64 0) := (H3.out.b3).cell 1 rfl
            have fb3_2 : W4.cell? ⟨w.heap.size + 3, 2, none⟩ = some (Value.string ⟨#[]⟩) := (H3.out.b3).cell 2 rfl
            have fb3_3 : W4.cell? ⟨w.heap.size + 3, 3, none⟩ = some (Value.slice AL LC.length cL) := (H3.out.b3).cell 3 rfl
            have fb3_4 : W4.cell? ⟨w.heap.size + 3, 4, none⟩ = some (Value.slice AA3 N3.length cc3) := (H3.out.b3).cell 4 rfl
            have fb3_z := (H3.out.b3).frozen
            have xn : W4.cell? (ad4.add k) = some (.string j.names[k]) := cell_below H3.out.bl XN.out
            have x0 : W4.cell? (ad3.add (k * 5)) = some (Value.int IntKind.i64 j.list[k].kind) := cell_below H3.out.bl XE.out.1
            have x1 : W4.cell? ⟨(ad3.add (k * 5)).block, (ad3.add (k * 5)).off + 1, none⟩ = some (Value.int IntKind.i64 j.list[k].n) := cell_below H3.out.bl XE.out.2.1
            have x2 : W4.cell? ⟨(ad3.add (k * 5)).block, (ad3.add (k * 5)).off + 2, none⟩ = some (Value.string j.list[k].s) := cell_below H3.out.bl XE.out.2.2.1
            have x3 : W4.cell? ⟨(ad3.add (k * 5)).block, (ad3.add (k * 5)).off + 3, none⟩ = some (Value.slice D3 j.list[k].list.length d3) := cell_below H3.out.bl XE.out.2.2.2.1
            have x4 : W4.cell? ⟨(ad3.add (k * 5)).block, (ad3.add (k * 5)).off + 4, none⟩ = some (Value.slice D4 j.list[k].names.length d4) := cell_below H3.out.bl XE.out.2.2.2.2
            have rfb0_3 := cell_regrown fb0_3
            have rfb0_4 := cell_regrown fb0_4
            have rfb1_0 := cell_regrown fb1_0
            have rfb1_1 := cell_regrown fb1_1
            have rfb1_2 := cell_regrown fb1_2
            have rfb1_3 := cell_regrown fb1_3
            have rfb1_4 := cell_regrown fb1_4
            have rfb3_0 := cell_regrown fb3_0
            have rfb3_1 := cell_regrown fb3_1
            have rfb3_2 := cell_regrown fb3_2
            have rfb3_3 := cell_regrown fb3_3
            have rfb3_4 := cell_regrown fb3_4
            have rxn := cell_regrown xn
            have rx0 := cell_regrown x0
            have rx1 := cell_regrown x1
            have rx2 := cell_regrown x2
            have rx3 := cell_regrown x3
            have rx4 := cell_regrown x4
            refine region_mixT (.p 0 (.q 1 (.p 2 (.q 3 (.p 4 (.q 5 (.q 6 (.b 7 .fin)))))))) [8, 9, 10] (by kernel_rfl) (by kernel_rfl) (fun _ _ _ _ _ h => h) ?_
            refine genT ?_; intro W5 hW
            have hS := Hd.mk (show Below W4.heap.size W4 W5 by rw [hW]; exact below_drew (Below.refl _ _)); clear hW
            replace H3 := Hd.mk (H3.out.below hS.out)
            refine mixT_p rfl ?_
            go_big_quiet_want; go_big_quiet_op; go_big_quiet_on; refine wpQuiet_nil ?_
            refine mixT_q rfl ?_
            go_big_quiet_want; go_big_quiet_op; go_big_quiet_on; refine wpQuiet_nil ?_
            refine mixT_p rfl ?_
            go_big_quiet_want; go_big_quiet_op; go_big_quiet_on; refine wpQuiet_nil ?_
            refine mixT_q rfl ?_
            go_big_quiet_want; go_big_quiet_op; go_big_quiet_on; refine wpQuiet_nil ?_
            refine mixT_p rfl ?_
            go_big_quiet_want; go_big_quiet_op; go_big_quiet_on; refine wpQuiet_nil ?_
            refine mixT_q rfl ?_
            go_big_quiet_want; go_big_quiet_op; go_big_quiet_on; refine wpQuiet_nil ?_
            refine mixT_q rfl ?_
            go_big_quiet_want; go_big_quiet_op; go_big_quiet_on; refine wpQuiet_nil ?_
            refine mixT_b rfl ?_ (by rfl)
            go_wp2_with fail
            refine ⟨cls_below (below_alloc hS.out _), ?_⟩
            refine mixT_fin ?_
            clear hS rfb0_3 rfb0_4 rfb1_0 rfb1_1 rfb1_2 rfb1_3 rfb1_4 rfb3_0 rfb3_1 rfb3_2 rfb3_3 rfb3_4 rxn rx0 rx1 rx2 rx3 rx4
            clear fb0_3 fb0_4 fb0_z fb1_0 fb1_1 fb1_2 fb1_3 fb1_4 fb1_z fb3_0 fb3_1 fb3_2 fb3_3 fb3_4 fb3_z xn x0 x1 x2 x3 x4
            refine tail_b rfl ?_ (by rfl)
            go_wp2_with (at_builtin; refine append_r1 rfl rfl [Value.int IntKind.i64 j.list[k].kind, Value.int IntKind.i64 j.list[k].n, Value.string j.list[k].s, Value.slice D3 j.list[k].list.length d3, Value.slice D4 j.list[k].names.length d4] ⟨rfl, one5 _ _ _ _ _ _ _ _ _⟩ rfl _ _ rfl rfl rfl H3.out.rL (by have h1_ := hLN.out; have h2_ := hLL.out; have lE3 := congrArg List.length E3.out; rw [List.length_append, List.length_singleton] at lE3; omega) (fun v3 w6 hv3 hf3 => ?_); obtain ⟨m0, m1, m2, m3, _, _⟩ := H3.out.frL hf3; have H6 := H3.out.elem hv3 hf3; obtain ⟨LC6, hl_⟩ : ∃ z, z = LC ++ [[Value.int IntKind.i64 j.list[k].kind, Value.int IntKind.i64 j.list[k].n, Value.string j.list[k].s, Value.slice D3 j.list[k].list.length d3, Value.slice D4 j.list[k].names.length d4]] := ⟨_, rfl⟩; rw [← hl_] at H6 hv3; have E6 := Hd.mk hl_; clear hl_; obtain ⟨AA6, cc6, he_, _, _⟩ := R_C hv3; subst he_; have H6 := Hd.mk H6; have g6b0_3 : w6.cell? ⟨w.heap.size, 3, none⟩ = some (Value.slice (some ad3) j.list.length c3) := (m0).cell 3 rfl; have g6b0_4 : w6.cell? ⟨w.heap.size, 4, none⟩ = some (Value.slice (some ad4) j.names.length c4) := (m0).cell 4 rfl; have g6b0_z := (m0).frozen; have g6b1_0 : w6.cell? ⟨w.heap.size + 1, 0, none⟩ = some (Value.int IntKind.i64 v.kind) := (m1).cell 0 rfl; have g6b1_1 : w6.cell? ⟨w.heap.size + 1, 1, none⟩ = some (Value.int IntKind.i64 v.n) := (m1).cell 1 rfl; have g6b1_2 : w6.cell? ⟨w.heap.size + 1, 2, none⟩ = some (Value.string v.s) := (m1).cell 2 rfl; have g6b1_3 : w6.cell? ⟨w.heap.size + 1, 3, none⟩ = some (Value.slice B3 v.list.length e3) := (m1).cell 3 rfl; have g6b1_4 : w6.cell? ⟨w.heap.size + 1, 4, none⟩ = some (Value.slice B4 v.names.length e4) := (m1).cell 4 rfl; have g6b1_z := (m1).frozen; have g6b3_0 : w6.cell? ⟨w.heap.size + 3, 0, none⟩ = some (Value.int IntKind.i64 5) := (m3).cell 0 rfl; have g6b3_1 : w6.cell? ⟨w.heap.size + 3, 1, none⟩ = some (Value.int IntKind.i64 0) := (m3).cell 1 rfl; have g6b3_2 : w6.cell? ⟨w.heap.size + 3, 2, none⟩ = some (Value.string ⟨#[]⟩) := (m3).cell 2 rfl; have g6b3_3 : w6.cell? ⟨w.heap.size + 3, 3, none⟩ = some (Value.slice AL LC.length cL) := (m3).cell 3 rfl; have g6b3_4 : w6.cell? ⟨w.heap.size + 3, 4, none⟩ = some (Value.slice AA3 N3.length cc3) := (m3).cell 4 rfl; have g6b3_z := (m3).frozen; clear hv3 hf3 m0 m1 m2 m3)
            refine mixQ_n ?_
            refine tail_b rfl ?_ (by rfl)
            go_wp2_with fail
            refine mixQ_n ?_
            refine tail_b rfl ?_ (by rfl)
            go_wp2_with fail
            refine mixQ_n ?_
            refine tail_nil ?_
            clear g6b0_3 g6b0_4 g6b0_z g6b1_0 g6b1_1 g6b1_2 g6b1_3 g6b1_4 g6b1_z g6b3_0 g6b3_1 g6b3_2 g6b3_3 g6b3_4 g6b3_z
            obtain ⟨W7, hW⟩ : ∃ W, W = (w6.setCell ⟨w.heap.size + 3, 3, none⟩ (Value.slice AA6 LC6.length cc6)) := ⟨_, rfl⟩
            rw [← hW]
            have H6_ := H6.out
            rw [← hW] at H6_
            replace H6 := Hd.mk H6_; clear H6_ hW
            go_wp2_with fail
            go_roundw
            case rel => exact ⟨k + 1, false, _, _, _, _, _, _, _, by omega, rfl, by go_num, ⟨by rw [HPS2.out]; rw [E3.out]⟩, ⟨by rw [E6.out, HLC.out]; simp [HCK.out, HCn.out]⟩, H6⟩
            case measure => simp [intOf]; omega
          · have HPS2 := Hd.mk (show putS j.names s n (k + 1) = (false, N, src) by
              show putOn s (j.names.getD k ⟨#[]⟩) k (putIn s n (j.names.getD k ⟨#[]⟩) (putS j.names s n k)) = _
              rw [HPS.out, HGD.out]; simp [putIn, putOn, hb, hge])
            have fb0_3 : wr.cell? ⟨w.heap.size, 3, none⟩ = some (Value.slice (some ad3) j.list.length c3) := (H.out.b0).cell 3 rfl
            have fb0_4 : wr.cell? ⟨w.heap.size, 4, none⟩ = some (Value.slice (some ad4) j.names.length c4) := (H.out.b0).cell 4 rfl
            have fb0_z := (H.out.b0).frozen
            have fb1_0 : wr.cell? ⟨w.heap.size + 1, 0, none⟩ = some (Value.int IntKind.i64 v.kind) := (H.out.b1).cell 0 rfl
            have fb1_1 : wr.cell? ⟨w.heap.size + 1, 1, none⟩ = some (Value.int IntKind.i64 v.n) := (H.out.b1).cell 1 rfl
            have fb1_2 : wr.cell? ⟨w.heap.size + 1, 2, none⟩ = some (Value.string v.s) := (H.out.b1).cell 2 rfl
            have fb1_3 : wr.cell? ⟨w.heap.size + 1, 3, none⟩ = some (Value.slice B3 v.list.length e3) := (H.out.b1).cell 3 rfl
            have fb1_4 : wr.cell? ⟨w.heap.size + 1, 4, none⟩ = some (Value.slice B4 v.names.length e4) := (H.out.b1).cell 4 rfl
            have fb1_z := (H.out.b1).frozen
            have fb3_0 : wr.cell? ⟨w.heap.size + 3, 0, none⟩ = some (Value.int IntKind.i64 5) := (H.out.b3).cell 0 rfl
            have fb3_1 : wr.cell? ⟨w.heap.size + 3, 1, none⟩ = some (Value.int IntKind.i64 0) := (H.out.b3).cell 1 rfl
            have fb3_2 : wr.cell? ⟨w.heap.size + 3, 2, none⟩ = some (Value.string ⟨#[]⟩) := (H.out.b3).cell 2 rfl
            have fb3_3 : wr.cell? ⟨w.heap.size + 3, 3, none⟩ = some (Value.slice AL LC.length cL) := (H.out.b3).cell 3 rfl
            have fb3_4 : wr.cell? ⟨w.heap.size + 3, 4, none⟩ = some (Value.slice AN N.length cN) := (H.out.b3).cell 4 rfl
            have fb3_z := (H.out.b3).frozen
            have xn : wr.cell? (ad4.add k) = some (.string j.names[k]) := cell_below H.out.bl XN.out
            have x0 : wr.cell? (ad3.add (k * 5)) = some (Value.int IntKind.i64 j.list[k].kind) := cell_below H.out.bl XE.out.1
            have x1 : wr.cell? ⟨(ad3.add (k * 5)).block, (ad3.add (k * 5)).off + 1, none⟩ = some (Value.int IntKind.i64 j.list[k].n) := cell_below H.out.bl XE.out.2.1
            have x2 : wr.cell? ⟨(ad3.add (k * 5)).block, (ad3.add (k * 5)).off + 2, none⟩ = some (Value.string j.list[k].s) := cell_below H.out.bl XE.out.2.2.1
            have x3 : wr.cell? ⟨(ad3.add (k * 5)).block, (ad3.add (k * 5)).off + 3, none⟩ = some (Value.slice D3 j.list[k].list.length d3) := cell_below H.out.bl XE.out.2.2.2.1
            have x4 : wr.cell? ⟨(ad3.add (k * 5)).block, (ad3.add (k * 5)).off + 4, none⟩ = some (Value.slice D4 j.list[k].names.length d4) := cell_below H.out.bl XE.out.2.2.2.2
            go_wp2_with fail
            clear fb0_3 fb0_4 fb0_z fb1_0 fb1_1 fb1_2 fb1_3 fb1_4 fb1_z fb3_0 fb3_1 fb3_2 fb3_3 fb3_4 fb3_z xn x0 x1 x2 x3 x4
            go_roundw
            case rel => exact ⟨k + 1, false, _, _, _, _, _, _, _, by omega, rfl, by go_num, ⟨by rw [HPS2.out]⟩, ⟨by exact HLC.out⟩, H⟩
            case measure => simp [intOf]; omega
      · cases hb : (j.names[k].toList == s.toList)
        · have HPS2 := Hd.mk (show putS j.names s n (k + 1) = (true, N ++ [j.names[k]], src ++ [k]) by
            show putOn s (j.names.getD k ⟨#[]⟩) k (putIn s n (j.names.getD k ⟨#[]⟩) (putS j.names s n k)) = _
            rw [HPS.out, HGD.out]; simp [putIn, putOn, hb])
          have fb0_3 : wr.cell? ⟨w.heap.size, 3, none⟩ = some (Value.slice (some ad3) j.list.length c3) := (H.out.b0).cell 3 rfl
          have fb0_4 : wr.cell? ⟨w.heap.size, 4, none⟩ = some (Value.slice (some ad4) j.names.length c4) := (H.out.b0).cell 4 rfl
          have fb0_z := (H.out.b0).frozen
          have fb1_0 : wr.cell? ⟨w.heap.size + 1, 0, none⟩ = some (Value.int IntKind.i64 v.kind) := (H.out.b1).cell 0 rfl
          have fb1_1 : wr.cell? ⟨w.heap.size + 1, 1, none⟩ = some (Value.int IntKind.i64 v.n) := (H.out.b1).cell 1 rfl
          have fb1_2 : wr.cell? ⟨w.heap.size + 1, 2, none⟩ = some (Value.string v.s) := (H.out.b1).cell 2 rfl
          have fb1_3 : wr.cell? ⟨w.heap.size + 1, 3, none⟩ = some (Value.slice B3 v.list.length e3) := (H.out.b1).cell 3 rfl
          have fb1_4 : wr.cell? ⟨w.heap.size + 1, 4, none⟩ = some (Value.slice B4 v.names.length e4) := (H.out.b1).cell 4 rfl
          have fb1_z := (H.out.b1).frozen
          have fb3_0 : wr.cell? ⟨w.heap.size + 3, 0, none⟩ = some (Value.int IntKind.i64 5) := (H.out.b3).cell 0 rfl
          have fb3_1 : wr.cell? ⟨w.heap.size + 3, 1, none⟩ = some (Value.int IntKind.i64 0) := (H.out.b3).cell 1 rfl
          have fb3_2 : wr.cell? ⟨w.heap.size + 3, 2, none⟩ = some (Value.string ⟨#[]⟩) := (H.out.b3).cell 2 rfl
          have fb3_3 : wr.cell? ⟨w.heap.size + 3, 3, none⟩ = some (Value.slice AL LC.length cL) := (H.out.b3).cell 3 rfl
          have fb3_4 : wr.cell? ⟨w.heap.size + 3, 4, none⟩ = some (Value.slice AN N.length cN) := (H.out.b3).cell 4 rfl
          have fb3_z := (H.out.b3).frozen
          have xn : wr.cell? (ad4.add k) = some (.string j.names[k]) := cell_below H.out.bl XN.out
          have x0 : wr.cell? (ad3.add (k * 5)) = some (Value.int IntKind.i64 j.list[k].kind) := cell_below H.out.bl XE.out.1
          have x1 : wr.cell? ⟨(ad3.add (k * 5)).block, (ad3.add (k * 5)).off + 1, none⟩ = some (Value.int IntKind.i64 j.list[k].n) := cell_below H.out.bl XE.out.2.1
          have x2 : wr.cell? ⟨(ad3.add (k * 5)).block, (ad3.add (k * 5)).off + 2, none⟩ = some (Value.string j.list[k].s) := cell_below H.out.bl XE.out.2.2.1
          have x3 : wr.cell? ⟨(ad3.add (k * 5)).block, (ad3.add (k * 5)).off + 3, none⟩ = some (Value.slice D3 j.list[k].list.length d3) := cell_below H.out.bl XE.out.2.2.2.1
          have x4 : wr.cell? ⟨(ad3.add (k * 5)).block, (ad3.add (k * 5)).off + 4, none⟩ = some (Value.slice D4 j.list[k].names.length d4) := cell_below H.out.bl XE.out.2.2.2.2
          go_wp2_with fail
          clear fb0_3 fb0_4 fb0_z fb1_0 fb1_1 fb1_2 fb1_3 fb1_4 fb1_z fb3_0 fb3_1 fb3_2 fb3_3 fb3_4 fb3_z xn x0 x1 x2 x3 x4
          have fb0_3 : wr.cell? ⟨w.heap.size, 3, none⟩ = some (Value.slice (some ad3) j.list.length c3) := (H.out.b0).cell 3 rfl
          have fb0_4 : wr.cell? ⟨w.heap.size, 4, none⟩ = some (Value.slice (some ad4) j.names.length c4) := (H.out.b0).cell 4 rfl
          have fb0_z := (H.out.b0).frozen
          have fb1_0 : wr.cell? ⟨w.heap.size + 1, 0, none⟩ = some (Value.int IntKind.i64 v.kind) := (H.out.b1).cell 0 rfl
          have fb1_1 : wr.cell? ⟨w.heap.size + 1, 1, none⟩ = some (Value.int IntKind.i64 v.n) := (H.out.b1).cell 1 rfl
          have fb1_2 : wr.cell? ⟨w.heap.size + 1, 2, none⟩ = some (Value.string v.s) := (H.out.b1).cell 2 rfl
          have fb1_3 : wr.cell? ⟨w.heap.size + 1, 3, none⟩ = some (Value.slice B3 v.list.length e3) := (H.out.b1).cell 3 rfl
          have fb1_4 : wr.cell? ⟨w.heap.size + 1, 4, none⟩ = some (Value.slice B4 v.names.length e4) := (H.out.b1).cell 4 rfl
          have fb1_z := (H.out.b1).frozen
          have fb3_0 : wr.cell? ⟨w.heap.size + 3, 0, none⟩ = some (Value.int IntKind.i64 5) := (H.out.b3).cell 0 rfl
          have fb3_1 : wr.cell? ⟨w.heap.size + 3, 1, none⟩ = some (Value.int IntKind.i64 0) := (H.out.b3).cell 1 rfl
          have fb3_2 : wr.cell? ⟨w.heap.size + 3, 2, none⟩ = some (Value.string ⟨#[]⟩) := (H.out.b3).cell 2 rfl
          have fb3_3 : wr.cell? ⟨w.heap.size + 3, 3, none⟩ = some (Value.slice AL LC.length cL) := (H.out.b3).cell 3 rfl
          have fb3_4 : wr.cell? ⟨w.heap.size + 3, 4, none⟩ = some (Value.slice AN N.length cN) := (H.out.b3).cell 4 rfl
          have fb3_z := (H.out.b3).frozen
          have xn : wr.cell? (ad4.add k) = some (.string j.names[k]) := cell_below H.out.bl XN.out
          have x0 : wr.cell? (ad3.add (k * 5)) = some (Value.int IntKind.i64 j.list[k].kind) := cell_below H.out.bl XE.out.1
          have x1 : wr.cell? ⟨(ad3.add (k * 5)).block, (ad3.add (k * 5)).off + 1, none⟩ = some (Value.int IntKind.i64 j.list[k].n) := cell_below H.out.bl XE.out.2.1
          have x2 : wr.cell? ⟨(ad3.add (k * 5)).block, (ad3.add (k * 5)).off + 2, none⟩ = some (Value.string j.list[k].s) := cell_below H.out.bl XE.out.2.2.1
          have x3 : wr.cell? ⟨(ad3.add (k * 5)).block, (ad3.add (k * 5)).off + 3, none⟩ = some (Value.slice D3 j.list[k].list.length d3) := cell_below H.out.bl XE.out.2.2.2.1
          have x4 : wr.cell? ⟨(ad3.add (k * 5)).block, (ad3.add (k * 5)).off + 4, none⟩ = some (Value.slice D4 j.list[k].names.length d4) := cell_below H.out.bl XE.out.2.2.2.2
          have rfb0_3 := cell_regrown fb0_3
          have rfb0_4 := cell_regrown fb0_4
          have rfb1_0 := cell_regrown fb1_0
          have rfb1_1 := cell_regrown fb1_1
          have rfb1_2 := cell_regrown fb1_2
          have rfb1_3 := cell_regrown fb1_3
          have rfb1_4 := cell_regrown fb1_4
          have rfb3_0 := cell_regrown fb3_0
          have rfb3_1 := cell_regrown fb3_1
          have rfb3_2 := cell_regrown fb3_2
          have rfb3_3 := cell_regrown fb3_3
          have rfb3_4 := cell_regrown fb3_4
          have rxn := cell_regrown xn
          have rx0 := cell_regrown x0
          have rx1 := cell_regrown x1
          have rx2 := cell_regrown x2
          have rx3 := cell_regrown x3
          have rx4 := cell_regrown x4
          refine region_mixT (.p 0 (.q 1 (.p 2 (.q 3 (.p 4 (.q 5 (.q 6 (.b 7 .fin)))))))) [8, 9, 10] (by kernel_rfl) (by kernel_rfl) (fun _ _ _ _ _ h => h) ?_
          refine genT ?_; intro W2 hW
          have hS := Hd.mk (show Below wr.heap.size wr W2 by rw [hW]; exact below_drew (Below.refl _ _)); clear hW
          replace H := Hd.mk (H.out.below hS.out)
          refine mixT_p rfl ?_
          go_big_quiet_want; go_big_quiet_op; go_big_quiet_on; refine wpQuiet_nil ?_
          refine mixT_q rfl ?_
          go_big_quiet_want; go_big_quiet_op; go_big_quiet_on; refine wpQuiet_nil ?_
          refine mixT_p rfl ?_
          go_big_quiet_want; go_big_quiet_op; go_big_quiet_on; refine wpQuiet_nil ?_
          refine mixT_q rfl ?_
          go_big_quiet_want; go_big_quiet_op; go_big_quiet_on; refine wpQuiet_nil ?_
          refine mixT_p rfl ?_
          go_big_quiet_want; go_big_quiet_op; go_big_quiet_on; refine wpQuiet_nil ?_
          refine mixT_q rfl ?_
          go_big_quiet_want; go_big_quiet_op; go_big_quiet_on; refine wpQuiet_nil ?_
          refine mixT_q rfl ?_
          go_big_quiet_want; go_big_quiet_op; go_big_quiet_on; refine wpQuiet_nil ?_
          refine mixT_b rfl ?_ (by rfl)
          go_wp2_with fail
          refine ⟨cls_below (below_alloc hS.out _), ?_⟩
          refine mixT_fin ?_
          clear hS rfb0_3 rfb0_4 rfb1_0 rfb1_1 rfb1_2 rfb1_3 rfb1_4 rfb3_0 rfb3_1 rfb3_2 rfb3_3 rfb3_4 rxn rx0 rx1 rx2 rx3 rx4
          clear fb0_3 fb0_4 fb0_z fb1_0 fb1_1 fb1_2 fb1_3 fb1_4 fb1_z fb3_0 fb3_1 fb3_2 fb3_3 fb3_4 fb3_z xn x0 x1 x2 x3 x4
          refine tail_b rfl ?_ (by rfl)
          go_wp2_with (at_builtin; refine append_s1 rfl rfl j.names[k] (by omega) rfl _ _ rfl rfl rfl H.out.rN (by have h1_ := hLN.out; have h2_ := hLL.out; skip; omega) (fun v3 w3 hv3 hf3 => ?_); obtain ⟨m0, m1, m2, m3, _, _⟩ := H.out.frN hf3; have H3 := H.out.name hv3 hf3; obtain ⟨N3, hl_⟩ : ∃ z, z = N ++ [j.names[k]] := ⟨_, rfl⟩; rw [← hl_] at H3 hv3; have E3 := Hd.mk hl_; clear hl_; obtain ⟨AA3, cc3, he_, _, _⟩ := R_C hv3; subst he_; have H3 := Hd.mk H3; have g3b0_3 : w3.cell? ⟨w.heap.size, 3, none⟩ = some (Value.slice (some ad3) j.list.length c3) := (m0).cell 3 rfl; have g3b0_4 : w3.cell? ⟨w.heap.size, 4, none⟩ = some (Value.slice (some ad4) j.names.length c4) := (m0).cell 4 rfl; have g3b0_z := (m0).frozen; have g3b1_0 : w3.cell? ⟨w.heap.size + 1, 0, none⟩ = some (Value.int IntKind.i64 v.kind) := (m1).cell 0 rfl; have g3b1_1 : w3.cell? ⟨w.heap.size + 1, 1, none⟩ = some (Value.int IntKind.i64 v.n) := (m1).cell 1 rfl; have g3b1_2 : w3.cell? ⟨w.heap.size + 1, 2, none⟩ = some (Value.string v.s) := (m1).cell 2 rfl; have g3b1_3 : w3.cell? ⟨w.heap.size + 1, 3, none⟩ = some (Value.slice B3 v.list.length e3) := (m1).cell 3 rfl; have g3b1_4 : w3.cell? ⟨w.heap.size + 1, 4, none⟩ = some (Value.slice B4 v.names.length e4) := (m1).cell 4 rfl; have g3b1_z := (m1).frozen; have g3b3_0 : w3.cell? ⟨w.heap.size + 3, 0, none⟩ = some (Value.int IntKind.i64 5) := (m3).cell 0 rfl; have g3b3_1 : w3.cell? ⟨w.heap.size + 3, 1, none⟩ = some (Value.int IntKind.i64 0) := (m3).cell 1 rfl; have g3b3_2 : w3.cell? ⟨w.heap.size + 3, 2, none⟩ = some (Value.string ⟨#[]⟩) := (m3).cell 2 rfl; have g3b3_3 : w3.cell? ⟨w.heap.size + 3, 3, none⟩ = some (Value.slice AL LC.length cL) := (m3).cell 3 rfl; have g3b3_4 : w3.cell? ⟨w.heap.size + 3, 4, none⟩ = some (Value.slice AN N.length cN) := (m3).cell 4 rfl; have g3b3_z := (m3).frozen; clear hv3 hf3 m0 m1 m2 m3)
          refine mixQ_n ?_
          refine tail_b rfl ?_ (by rfl)
          go_wp2_with fail
          refine mixQ_n ?_
          refine tail_b rfl ?_ (by rfl)
          go_wp2_with fail
          refine mixQ_n ?_
          refine tail_nil ?_
          clear g3b0_3 g3b0_4 g3b0_z g3b1_0 g3b1_1 g3b1_2 g3b1_3 g3b1_4 g3b1_z g3b3_0 g3b3_1 g3b3_2 g3b3_3 g3b3_4 g3b3_z
          obtain ⟨W4, hW⟩ : ∃ W, W = (w3.setCell ⟨w.heap.size + 3, 4, none⟩ (Value.slice AA3 N3.length cc3)) := ⟨_, rfl⟩
          rw [← hW]
          have H3_ := H3.out
          rw [← hW] at H3_
          replace H3 := Hd.mk H3_; clear H3_ hW
          go_wp2_with fail
          have fb0_3 : W4.cell? ⟨w.heap.size, 3, none⟩ = some (Value.slice (some ad3) j.list.length c3) := (H3.out.b0).cell 3 rfl
          have fb0_4 : W4.cell? ⟨w.heap.size, 4, none⟩ = some (Value.slice (some ad4) j.names.length c4) := (H3.out.b0).cell 4 rfl
          have fb0_z := (H3.out.b0).frozen
          have fb1_0 : W4.cell? ⟨w.heap.size + 1, 0, none⟩ = some (Value.int IntKind.i64 v.kind) := (H3.out.b1).cell 0 rfl
          have fb1_1 : W4.cell? ⟨w.heap.size + 1, 1, none⟩ = some (Value.int IntKind.i64 v.n) := (H3.out.b1).cell 1 rfl
          have fb1_2 : W4.cell? ⟨w.heap.size + 1, 2, none⟩ = some (Value.string v.s) := (H3.out.b1).cell 2 rfl
          have fb1_3 : W4.cell? ⟨w.heap.size + 1, 3, none⟩ = some (Value.slice B3 v.list.length e3) := (H3.out.b1).cell 3 rfl
          have fb1_4 : W4.cell? ⟨w.heap.size + 1, 4, none⟩ = some (Value.slice B4 v.names.length e4) := (H3.out.b1).cell 4 rfl
          have fb1_z := (H3.out.b1).frozen
          have fb3_0 : W4.cell? ⟨w.heap.size + 3, 0, none⟩ = some (Value.int IntKind.i64 5) := (H3.out.b3).cell 0 rfl
          have fb3_1 : W4.cell? ⟨w.heap.size + 3, 1, none⟩ = some (Value.int IntKind.i64 0) := (H3.out.b3).cell 1 rfl
          have fb3_2 : W4.cell? ⟨w.heap.size + 3, 2, none⟩ = some (Value.string ⟨#[]⟩) := (H3.out.b3).cell 2 rfl
          have fb3_3 : W4.cell? ⟨w.heap.size + 3, 3, none⟩ = some (Value.slice AL LC.length cL) := (H3.out.b3).cell 3 rfl
          have fb3_4 : W4.cell? ⟨w.heap.size + 3, 4, none⟩ = some (Value.slice AA3 N3.length cc3) := (H3.out.b3).cell 4 rfl
          have fb3_z := (H3.out.b3).frozen
          have xn : W4.cell? (ad4.add k) = some (.string j.names[k]) := cell_below H3.out.bl XN.out
          have x0 : W4.cell? (ad3.add (k * 5)) = some (Value.int IntKind.i64 j.list[k].kind) := cell_below H3.out.bl XE.out.1
          have x1 : W4.cell? ⟨(ad3.add (k * 5)).block, (ad3.add (k * 5)).off + 1, none⟩ = some (Value.int IntKind.i64 j.list[k].n) := cell_below H3.out.bl XE.out.2.1
          have x2 : W4.cell? ⟨(ad3.add (k * 5)).block, (ad3.add (k * 5)).off + 2, none⟩ = some (Value.string j.list[k].s) := cell_below H3.out.bl XE.out.2.2.1
          have x3 : W4.cell? ⟨(ad3.add (k * 5)).block, (ad3.add (k * 5)).off + 3, none⟩ = some (Value.slice D3 j.list[k].list.length d3) := cell_below H3.out.bl XE.out.2.2.2.1
          have x4 : W4.cell? ⟨(ad3.add (k * 5)).block, (ad3.add (k * 5)).off + 4, none⟩ = some (Value.slice D4 j.list[k].names.length d4) := cell_below H3.out.bl XE.out.2.2.2.2
          have rfb0_3 := cell_regrown fb0_3
          have rfb0_4 := cell_regrown fb0_4
          have rfb1_0 := cell_regrown fb1_0
          have rfb1_1 := cell_regrown fb1_1
          have rfb1_2 := cell_regrown fb1_2
          have rfb1_3 := cell_regrown fb1_3
          have rfb1_4 := cell_regrown fb1_4
          have rfb3_0 := cell_regrown fb3_0
          have rfb3_1 := cell_regrown fb3_1
          have rfb3_2 := cell_regrown fb3_2
          have rfb3_3 := cell_regrown fb3_3
          have rfb3_4 := cell_regrown fb3_4
          have rxn := cell_regrown xn
          have rx0 := cell_regrown x0
          have rx1 := cell_regrown x1
          have rx2 := cell_regrown x2
          have rx3 := cell_regrown x3
          have rx4 := cell_regrown x4
          refine region_mixT (.p 0 (.q 1 (.p 2 (.q 3 (.p 4 (.q 5 (.q 6 (.b 7 .fin)))))))) [8, 9, 10] (by kernel_rfl) (by kernel_rfl) (fun _ _ _ _ _ h => h) ?_
          refine genT ?_; intro W5 hW
          have hS := Hd.mk (show Below W4.heap.size W4 W5 by rw [hW]; exact below_drew (Below.refl _ _)); clear hW
          replace H3 := Hd.mk (H3.out.below hS.out)
          refine mixT_p rfl ?_
          go_big_quiet_want; go_big_quiet_op; go_big_quiet_on; refine wpQuiet_nil ?_
          refine mixT_q rfl ?_
          go_big_quiet_want; go_big_quiet_op; go_big_quiet_on; refine wpQuiet_nil ?_
          refine mixT_p rfl ?_
          go_big_quiet_want; go_big_quiet_op; go_big_quiet_on; refine wpQuiet_nil ?_
          refine mixT_q rfl ?_
          go_big_quiet_want; go_big_quiet_op; go_big_quiet_on; refine wpQuiet_nil ?_
          refine mixT_p rfl ?_
          go_big_quiet_want; go_big_quiet_op; go_big_quiet_on; refine wpQuiet_nil ?_
          refine mixT_q rfl ?_
          go_big_quiet_want; go_big_quiet_op; go_big_quiet_on; refine wpQuiet_nil ?_
          refine mixT_q rfl ?_
          go_big_quiet_want; go_big_quiet_op; go_big_quiet_on; refine wpQuiet_nil ?_
          refine mixT_b rfl ?_ (by rfl)
          go_wp2_with fail
          refine ⟨cls_below (below_alloc hS.out _), ?_⟩
          refine mixT_fin ?_
          clear hS rfb0_3 rfb0_4 rfb1_0 rfb1_1 rfb1_2 rfb1_3 rfb1_4 rfb3_0 rfb3_1 rfb3_2 rfb3_3 rfb3_4 rxn rx0 rx1 rx2 rx3 rx4
          clear fb0_3 fb0_4 fb0_z fb1_0 fb1_1 fb1_2 fb1_3 fb1_4 fb1_z fb3_0 fb3_1 fb3_2 fb3_3 fb3_4 fb3_z xn x0 x1 x2 x3 x4
          refine tail_b rfl ?_ (by rfl)
          go_wp2_with (at_builtin; refine append_r1 rfl rfl [Value.int IntKind.i64 j.list[k].kind, Value.int IntKind.i64 j.list[k].n, Value.string j.list[k].s, Value.slice D3 j.list[k].list.length d3, Value.slice D4 j.list[k].names.length d4] ⟨rfl, one5 _ _ _ _ _ _ _ _ _⟩ rfl _ _ rfl rfl rfl H3.out.rL (by have h1_ := hLN.out; have h2_ := hLL.out; have lE3 := congrArg List.length E3.out; rw [List.length_append, List.length_singleton] at lE3; omega) (fun v3 w6 hv3 hf3 => ?_); obtain ⟨m0, m1, m2, m3, _, _⟩ := H3.out.frL hf3; have H6 := H3.out.elem hv3 hf3; obtain ⟨LC6, hl_⟩ : ∃ z, z = LC ++ [[Value.int IntKind.i64 j.list[k].kind, Value.int IntKind.i64 j.list[k].n, Value.string j.list[k].s, Value.slice D3 j.list[k].list.length d3, Value.slice D4 j.list[k].names.length d4]] := ⟨_, rfl⟩; rw [← hl_] at H6 hv3; have E6 := Hd.mk hl_; clear hl_; obtain ⟨AA6, cc6, he_, _, _⟩ := R_C hv3; subst he_; have H6 := Hd.mk H6; have g6b0_3 : w6.cell? ⟨w.heap.size, 3, none⟩ = some (Value.slice (some ad3) j.list.length c3) := (m0).cell 3 rfl; have g6b0_4 : w6.cell? ⟨w.heap.size, 4, none⟩ = some (Value.slice (some ad4) j.names.length c4) := (m0).cell 4 rfl; have g6b0_z := (m0).frozen; have g6b1_0 : w6.cell? ⟨w.heap.size + 1, 0, none⟩ = some (Value.int IntKind.i64 v.kind) := (m1).cell 0 rfl; have g6b1_1 : w6.cell? ⟨w.heap.size + 1, 1, none⟩ = some (Value.int IntKind.i64 v.n) := (m1).cell 1 rfl; have g6b1_2 : w6.cell? ⟨w.heap.size + 1, 2, none⟩ = some (Value.string v.s) := (m1).cell 2 rfl; have g6b1_3 : w6.cell? ⟨w.heap.size + 1, 3, none⟩ = some (Value.slice B3 v.list.length e3) := (m1).cell 3 rfl; have g6b1_4 : w6.cell? ⟨w.heap.size + 1, 4, none⟩ = some (Value.slice B4 v.names.length e4) := (m1).cell 4 rfl; have g6b1_z := (m1).frozen; have g6b3_0 : w6.cell? ⟨w.heap.size + 3, 0, none⟩ = some (Value.int IntKind.i64 5) := (m3).cell 0 rfl; have g6b3_1 : w6.cell? ⟨w.heap.size + 3, 1, none⟩ = some (Value.int IntKind.i64 0) := (m3).cell 1 rfl; have g6b3_2 : w6.cell? ⟨w.heap.size + 3, 2, none⟩ = some (Value.string ⟨#[]⟩) := (m3).cell 2 rfl; have g6b3_3 : w6.cell? ⟨w.heap.size + 3, 3, none⟩ = some (Value.slice AL LC.length cL) := (m3).cell 3 rfl; have g6b3_4 : w6.cell? ⟨w.heap.size + 3, 4, none⟩ = some (Value.slice AA3 N3.length cc3) := (m3).cell 4 rfl; have g6b3_z := (m3).frozen; clear hv3 hf3 m0 m1 m2 m3)
          refine mixQ_n ?_
          refine tail_b rfl ?_ (by rfl)
          go_wp2_with fail
          refine mixQ_n ?_
          refine tail_b rfl ?_ (by rfl)
          go_wp2_with fail
          refine mixQ_n ?_
          refine tail_nil ?_
          clear g6b0_3 g6b0_4 g6b0_z g6b1_0 g6b1_1 g6b1_2 g6b1_3 g6b1_4 g6b1_z g6b3_0 g6b3_1 g6b3_2 g6b3_3 g6b3_4 g6b3_z
          obtain ⟨W7, hW⟩ : ∃ W, W = (w6.setCell ⟨w.heap.size + 3, 3, none⟩ (Value.slice AA6 LC6.length cc6)) := ⟨_, rfl⟩
          rw [← hW]
          have H6_ := H6.out
          rw [← hW] at H6_
          replace H6 := Hd.mk H6_; clear H6_ hW
          go_wp2_with fail
          go_roundw
          case rel => exact ⟨k + 1, true, _, _, _, _, _, _, _, by omega, rfl, by go_num, ⟨by rw [HPS2.out]; rw [E3.out]⟩, ⟨by rw [E6.out, HLC.out]; simp [HCK.out, HCn.out]⟩, H6⟩
          case measure => simp [intOf]; omega
        · have HPS2 := Hd.mk (show putS j.names s n (k + 1) = (true, N, src) by
            show putOn s (j.names.getD k ⟨#[]⟩) k (putIn s n (j.names.getD k ⟨#[]⟩) (putS j.names s n k)) = _
            rw [HPS.out, HGD.out]; simp [putIn, putOn, hb])
          have fb0_3 : wr.cell? ⟨w.heap.size, 3, none⟩ = some (Value.slice (some ad3) j.list.length c3) := (H.out.b0).cell 3 rfl
          have fb0_4 : wr.cell? ⟨w.heap.size, 4, none⟩ = some (Value.slice (some ad4) j.names.length c4) := (H.out.b0).cell 4 rfl
          have fb0_z := (H.out.b0).frozen
          have fb1_0 : wr.cell? ⟨w.heap.size + 1, 0, none⟩ = some (Value.int IntKind.i64 v.kind) := (H.out.b1).cell 0 rfl
          have fb1_1 : wr.cell? ⟨w.heap.size + 1, 1, none⟩ = some (Value.int IntKind.i64 v.n) := (H.out.b1).cell 1 rfl
          have fb1_2 : wr.cell? ⟨w.heap.size + 1, 2, none⟩ = some (Value.string v.s) := (H.out.b1).cell 2 rfl
          have fb1_3 : wr.cell? ⟨w.heap.size + 1, 3, none⟩ = some (Value.slice B3 v.list.length e3) := (H.out.b1).cell 3 rfl
          have fb1_4 : wr.cell? ⟨w.heap.size + 1, 4, none⟩ = some (Value.slice B4 v.names.length e4) := (H.out.b1).cell 4 rfl
          have fb1_z := (H.out.b1).frozen
          have fb3_0 : wr.cell? ⟨w.heap.size + 3, 0, none⟩ = some (Value.int IntKind.i64 5) := (H.out.b3).cell 0 rfl
          have fb3_1 : wr.cell? ⟨w.heap.size + 3, 1, none⟩ = some (Value.int IntKind.i64 0) := (H.out.b3).cell 1 rfl
          have fb3_2 : wr.cell? ⟨w.heap.size + 3, 2, none⟩ = some (Value.string ⟨#[]⟩) := (H.out.b3).cell 2 rfl
          have fb3_3 : wr.cell? ⟨w.heap.size + 3, 3, none⟩ = some (Value.slice AL LC.length cL) := (H.out.b3).cell 3 rfl
          have fb3_4 : wr.cell? ⟨w.heap.size + 3, 4, none⟩ = some (Value.slice AN N.length cN) := (H.out.b3).cell 4 rfl
          have fb3_z := (H.out.b3).frozen
          have xn : wr.cell? (ad4.add k) = some (.string j.names[k]) := cell_below H.out.bl XN.out
          have x0 : wr.cell? (ad3.add (k * 5)) = some (Value.int IntKind.i64 j.list[k].kind) := cell_below H.out.bl XE.out.1
          have x1 : wr.cell? ⟨(ad3.add (k * 5)).block, (ad3.add (k * 5)).off + 1, none⟩ = some (Value.int IntKind.i64 j.list[k].n) := cell_below H.out.bl XE.out.2.1
          have x2 : wr.cell? ⟨(ad3.add (k * 5)).block, (ad3.add (k * 5)).off + 2, none⟩ = some (Value.string j.list[k].s) := cell_below H.out.bl XE.out.2.2.1
          have x3 : wr.cell? ⟨(ad3.add (k * 5)).block, (ad3.add (k * 5)).off + 3, none⟩ = some (Value.slice D3 j.list[k].list.length d3) := cell_below H.out.bl XE.out.2.2.2.1
          have x4 : wr.cell? ⟨(ad3.add (k * 5)).block, (ad3.add (k * 5)).off + 4, none⟩ = some (Value.slice D4 j.list[k].names.length d4) := cell_below H.out.bl XE.out.2.2.2.2
          go_wp2_with fail
          clear fb0_3 fb0_4 fb0_z fb1_0 fb1_1 fb1_2 fb1_3 fb1_4 fb1_z fb3_0 fb3_1 fb3_2 fb3_3 fb3_4 fb3_z xn x0 x1 x2 x3 x4
          go_roundw
          case rel => exact ⟨k + 1, true, _, _, _, _, _, _, _, by omega, rfl, by go_num, ⟨by rw [HPS2.out]⟩, ⟨by exact HLC.out⟩, H⟩
          case measure => simp [intOf]; omega
    · obtain rfl : k = j.names.length := by omega
      cases pt
      · have HPE := Hd.mk (show putE j.names s n = (N ++ [s], src ++ [n]) by unfold putE; simp only [HPS.out]; simp)
        have UA := trivial; have UB := trivial
        have fb0_3 : wr.cell? ⟨w.heap.size, 3, none⟩ = some (Value.slice A3 j.list.length c3) := (H.out.b0).cell 3 rfl
        have fb0_4 : wr.cell? ⟨w.heap.size, 4, none⟩ = some (Value.slice A4 j.names.length c4) := (H.out.b0).cell 4 rfl
        have fb0_z := (H.out.b0).frozen
        have fb1_0 : wr.cell? ⟨w.heap.size + 1, 0, none⟩ = some (Value.int IntKind.i64 v.kind) := (H.out.b1).cell 0 rfl
        have fb1_1 : wr.cell? ⟨w.heap.size + 1, 1, none⟩ = some (Value.int IntKind.i64 v.n) := (H.out.b1).cell 1 rfl
        have fb1_2 : wr.cell? ⟨w.heap.size + 1, 2, none⟩ = some (Value.string v.s) := (H.out.b1).cell 2 rfl
        have fb1_3 : wr.cell? ⟨w.heap.size + 1, 3, none⟩ = some (Value.slice B3 v.list.length e3) := (H.out.b1).cell 3 rfl
        have fb1_4 : wr.cell? ⟨w.heap.size + 1, 4, none⟩ = some (Value.slice B4 v.names.length e4) := (H.out.b1).cell 4 rfl
        have fb1_z := (H.out.b1).frozen
        have fb3_0 : wr.cell? ⟨w.heap.size + 3, 0, none⟩ = some (Value.int IntKind.i64 5) := (H.out.b3).cell 0 rfl
        have fb3_1 : wr.cell? ⟨w.heap.size + 3, 1, none⟩ = some (Value.int IntKind.i64 0) := (H.out.b3).cell 1 rfl
        have fb3_2 : wr.cell? ⟨w.heap.size + 3, 2, none⟩ = some (Value.string ⟨#[]⟩) := (H.out.b3).cell 2 rfl
        have fb3_3 : wr.cell? ⟨w.heap.size + 3, 3, none⟩ = some (Value.slice AL LC.length cL) := (H.out.b3).cell 3 rfl
        have fb3_4 : wr.cell? ⟨w.heap.size + 3, 4, none⟩ = some (Value.slice AN N.length cN) := (H.out.b3).cell 4 rfl
        have fb3_z := (H.out.b3).frozen
        have fb2_0 : wr.cell? ⟨w.heap.size + 2, 0, none⟩ = some (Value.int IntKind.i64 0) := (H.out.b2).cell 0 rfl
        have fb2_1 : wr.cell? ⟨w.heap.size + 2, 1, none⟩ = some (Value.int IntKind.i64 0) := (H.out.b2).cell 1 rfl
        have fb2_2 : wr.cell? ⟨w.heap.size + 2, 2, none⟩ = some (Value.string ⟨#[]⟩) := (H.out.b2).cell 2 rfl
        have fb2_3 : wr.cell? ⟨w.heap.size + 2, 3, none⟩ = some (Value.slice none 0 0) := (H.out.b2).cell 3 rfl
        have fb2_4 : wr.cell? ⟨w.heap.size + 2, 4, none⟩ = some (Value.slice none 0 0) := (H.out.b2).cell 4 rfl
        have fb2_z := (H.out.b2).frozen
        go_wp2_with (first | (clear UA; at_builtin; refine append_s1 rfl rfl s (by omega) rfl _ _ rfl rfl rfl H.out.rN (by have h1_ := hLN.out; have h2_ := hLL.out; skip; omega) (fun v3 w2 hv3 hf3 => ?_); obtain ⟨m0, m1, m2, m3, _, _⟩ := H.out.frN hf3; have H2 := H.out.name hv3 hf3; obtain ⟨N2, hl_⟩ : ∃ z, z = N ++ [s] := ⟨_, rfl⟩; rw [← hl_] at H2 hv3; have E2 := Hd.mk hl_; clear hl_; obtain ⟨AA2, cc2, he_, _, _⟩ := R_C hv3; subst he_; have H2 := Hd.mk H2; have g2b0_3 : w2.cell? ⟨w.heap.size, 3, none⟩ = some (Value.slice A3 j.list.length c3) := (m0).cell 3 rfl; have g2b0_4 : w2.cell? ⟨w.heap.size, 4, none⟩ = some (Value.slice A4 j.names.length c4) := (m0).cell 4 rfl; have g2b0_z := (m0).frozen; have g2b1_0 : w2.cell? ⟨w.heap.size + 1, 0, none⟩ = some (Value.int IntKind.i64 v.kind) := (m1).cell 0 rfl; have g2b1_1 : w2.cell? ⟨w.heap.size + 1, 1, none⟩ = some (Value.int IntKind.i64 v.n) := (m1).cell 1 rfl; have g2b1_2 : w2.cell? ⟨w.heap.size + 1, 2, none⟩ = some (Value.string v.s) := (m1).cell 2 rfl; have g2b1_3 : w2.cell? ⟨w.heap.size + 1, 3, none⟩ = some (Value.slice B3 v.list.length e3) := (m1).cell 3 rfl; have g2b1_4 : w2.cell? ⟨w.heap.size + 1, 4, none⟩ = some (Value.slice B4 v.names.length e4) := (m1).cell 4 rfl; have g2b1_z := (m1).frozen; have g2b3_0 : w2.cell? ⟨w.heap.size + 3, 0, none⟩ = some (Value.int IntKind.i64 5) := (m3).cell 0 rfl; have g2b3_1 : w2.cell? ⟨w.heap.size + 3, 1, none⟩ = some (Value.int IntKind.i64 0) := (m3).cell 1 rfl; have g2b3_2 : w2.cell? ⟨w.heap.size + 3, 2, none⟩ = some (Value.string ⟨#[]⟩) := (m3).cell 2 rfl; have g2b3_3 : w2.cell? ⟨w.heap.size + 3, 3, none⟩ = some (Value.slice AL LC.length cL) := (m3).cell 3 rfl; have g2b3_4 : w2.cell? ⟨w.heap.size + 3, 4, none⟩ = some (Value.slice AN N.length cN) := (m3).cell 4 rfl; have g2b3_z := (m3).frozen; have g2b2_0 : w2.cell? ⟨w.heap.size + 2, 0, none⟩ = some (Value.int IntKind.i64 0) := (m2).cell 0 rfl; have g2b2_1 : w2.cell? ⟨w.heap.size + 2, 1, none⟩ = some (Value.int IntKind.i64 0) := (m2).cell 1 rfl; have g2b2_2 : w2.cell? ⟨w.heap.size + 2, 2, none⟩ = some (Value.string ⟨#[]⟩) := (m2).cell 2 rfl; have g2b2_3 : w2.cell? ⟨w.heap.size + 2, 3, none⟩ = some (Value.slice none 0 0) := (m2).cell 3 rfl; have g2b2_4 : w2.cell? ⟨w.heap.size + 2, 4, none⟩ = some (Value.slice none 0 0) := (m2).cell 4 rfl; have g2b2_z := (m2).frozen; clear hv3 hf3 m0 m1 m2 m3) | (clear UB; at_builtin; refine append_r1 rfl (by simp) [Value.int IntKind.i64 v.kind, Value.int IntKind.i64 v.n, Value.string v.s, Value.slice B3 v.list.length e3, Value.slice B4 v.names.length e4] ⟨rfl, one5 _ _ _ _ _ _ _ _ _⟩ rfl _ _ rfl rfl rfl H2.out.rL (by have h1_ := hLN.out; have h2_ := hLL.out; have lE2 := congrArg List.length E2.out; rw [List.length_append, List.length_singleton] at lE2; omega) (fun v3 w3 hv3 hf3 => ?_); obtain ⟨m0, m1, m2, m3, _, _⟩ := H2.out.frL hf3; have H3 := H2.out.elem hv3 hf3; obtain ⟨LC3, hl_⟩ : ∃ z, z = LC ++ [[Value.int IntKind.i64 v.kind, Value.int IntKind.i64 v.n, Value.string v.s, Value.slice B3 v.list.length e3, Value.slice B4 v.names.length e4]] := ⟨_, rfl⟩; rw [← hl_] at H3 hv3; have E3 := Hd.mk hl_; clear hl_; obtain ⟨AA3, cc3, he_, _, _⟩ := R_C hv3; subst he_; have H3 := Hd.mk H3; have g3b0_3 : w3.cell? ⟨w.heap.size, 3, none⟩ = some (Value.slice A3 j.list.length c3) := (m0).cell 3 rfl; have g3b0_4 : w3.cell? ⟨w.heap.size, 4, none⟩ = some (Value.slice A4 j.names.length c4) := (m0).cell 4 rfl; have g3b0_z := (m0).frozen; have g3b1_0 : w3.cell? ⟨w.heap.size + 1, 0, none⟩ = some (Value.int IntKind.i64 v.kind) := (m1).cell 0 rfl; have g3b1_1 : w3.cell? ⟨w.heap.size + 1, 1, none⟩ = some (Value.int IntKind.i64 v.n) := (m1).cell 1 rfl; have g3b1_2 : w3.cell? ⟨w.heap.size + 1, 2, none⟩ = some (Value.string v.s) := (m1).cell 2 rfl; have g3b1_3 : w3.cell? ⟨w.heap.size + 1, 3, none⟩ = some (Value.slice B3 v.list.length e3) := (m1).cell 3 rfl; have g3b1_4 : w3.cell? ⟨w.heap.size + 1, 4, none⟩ = some (Value.slice B4 v.names.length e4) := (m1).cell 4 rfl; have g3b1_z := (m1).frozen; have g3b3_0 : w3.cell? ⟨w.heap.size + 3, 0, none⟩ = some (Value.int IntKind.i64 5) := (m3).cell 0 rfl; have g3b3_1 : w3.cell? ⟨w.heap.size + 3, 1, none⟩ = some (Value.int IntKind.i64 0) := (m3).cell 1 rfl; have g3b3_2 : w3.cell? ⟨w.heap.size + 3, 2, none⟩ = some (Value.string ⟨#[]⟩) := (m3).cell 2 rfl; have g3b3_3 : w3.cell? ⟨w.heap.size + 3, 3, none⟩ = some (Value.slice AL LC.length cL) := (m3).cell 3 rfl; have g3b3_4 : w3.cell? ⟨w.heap.size + 3, 4, none⟩ = some (Value.slice AA2 N2.length cc2) := (m3).cell 4 rfl; have g3b3_z := (m3).frozen; have g3b2_0 : w3.cell? ⟨w.heap.size + 2, 0, none⟩ = some (Value.int IntKind.i64 0) := (m2).cell 0 rfl; have g3b2_1 : w3.cell? ⟨w.heap.size + 2, 1, none⟩ = some (Value.int IntKind.i64 0) := (m2).cell 1 rfl; have g3b2_2 : w3.cell? ⟨w.heap.size + 2, 2, none⟩ = some (Value.string ⟨#[]⟩) := (m2).cell 2 rfl; have g3b2_3 : w3.cell? ⟨w.heap.size + 2, 3, none⟩ = some (Value.slice none 0 0) := (m2).cell 3 rfl; have g3b2_4 : w3.cell? ⟨w.heap.size + 2, 4, none⟩ = some (Value.slice none 0 0) := (m2).cell 4 rfl; have g3b2_z := (m2).frozen; clear hv3 hf3 m0 m1 m2 m3))
        refine bodyPost_retW (v := .agg #[Value.int IntKind.i64 5, Value.int IntKind.i64 0, Value.string ⟨#[]⟩, Value.slice AA3 LC3.length cc3, Value.slice AA2 N2.length cc2]) (by simp [results, Try.results120, go_sem, fb0_3, fb0_4, fb0_z, fb1_0, fb1_1, fb1_2, fb1_3, fb1_4, fb1_z, fb3_0, fb3_1, fb3_2, fb3_3, fb3_4, fb3_z, fb2_0, fb2_1, fb2_2, fb2_3, fb2_4, fb2_z, g2b0_3, g2b0_4, g2b0_z, g2b1_0, g2b1_1, g2b1_2, g2b1_3, g2b1_4, g2b1_z, g2b3_0, g2b3_1, g2b3_2, g2b3_3, g2b3_4, g2b3_z, g2b2_0, g2b2_1, g2b2_2, g2b2_3, g2b2_4, g2b2_z, g3b0_3, g3b0_4, g3b0_z, g3b1_0, g3b1_1, g3b1_2, g3b1_3, g3b1_4, g3b1_z, g3b3_0, g3b3_1, g3b3_2, g3b3_3, g3b3_4, g3b3_z, g3b2_0, g3b2_1, g3b2_2, g3b2_3, g3b2_4, g3b2_z]) rfl ?_
        intro W hW
        clear fb0_3 fb0_4 fb0_z fb1_0 fb1_1 fb1_2 fb1_3 fb1_4 fb1_z fb3_0 fb3_1 fb3_2 fb3_3 fb3_4 fb3_z fb2_0 fb2_1 fb2_2 fb2_3 fb2_4 fb2_z g2b0_3 g2b0_4 g2b0_z g2b1_0 g2b1_1 g2b1_2 g2b1_3 g2b1_4 g2b1_z g2b3_0 g2b3_1 g2b3_2 g2b3_3 g2b3_4 g2b3_z g2b2_0 g2b2_1 g2b2_2 g2b2_3 g2b2_4 g2b2_z g3b0_3 g3b0_4 g3b0_z g3b1_0 g3b1_1 g3b1_2 g3b1_3 g3b1_4 g3b1_z g3b3_0 g3b3_1 g3b3_2 g3b3_3 g3b3_4 g3b3_z g3b2_0 g3b2_1 g3b2_2 g3b2_3 g3b2_4 g3b2_z
        have hF : Fr (w3.setCell ⟨w.heap.size + 3, 3, none⟩ (Value.slice AA3 LC3.length cc3)) W (fun k => k = w.heap.size + 2) := by rw [hW]; (iterate 5 (with_reducible refine Fr.setCell ?_ _ (fun _ => by simp) _)); exact Fr.refl _ _
        have hD := put_done (m := m) (v := v) (s := s) (src := src ++ [n]) (C := C') H3.out (by rw [E3.out, HLC.out]; simp [HCn.out]) (by rw [← Hn.out]; rw [E2.out]; exact HPE.out) HLEN.out HTS.out hF
        exact ⟨_, rfl, hD.1, hD.2⟩
      · have HPE := Hd.mk (show putE j.names s n = (N, src) by unfold putE; simp only [HPS.out]; simp)
        have fb0_3 : wr.cell? ⟨w.heap.size, 3, none⟩ = some (Value.slice A3 j.list.length c3) := (H.out.b0).cell 3 rfl
        have fb0_4 : wr.cell? ⟨w.heap.size, 4, none⟩ = some (Value.slice A4 j.names.length c4) := (H.out.b0).cell 4 rfl
        have fb0_z := (H.out.b0).frozen
        have fb1_0 : wr.cell? ⟨w.heap.size + 1, 0, none⟩ = some (Value.int IntKind.i64 v.kind) := (H.out.b1).cell 0 rfl
        have fb1_1 : wr.cell? ⟨w.heap.size + 1, 1, none⟩ = some (Value.int IntKind.i64 v.n) := (H.out.b1).cell 1 rfl
        have fb1_2 : wr.cell? ⟨w.heap.size + 1, 2, none⟩ = some (Value.string v.s) := (H.out.b1).cell 2 rfl
        have fb1_3 : wr.cell? ⟨w.heap.size + 1, 3, none⟩ = some (Value.slice B3 v.list.length e3) := (H.out.b1).cell 3 rfl
        have fb1_4 : wr.cell? ⟨w.heap.size + 1, 4, none⟩ = some (Value.slice B4 v.names.length e4) := (H.out.b1).cell 4 rfl
        have fb1_z := (H.out.b1).frozen
        have fb3_0 : wr.cell? ⟨w.heap.size + 3, 0, none⟩ = some (Value.int IntKind.i64 5) := (H.out.b3).cell 0 rfl
        have fb3_1 : wr.cell? ⟨w.heap.size + 3, 1, none⟩ = some (Value.int IntKind.i64 0) := (H.out.b3).cell 1 rfl
        have fb3_2 : wr.cell? ⟨w.heap.size + 3, 2, none⟩ = some (Value.string ⟨#[]⟩) := (H.out.b3).cell 2 rfl
        have fb3_3 : wr.cell? ⟨w.heap.size + 3, 3, none⟩ = some (Value.slice AL LC.length cL) := (H.out.b3).cell 3 rfl
        have fb3_4 : wr.cell? ⟨w.heap.size + 3, 4, none⟩ = some (Value.slice AN N.length cN) := (H.out.b3).cell 4 rfl
        have fb3_z := (H.out.b3).frozen
        have fb2_0 : wr.cell? ⟨w.heap.size + 2, 0, none⟩ = some (Value.int IntKind.i64 0) := (H.out.b2).cell 0 rfl
        have fb2_1 : wr.cell? ⟨w.heap.size + 2, 1, none⟩ = some (Value.int IntKind.i64 0) := (H.out.b2).cell 1 rfl
        have fb2_2 : wr.cell? ⟨w.heap.size + 2, 2, none⟩ = some (Value.string ⟨#[]⟩) := (H.out.b2).cell 2 rfl
        have fb2_3 : wr.cell? ⟨w.heap.size + 2, 3, none⟩ = some (Value.slice none 0 0) := (H.out.b2).cell 3 rfl
        have fb2_4 : wr.cell? ⟨w.heap.size + 2, 4, none⟩ = some (Value.slice none 0 0) := (H.out.b2).cell 4 rfl
        have fb2_z := (H.out.b2).frozen
        go_wp2_with fail
        refine bodyPost_retW (v := .agg #[Value.int IntKind.i64 5, Value.int IntKind.i64 0, Value.string ⟨#[]⟩, Value.slice AL LC.length cL, Value.slice AN N.length cN]) (by simp [results, Try.results120, go_sem, fb0_3, fb0_4, fb0_z, fb1_0, fb1_1, fb1_2, fb1_3, fb1_4, fb1_z, fb3_0, fb3_1, fb3_2, fb3_3, fb3_4, fb3_z, fb2_0, fb2_1, fb2_2, fb2_3, fb2_4, fb2_z]) rfl ?_
        intro W hW
        clear fb0_3 fb0_4 fb0_z fb1_0 fb1_1 fb1_2 fb1_3 fb1_4 fb1_z fb3_0 fb3_1 fb3_2 fb3_3 fb3_4 fb3_z fb2_0 fb2_1 fb2_2 fb2_3 fb2_4 fb2_z
        have hF : Fr wr W (fun k => k = w.heap.size + 2) := by rw [hW]; (iterate 5 (with_reducible refine Fr.setCell ?_ _ (fun _ => by simp) _)); exact Fr.refl _ _
        have hD := put_done (m := m) (v := v) (s := s) (src := src) (C := C') H.out (by exact HLC.out) (by rw [← Hn.out]; exact HPE.out) HLEN.out HTS.out hF
        exact ⟨_, rfl, hD.1, hD.2⟩
end Go.Proofs.Ytlkjpnlpankhpaa.X
