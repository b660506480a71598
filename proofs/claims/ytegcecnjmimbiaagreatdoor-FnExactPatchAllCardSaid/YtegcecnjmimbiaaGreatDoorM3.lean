/- What is proved here: lemmas about the functions that the statement reaches, and what they compute (part 3). Conditions: none. -/
import Derived.Test.YtegcecnjmimbiaaGreatDoorM2
import Derived.Test.YtegcecnjmimbiaaGreatDoorM1
import Derived.Deep.RegionLaw
import Derived.Lib.Walk
import Derived.Shelf.RegionOpenPlain
import Derived.Lib.SliceRun
import Derived.Lib.JoinLaws
import Derived.Lib.AppendZeros
import Derived.Lib.AppendZerosOnto
import Derived.Lib.Overlaps
import Derived.Laws.Externs
import Derived.Laws.Tables
namespace Go.Proofs.YtegcecnjmimbiaaGreatDoor.X
open Go.RowKit Go.Sort
set_option linter.unusedVariables false
set_option linter.unusedSimpArgs false
open Ty
theorem one5 (a b : Int) (s : ByteArray) (A B : Option Addr) (n c n2 c2 : Nat) : ∀ u ∈ [Value.int IntKind.i64 a, .int .i64 b, .string s, .slice A n c, .slice B n2 c2], u.oneCell' = true := by
 intro u hu
 simp only [List.mem_cons, List.not_mem_nil, or_false] at hu
 rcases hu with rfl | rfl | rfl | rfl | rfl <;> rfl
theorem put_fin {m : Nat} {w W : World} {j v : J} {Sj Sv : Nat → Prop} {CJ CV : Array Value} {N : List ByteArray} {src : List Nat} {C : Nat → List Value} {vN vL : Value} {P Q : Nat → Prop} (h : PutM w CJ CV N (src.map C) vN vL P Q W) (Ts : Nat → Nat → Prop)
  (HE : ∀ i, i ≤ j.list.length → (tJ (m + 1)).O w (Ts i) (putSrc j v i) (C i)) (hTT : ∀ i i' b, Ts i b → Ts i' b → i = i') (hTS : ∀ i b, Ts i b → b < w.heap.size ∧ (Sj b ∨ Sv b)) (hnd : src.Nodup) (hle : ∀ i ∈ src, i ≤ j.list.length) :
  (tJ (m + 1)).R 32 W (fun k => Q k ∨ (k < w.heap.size ∧ (Sj k ∨ Sv k))) vL (src.map (putSrc j v)) := by
 refine R_of_raw (tJ (m + 1)) (S := Q) h.rL (by simp) (fun i b => ∃ x, src[i]? = some x ∧ Ts x b) (fun i x cs hx hc => ?_) (fun i i' b h1 h2 => ?_) (fun i b hb => ?_) (fun k hk => .inl hk)
 ·rw [List.getElem?_map, Option.map_eq_some_iff] at hx hc
  obtain ⟨y, hy, rfl⟩ := hx
  obtain ⟨y', hy', rfl⟩ := hc
  rw [hy] at hy'
  obtain rfl := Option.some.inj hy'
  exact Ty.O_mono _ (fun b hb => ⟨y, hy, hb⟩) (Ty.O_below (HE y (hle y (List.mem_of_getElem? hy))) h.bl)
 ·obtain ⟨x, hx, h1⟩ := h1
  obtain ⟨x', hx', h2⟩ := h2
  obtain rfl := hTT _ _ _ h1 h2
  exact (List.getElem?_inj (List.getElem?_eq_some_iff.1 hx).1 hnd).1 (hx.trans hx'.symm)
 ·obtain ⟨x, _, hb⟩ := hb
  have h1 := hTS _ _ hb
  exact ⟨.inr h1, fun hq => by have := ((h.st b).2 hq).1; omega⟩
theorem putE_inv (l : List ByteArray) (s : ByteArray) (n : Nat) (hn : l.length ≤ n) : (putE l s n).2.Nodup ∧ ∀ i ∈ (putE l s n).2, i ≤ n := by
 have h := putS_inv l s n l.length (Nat.le_refl _) hn
 unfold putE
 simp only
 split
 ·exact ⟨h.2.2.2.1, fun i hi => by rcases h.2.2.2.2.1 i hi with h1 | h1 <;> omega⟩
 ·rename_i hc
  have hc : (putS l s n l.length).1 = false := by simpa using hc
  refine ⟨?_, fun i hi => ?_⟩
  ·simp only [List.nodup_append, List.nodup_cons, List.not_mem_nil, not_false_eq_true, List.nodup_nil, and_self, List.mem_singleton]
   refine ⟨h.2.2.2.1, trivial, fun a ha b hb => ?_⟩
   subst hb
   rcases h.2.2.2.2.1 a ha with h1 | ⟨_, h1⟩
   ·omega
   ·rw [hc] at h1; cases h1
  ·simp only [List.mem_append, List.mem_singleton] at hi
   rcases hi with hi | hi
   ·rcases h.2.2.2.2.1 i hi with h1 | h1 <;> omega
   ·omega
theorem put_done {m : Nat} {w W W2 : World} {j v : J} {s : ByteArray} {Sj Sv : Nat → Prop} {CJ CV : Array Value} {N : List ByteArray} {src : List Nat} {LC : List (List Value)} {C : Nat → List Value} {vN vL : Value} {P Q : Nat → Prop} (h : PutM w CJ CV N LC vN vL P Q W) (hLC : LC = src.map C)
  (hE : putE j.names s j.list.length = (N, src)) (hlen : j.names.length = j.list.length) (hT : ∃ Ts : Nat → Nat → Prop, (∀ i, i ≤ j.list.length → (tJ (m + 1)).O w (Ts i) (putSrc j v i) (C i)) ∧ (∀ i i' b, Ts i b → Ts i' b → i = i') ∧ ∀ i b, Ts i b → b < w.heap.size ∧ (Sj b ∨ Sv b))
  (hf : Fr W W2 (fun k => k = w.heap.size + 2)) : (tJ (m + 2)).O W2 (fun k => w.heap.size ≤ k ∨ Sj k ∨ Sv k) (putJ j v s) [.int .i64 5, .int .i64 0, .string ⟨#[]⟩, vL, vN] ∧ Below w.heap.size w W2 := by
 subst hLC
 obtain ⟨Ts, t1, t2, t3⟩ := hT
 have hI := putE_inv j.names s j.list.length (by omega)
 rw [hE] at hI
 have hR := put_fin h Ts t1 t2 t3 hI.1 hI.2
 have he : putJ j v s = ⟨5, 0, ⟨#[]⟩, src.map (putSrc j v), N⟩ := by unfold putJ; rw [hE]
 rw [he]
 refine ⟨tJ_O.2 ⟨vL, vN, _, P, rfl, by show (0 : Nat) ≤ _; omega, R_fr hR hf (fun k hk _ e => ?_), R_fr h.rN hf (fun k hk _ e => by have := ((h.st k).1 hk).1; have e : k = _ := e; omega), fun k hk => ?_, fun k hk => .inl (by have := ((h.st k).1 hk).1; omega), fun k hk hp => ?_⟩, below_frS h.bl hf (fun k e => by have e : k = _ := e; omega)⟩
 ·have e : k = w.heap.size + 2 := e
  rcases hk with hk | hk
  ·have := ((h.st k).2 hk).1; omega
  ·omega
 ·rcases hk with hk | hk
  ·exact .inl (by have := ((h.st k).2 hk).1; omega)
  ·exact .inr hk.2
 ·rcases hk with hk | hk
  ·exact ((h.st k).1 hp).2.2 hk
  ·have := ((h.st k).1 hp).1; omega
set_option maxHeartbeats 2000000 in
set_option maxRecDepth 100000 in
theorem spec_l1Put {m : Nat} {Sj Sv : Nat → Prop} (j v : J) (s : ByteArray) (cs cs2 : List Value) (w : World) (hj : (tJ (m + 2)).O w Sj j cs) (hv : (tJ (m + 1)).O w Sv v cs2) (hd : ∀ k, Sj k → ¬ Sv k) (hs : s.size ≤ 1000) (hlen : j.names.length = j.list.length) (h5 : j.list.length ≤ 100000) :
  Calls Tryz.prog 70 #[.agg cs.toArray, .string s, .agg cs2.toArray] w fun e w' => ∃ cs', e = .returned (.agg cs'.toArray) ∧ (tJ (m + 2)).O w' (fun k => w.heap.size ≤ k ∨ Sj k ∨ Sv k) (putJ j v s) cs' ∧ Below w.heap.size w w' := by
 obtain ⟨v3, v4, S3, S4, rfl, hsj, hr3, hr4, hs3, hs4, hs34⟩ := tJ_O.1 hj
 obtain ⟨A3, c3, rfl, hc3, hC3⟩ := R_C hr3
 obtain ⟨A4, c4, rfl, hc4, hC4⟩ := R_C hr4
 obtain ⟨C, T, hO, hT, hTT, hcell⟩ := R_elems (tJ (m + 1)) hr3
 have HN4 := Hd.mk hC4
 have HVO := Hd.mk (Ty.O_bound _ hv)
 obtain ⟨v5, v6, _, _, rfl, hsv, hr5, hr6, _⟩ := tJ_O.1 hv
 obtain ⟨B3, e3, rfl, _, _⟩ := R_C hr5
 obtain ⟨B4, e4, rfl, _, _⟩ := R_C hr6
 obtain ⟨n, hn⟩ : ∃ n, n = j.list.length := ⟨_, rfl⟩
 obtain ⟨C', hC'⟩ : ∃ f : Nat → List Value, f = fun i => if i = n then [Value.int IntKind.i64 v.kind, .int .i64 v.n, .string v.s, .slice B3 v.list.length e3, .slice B4 v.names.length e4] else C i := ⟨_, rfl⟩
 have HCn := Hd.mk (show C' n = [Value.int IntKind.i64 v.kind, .int .i64 v.n, .string v.s, .slice B3 v.list.length e3, .slice B4 v.names.length e4] by rw [hC']; exact if_pos rfl)
 have HCi := Hd.mk (show ∀ i, i < n → C' i = C i from fun i hi => by rw [hC']; exact if_neg (by omega))
 have HTS := Hd.mk (show ∃ Ts : Nat → Nat → Prop, (∀ i, i ≤ j.list.length → (tJ (m + 1)).O w (Ts i) (putSrc j v i) (C' i)) ∧ (∀ i i' b, Ts i b → Ts i' b → i = i') ∧ ∀ i b, Ts i b → b < w.heap.size ∧ (Sj b ∨ Sv b) from by
  obtain ⟨Ts, t1, t2⟩ : ∃ Ts : Nat → Nat → Prop, (∀ b, Ts n b ↔ (Sv b ∧ b < w.heap.size)) ∧ ∀ i, i ≠ n → ∀ b, Ts i b ↔ T i b := ⟨fun i b => if i = n then Sv b ∧ b < w.heap.size else T i b, fun b => by simp, fun i h b => by simp [h]⟩
  refine ⟨Ts, fun i hi => ?_, fun i i' b h1 h2 => ?_, fun i b h => ?_⟩
  ·by_cases h : i = n
   ·rw [h, HCn.out]
    unfold putSrc
    rw [if_pos hn]
    exact Ty.O_mono _ (fun b hb => (t1 b).2 hb) HVO.out
   ·rw [HCi.out i (by omega)]
    unfold putSrc
    rw [if_neg (by omega)]
    refine Ty.O_mono _ (fun b hb => (t2 i h b).2 hb) (hO i _ ?_)
    rw [List.getD_eq_getElem?_getD, List.getElem?_eq_getElem (by omega)]; rfl
  ·by_cases h : i = n <;> by_cases h' : i' = n
   ·omega
   ·rw [h, t1] at h1; rw [t2 _ h'] at h2
    exact absurd h1.1 (hd b (hs3 b (hT _ _ h2).1))
   ·rw [t2 _ h] at h1; rw [h', t1] at h2
    exact absurd h2.1 (hd b (hs3 b (hT _ _ h1).1))
   ·rw [t2 _ h] at h1; rw [t2 _ h'] at h2
    exact hTT _ _ _ h1 h2
  ·by_cases h' : i = n
   ·rw [h', t1] at h; exact ⟨h.2, .inr h.1⟩
   ·rw [t2 _ h'] at h; exact ⟨(hT _ _ h).2, .inl (hs3 b (hT _ _ h).1)⟩)
 have HELE := Hd.mk hcell
 have HO := Hd.mk hO
 have Hn := Hd.mk hn
 have HLEN := Hd.mk hlen
 have h5n : j.names.length ≤ 100000 := by omega
 have hm3 := hC3.1; have hm4 := hC4.1
 clear hr3 hr4 hr5 hr6 hC3 hC4 hj hv hs3 hs4 hs34 hd hC' hO hT hTT hcell hlen hn
 have hB := Hd.mk (Below.refl w.heap.size w)
 go_enter Tryz.func70, Tryz.ntmps70
 go_wp2_with fail
 apply wp_gen; intro W1 hW
 have hz_ : w.heap.size + 4 ≤ W1.heap.size := by rw [hW]; simp
 have hE : Below w.heap.size w W1 := by rw [hW]; (repeat (first | with_reducible refine below_alloc ?_ _ | with_reducible refine below_drew ?_)); exact Below.refl _ _
 have hB := hB.th hE
 have b0 := Hd.mk (show Blk W1 (w.heap.size) #[.int .i64 j.kind, .int .i64 j.n, .string j.s, .slice A3 j.list.length c3, .slice A4 j.names.length c4] 32 by rw [hW]; first | exact ((((Blk.new _ _ _).alloc _).alloc _).alloc _) | (simpa using ((((Blk.new _ _ _).alloc _).alloc _).alloc _)))
 have b1 := Hd.mk (show Blk W1 (w.heap.size + 1) #[.int .i64 v.kind, .int .i64 v.n, .string v.s, .slice B3 v.list.length e3, .slice B4 v.names.length e4] 32 by rw [hW]; first | exact (((Blk.new1 _ _ _ _).alloc _).alloc _) | (simpa using (((Blk.new1 _ _ _ _).alloc _).alloc _)))
 have b2 := Hd.mk (show Blk W1 (w.heap.size + 1 + 1) #[.int .i64 0, .int .i64 0, .string ⟨#[]⟩, .slice none 0 0, .slice none 0 0] 32 by rw [hW]; first | exact ((Blk.new2 _ _ _ _ _).alloc _) | (simpa using ((Blk.new2 _ _ _ _ _).alloc _)))
 have b3 := Hd.mk (show Blk W1 (w.heap.size + 1 + 1 + 1) #[.int .i64 5, .int .i64 0, .string ⟨#[]⟩, .slice none 0 0, .slice none 0 0] 32 by rw [hW]; first | exact (Blk.new3 _ _ _ _ _ _) | (simpa using (Blk.new3 _ _ _ _ _ _)))
 clear hW hE
 have z1 := Hd.mk hz_; clear hz_
 have HW1 : PutM w #[.int .i64 j.kind, .int .i64 j.n, .string j.s, .slice A3 j.list.length c3, .slice A4 j.names.length c4] #[.int .i64 v.kind, .int .i64 v.n, .string v.s, .slice B3 v.list.length e3, .slice B4 v.names.length e4] [] [] (.slice none 0 0) (.slice none 0 0) (fun _ => False) (fun _ => False) W1 := ⟨b0.out, b1.out, b2.out, b3.out, R_nil, R_nil, fun q => ⟨fun h => h.elim, fun h => h.elim⟩, hB.out, by have z1_ := z1.out; omega⟩
 have HW1 := Hd.mk HW1; clear b0 b1 b2 b3 hB z1
 go_loopw [8, 9] (fun p i wr => ∃ (k : Nat) (pt : Bool) (N : List ByteArray) (src : List Nat) (LC : List (List Value)) (vN vL : Value) (P Q : Nat → Prop), k ≤ j.names.length ∧ p = .bool pt ∧ i = .int .i64 k ∧ Hd (putS j.names s n k = (pt, N, src)) ∧ Hd (LC = src.map C') ∧ Hd (PutM w #[.int .i64 j.kind, .int .i64 j.n, .string j.s, .slice A3 j.list.length c3, .slice A4 j.names.length c4] #[.int .i64 v.kind, .int .i64 v.n, .string v.s, .slice B3 v.list.length e3, .slice B4 v.names.length e4] N LC vN vL P Q wr)) (fun _ i _ => j.names.length - (intOf i).toNat)
 case atStart => exact ⟨0, false, [], [], [], .slice none 0 0, .slice none 0 0, _, _, Nat.zero_le _, rfl, rfl, ⟨rfl⟩, ⟨rfl⟩, HW1⟩
 case round =>
  clear HW1
  obtain ⟨k, pt, N, src, LC, vN, vL, P, Q, hk, rfl, rfl, HPS, HLC, H⟩ := hrel
  have HI := Hd.mk (show PutI j.names s n k (pt, N, src) by rw [← HPS.out]; exact putS_inv _ _ _ _ hk (by have := HLEN.out; have := Hn.out; omega))
  have hLN := Hd.mk (show N.length ≤ 100001 by have h1 := HI.out.1; have h2 := HI.out.2.1; (try simp only at h1 h2); omega)
  have hLL := Hd.mk (show LC.length ≤ 100001 by have h2 := HI.out.2.1; rw [HLC.out, List.length_map]; (try simp only at h2); omega)
  have hk0 : (0 : Int) ≤ (k : Int) := by omega
  obtain ⟨AN, cN, he_, _, _⟩ := R_C H.out.rN
  subst he_
  obtain ⟨AL, cL, he_, _, _⟩ := R_C H.out.rL
  subst he_
  by_cases hlt : k < j.names.length
  ·obtain ⟨ad4, had, xn, hsn⟩ := C_str_at HN4.out (Below.refl _ _) k hlt
   have XN := Hd.mk xn; clear xn
   obtain rfl := had
   have hkl : k < j.list.length := by rw [← HLEN.out]; exact hlt
   have hkn : k < n := by rw [Hn.out]; exact hkl
   have hgq := run_geq j.names[k] s
   obtain ⟨ad3, had3, e0, e1⟩ := HELE.out k hkl
   obtain rfl := had3
   obtain ⟨u3, u4, _, _, hck, _, hru3, hru4, _⟩ := tJ_O.1 (HO.out k j.list[k] (List.getElem?_eq_getElem hkl))
   obtain ⟨D3, d3, rfl, _, _⟩ := R_C hru3
   obtain ⟨D4, d4, rfl, _, _⟩ := R_C hru4
   rw [hck] at e0 e1
   have XE := Hd.mk (show w.cell? (ad3.add (k * 5)) = some (.int .i64 j.list[k].kind) ∧ w.cell? ⟨(ad3.add (k * 5)).block, (ad3.add (k * 5)).off + 1, none⟩ = some (.int .i64 j.list[k].n) ∧ w.cell? ⟨(ad3.add (k * 5)).block, (ad3.add (k * 5)).off + 2, none⟩ = some (.string j.list[k].s) ∧ w.cell? ⟨(ad3.add (k * 5)).block, (ad3.add (k * 5)).off + 3, none⟩ = some (.slice D3 j.list[k].list.length d3) ∧ w.cell? ⟨(ad3.add (k * 5)).block, (ad3.add (k * 5)).off + 4, none⟩ = some (.slice D4 j.list[k].names.length d4) from ⟨e0 _ rfl, e1 0 _ rfl, e1 1 _ rfl, e1 2 _ rfl, e1 3 _ rfl⟩)
   have HCK := Hd.mk (show C' k = [Value.int IntKind.i64 j.list[k].kind, .int .i64 j.list[k].n, .string j.list[k].s, .slice D3 j.list[k].list.length d3, .slice D4 j.list[k].names.length d4] by rw [HCi.out k hkn]; exact hck)
   clear e0 e1 hck hru3 hru4
   have HGD := Hd.mk (show j.names.getD k ⟨#[]⟩ = j.names[k] by rw [List.getD_eq_getElem?_getD, List.getElem?_eq_getElem hlt]; rfl)
   have hm5 : k * 5 ≤ 500000 := by omega
   cases pt
   ·cases hge : ltB j.names[k] s
    ·rw [hge] at hgq
     cases hb : (j.names[k].toList == s.toList)
     ·have HPS2 := Hd.mk (show putS j.names s n (k + 1) = (true, (N ++ [s]) ++ [j.names[k]], (src ++ [n]) ++ [k]) by
       show putOn s (j.names.getD k ⟨#[]⟩) k (putIn s n (j.names.getD k ⟨#[]⟩) (putS j.names s n k)) = _
       rw [HPS.out, HGD.out]; simp [putIn, putOn, hb, hge])
      have UA := trivial; have UB := trivial
      have v03 : wr.cell? ⟨w.heap.size, 3, none⟩ = some (.slice (some ad3) j.list.length c3) := (H.out.b0).cell 3 rfl
      have v04 : wr.cell? ⟨w.heap.size, 4, none⟩ = some (.slice (some ad4) j.names.length c4) := (H.out.b0).cell 4 rfl
      have v0z := (H.out.b0).frozen
      have v10 : wr.cell? ⟨w.heap.size + 1, 0, none⟩ = some (.int .i64 v.kind) := (H.out.b1).cell 0 rfl
      have v11 : wr.cell? ⟨w.heap.size + 1, 1, none⟩ = some (.int .i64 v.n) := (H.out.b1).cell 1 rfl
      have v12 : wr.cell? ⟨w.heap.size + 1, 2, none⟩ = some (.string v.s) := (H.out.b1).cell 2 rfl
      have v13 : wr.cell? ⟨w.heap.size + 1, 3, none⟩ = some (.slice B3 v.list.length e3) := (H.out.b1).cell 3 rfl
      have v14 : wr.cell? ⟨w.heap.size + 1, 4, none⟩ = some (.slice B4 v.names.length e4) := (H.out.b1).cell 4 rfl
      have v1z := (H.out.b1).frozen
      have v30 : wr.cell? ⟨w.heap.size + 3, 0, none⟩ = some (.int .i64 5) := (H.out.b3).cell 0 rfl
      have v31 : wr.cell? ⟨w.heap.size + 3, 1, none⟩ = some (.int .i64 0) := (H.out.b3).cell 1 rfl
      have v32 : wr.cell? ⟨w.heap.size + 3, 2, none⟩ = some (.string ⟨#[]⟩) := (H.out.b3).cell 2 rfl
      have v33 : wr.cell? ⟨w.heap.size + 3, 3, none⟩ = some (.slice AL LC.length cL) := (H.out.b3).cell 3 rfl
      have v34 : wr.cell? ⟨w.heap.size + 3, 4, none⟩ = some (.slice AN N.length cN) := (H.out.b3).cell 4 rfl
      have v3z := (H.out.b3).frozen
      have xn : wr.cell? (ad4.add k) = some (.string j.names[k]) := cell_below H.out.bl XN.out
      have x0 : wr.cell? (ad3.add (k * 5)) = some (.int .i64 j.list[k].kind) := cell_below H.out.bl XE.out.1
      have x1 : wr.cell? ⟨(ad3.add (k * 5)).block, (ad3.add (k * 5)).off + 1, none⟩ = some (.int .i64 j.list[k].n) := cell_below H.out.bl XE.out.2.1
      have x2 : wr.cell? ⟨(ad3.add (k * 5)).block, (ad3.add (k * 5)).off + 2, none⟩ = some (.string j.list[k].s) := cell_below H.out.bl XE.out.2.2.1
      have x3 : wr.cell? ⟨(ad3.add (k * 5)).block, (ad3.add (k * 5)).off + 3, none⟩ = some (.slice D3 j.list[k].list.length d3) := cell_below H.out.bl XE.out.2.2.2.1
      have x4 : wr.cell? ⟨(ad3.add (k * 5)).block, (ad3.add (k * 5)).off + 4, none⟩ = some (.slice D4 j.list[k].names.length d4) := cell_below H.out.bl XE.out.2.2.2.2
      go_wp2_with (first | (clear UA; at_builtin; refine append_s1 rfl rfl s (by omega) rfl _ _ rfl rfl rfl H.out.rN (by have h1_ := hLN.out; have h2_ := hLL.out; skip; omega) (fun v3 w2 hv3 hf3 => ?_); obtain ⟨m0, m1, m2, m3, _, _⟩ := H.out.frN hf3; have H2 := H.out.name hv3 hf3; obtain ⟨N2, hl_⟩ : ∃ z, z = N ++ [s] := ⟨_, rfl⟩; rw [← hl_] at H2 hv3; have E2 := Hd.mk hl_; clear hl_; obtain ⟨AA2, cc2, he_, _, _⟩ := R_C hv3; subst he_; have H2 := Hd.mk H2; have g2b0_3 : w2.cell? ⟨w.heap.size, 3, none⟩ = some (.slice (some ad3) j.list.length c3) := (m0).cell 3 rfl; have g2b0_4 : w2.cell? ⟨w.heap.size, 4, none⟩ = some (.slice (some ad4) j.names.length c4) := (m0).cell 4 rfl; have g2b0_z := (m0).frozen; have g2b1_0 : w2.cell? ⟨w.heap.size + 1, 0, none⟩ = some (.int .i64 v.kind) := (m1).cell 0 rfl; have g2b1_1 : w2.cell? ⟨w.heap.size + 1, 1, none⟩ = some (.int .i64 v.n) := (m1).cell 1 rfl; have g2b1_2 : w2.cell? ⟨w.heap.size + 1, 2, none⟩ = some (.string v.s) := (m1).cell 2 rfl; have g2b1_3 : w2.cell? ⟨w.heap.size + 1, 3, none⟩ = some (.slice B3 v.list.length e3) := (m1).cell 3 rfl; have g2b1_4 : w2.cell? ⟨w.heap.size + 1, 4, none⟩ = some (.slice B4 v.names.length e4) := (m1).cell 4 rfl; have g2b1_z := (m1).frozen; have g2b3_0 : w2.cell? ⟨w.heap.size + 3, 0, none⟩ = some (.int .i64 5) := (m3).cell 0 rfl; have g2b3_1 : w2.cell? ⟨w.heap.size + 3, 1, none⟩ = some (.int .i64 0) := (m3).cell 1 rfl; have g2b3_2 : w2.cell? ⟨w.heap.size + 3, 2, none⟩ = some (.string ⟨#[]⟩) := (m3).cell 2 rfl; have g2b3_3 : w2.cell? ⟨w.heap.size + 3, 3, none⟩ = some (.slice AL LC.length cL) := (m3).cell 3 rfl; have g2b3_4 : w2.cell? ⟨w.heap.size + 3, 4, none⟩ = some (.slice AN N.length cN) := (m3).cell 4 rfl; have g2b3_z := (m3).frozen; clear hv3 hf3 m0 m1 m2 m3) | (clear UB; at_builtin; refine append_r1 rfl (by simp) [Value.int IntKind.i64 v.kind, .int .i64 v.n, .string v.s, .slice B3 v.list.length e3, .slice B4 v.names.length e4] ⟨rfl, one5 _ _ _ _ _ _ _ _ _⟩ rfl _ _ rfl rfl rfl H2.out.rL (by have h1_ := hLN.out; have h2_ := hLL.out; have lE2 := congrArg List.length E2.out; rw [List.length_append, List.length_singleton] at lE2; omega) (fun v3 w3 hv3 hf3 => ?_); obtain ⟨m0, m1, m2, m3, _, _⟩ := H2.out.frL hf3; have H3 := H2.out.elem hv3 hf3; obtain ⟨LC3, hl_⟩ : ∃ z, z = LC ++ [[Value.int IntKind.i64 v.kind, .int .i64 v.n, .string v.s, .slice B3 v.list.length e3, .slice B4 v.names.length e4]] := ⟨_, rfl⟩; rw [← hl_] at H3 hv3; have E3 := Hd.mk hl_; clear hl_; obtain ⟨AA3, cc3, he_, _, _⟩ := R_C hv3; subst he_; have H3 := Hd.mk H3; have g3b0_3 : w3.cell? ⟨w.heap.size, 3, none⟩ = some (.slice (some ad3) j.list.length c3) := (m0).cell 3 rfl; have g3b0_4 : w3.cell? ⟨w.heap.size, 4, none⟩ = some (.slice (some ad4) j.names.length c4) := (m0).cell 4 rfl; have g3b0_z := (m0).frozen; have g3b1_0 : w3.cell? ⟨w.heap.size + 1, 0, none⟩ = some (.int .i64 v.kind) := (m1).cell 0 rfl; have g3b1_1 : w3.cell? ⟨w.heap.size + 1, 1, none⟩ = some (.int .i64 v.n) := (m1).cell 1 rfl; have g3b1_2 : w3.cell? ⟨w.heap.size + 1, 2, none⟩ = some (.string v.s) := (m1).cell 2 rfl; have g3b1_3 : w3.cell? ⟨w.heap.size + 1, 3, none⟩ = some (.slice B3 v.list.length e3) := (m1).cell 3 rfl; have g3b1_4 : w3.cell? ⟨w.heap.size + 1, 4, none⟩ = some (.slice B4 v.names.length e4) := (m1).cell 4 rfl; have g3b1_z := (m1).frozen; have g3b3_0 : w3.cell? ⟨w.heap.size + 3, 0, none⟩ = some (.int .i64 5) := (m3).cell 0 rfl; have g3b3_1 : w3.cell? ⟨w.heap.size + 3, 1, none⟩ = some (.int .i64 0) := (m3).cell 1 rfl; have g3b3_2 : w3.cell? ⟨w.heap.size + 3, 2, none⟩ = some (.string ⟨#[]⟩) := (m3).cell 2 rfl; have g3b3_3 : w3.cell? ⟨w.heap.size + 3, 3, none⟩ = some (.slice AL LC.length cL) := (m3).cell 3 rfl; have g3b3_4 : w3.cell? ⟨w.heap.size + 3, 4, none⟩ = some (.slice AA2 N2.length cc2) := (m3).cell 4 rfl; have g3b3_z := (m3).frozen; clear hv3 hf3 m0 m1 m2 m3; have g3x : (w3.setCell ⟨w.heap.size + 1 + 1 + 1, 3, none⟩ (Value.slice AA3 LC3.length cc3)).cell? (ad4.add k) = some (.string j.names[k]) := cell_below H3.out.bl XN.out))
      clear v03 v04 v0z v10 v11 v12 v13 v14 v1z v30 v31 v32 v33 v34 v3z g2b0_3 g2b0_4 g2b0_z g2b1_0 g2b1_1 g2b1_2 g2b1_3 g2b1_4 g2b1_z g2b3_0 g2b3_1 g2b3_2 g2b3_3 g2b3_4 g2b3_z g3b0_3 g3b0_4 g3b0_z g3b1_0 g3b1_1 g3b1_2 g3b1_3 g3b1_4 g3b1_z g3b3_0 g3b3_1 g3b3_2 g3b3_3 g3b3_4 g3b3_z g3x xn x0 x1 x2 x3 x4
      obtain ⟨W4, hW⟩ : ∃ W, W = (w3.setCell ⟨w.heap.size + 3, 3, none⟩ (Value.slice AA3 LC3.length cc3)) := ⟨_, rfl⟩
      rw [← hW]
      have H3_ := H3.out
      rw [← hW] at H3_
      replace H3 := Hd.mk H3_; clear H3_ hW
      have v03 : W4.cell? ⟨w.heap.size, 3, none⟩ = some (.slice (some ad3) j.list.length c3) := (H3.out.b0).cell 3 rfl
      have v04 : W4.cell? ⟨w.heap.size, 4, none⟩ = some (.slice (some ad4) j.names.length c4) := (H3.out.b0).cell 4 rfl
      have v0z := (H3.out.b0).frozen
      have v10 : W4.cell? ⟨w.heap.size + 1, 0, none⟩ = some (.int .i64 v.kind) := (H3.out.b1).cell 0 rfl
      have v11 : W4.cell? ⟨w.heap.size + 1, 1, none⟩ = some (.int .i64 v.n) := (H3.out.b1).cell 1 rfl
      have v12 : W4.cell? ⟨w.heap.size + 1, 2, none⟩ = some (.string v.s) := (H3.out.b1).cell 2 rfl
      have v13 : W4.cell? ⟨w.heap.size + 1, 3, none⟩ = some (.slice B3 v.list.length e3) := (H3.out.b1).cell 3 rfl
      have v14 : W4.cell? ⟨w.heap.size + 1, 4, none⟩ = some (.slice B4 v.names.length e4) := (H3.out.b1).cell 4 rfl
      have v1z := (H3.out.b1).frozen
      have v30 : W4.cell? ⟨w.heap.size + 3, 0, none⟩ = some (.int .i64 5) := (H3.out.b3).cell 0 rfl
      have v31 : W4.cell? ⟨w.heap.size + 3, 1, none⟩ = some (.int .i64 0) := (H3.out.b3).cell 1 rfl
      have v32 : W4.cell? ⟨w.heap.size + 3, 2, none⟩ = some (.string ⟨#[]⟩) := (H3.out.b3).cell 2 rfl
      have v33 : W4.cell? ⟨w.heap.size + 3, 3, none⟩ = some (.slice AA3 LC3.length cc3) := (H3.out.b3).cell 3 rfl
      have v34 : W4.cell? ⟨w.heap.size + 3, 4, none⟩ = some (.slice AA2 N2.length cc2) := (H3.out.b3).cell 4 rfl
      have v3z := (H3.out.b3).frozen
      have xn : W4.cell? (ad4.add k) = some (.string j.names[k]) := cell_below H3.out.bl XN.out
      have x0 : W4.cell? (ad3.add (k * 5)) = some (.int .i64 j.list[k].kind) := cell_below H3.out.bl XE.out.1
      have x1 : W4.cell? ⟨(ad3.add (k * 5)).block, (ad3.add (k * 5)).off + 1, none⟩ = some (.int .i64 j.list[k].n) := cell_below H3.out.bl XE.out.2.1
      have x2 : W4.cell? ⟨(ad3.add (k * 5)).block, (ad3.add (k * 5)).off + 2, none⟩ = some (.string j.list[k].s) := cell_below H3.out.bl XE.out.2.2.1
      have x3 : W4.cell? ⟨(ad3.add (k * 5)).block, (ad3.add (k * 5)).off + 3, none⟩ = some (.slice D3 j.list[k].list.length d3) := cell_below H3.out.bl XE.out.2.2.2.1
      have x4 : W4.cell? ⟨(ad3.add (k * 5)).block, (ad3.add (k * 5)).off + 4, none⟩ = some (.slice D4 j.list[k].names.length d4) := cell_below H3.out.bl XE.out.2.2.2.2
      obtain ⟨rv03, rv04, rv10, rv11, rv12, rv13, rv14⟩ := reg7 v03 v04 v10 v11 v12 v13 v14
      obtain ⟨rv30, rv31, rv32, rv33, rv34, rxn, rx0⟩ := reg7 v30 v31 v32 v33 v34 xn x0
      have rx1 := cell_regrown x1
      have rx2 := cell_regrown x2
      have rx3 := cell_regrown x3
      have rx4 := cell_regrown x4
      refine region_mixT (.p 0 (.q 1 (.p 2 (.q 3 (.p 4 (.q 5 (.q 6 (.b 7 .fin)))))))) [8, 9, 10] (by kernel_rfl) (by kernel_rfl) (fun _ _ _ _ _ h => h) ?_
      refine genT ?_; intro W5 hW
      have hS := Hd.mk (show Below W4.heap.size W4 W5 by rw [hW]; exact below_drew (Below.refl _ _)); clear hW
      replace H3 := Hd.mk (H3.out.below hS.out)
      iterate 7 ((first | refine mixT_q rfl ?_ | refine mixT_p rfl ?_); go_big_quiet_want; go_big_quiet_op; go_big_quiet_on; refine wpQuiet_nil ?_)
      refine mixT_b rfl ?_ (by rfl)
      go_wp2_with fail
      refine ⟨cls_below (below_alloc hS.out _), ?_⟩
      refine mixT_fin ?_
      clear hS rv03 rv04 rv10 rv11 rv12 rv13 rv14 rv30 rv31 rv32 rv33 rv34 rxn rx0 rx1 rx2 rx3 rx4
      clear v03 v04 v0z v10 v11 v12 v13 v14 v1z v30 v31 v32 v33 v34 v3z xn x0 x1 x2 x3 x4
      refine tail_b rfl ?_ (by rfl)
      go_wp2_with (at_builtin; refine append_s1 rfl rfl j.names[k] (by omega) rfl _ _ rfl rfl rfl H3.out.rN (by have h1_ := hLN.out; have h2_ := hLL.out; have lE2 := congrArg List.length E2.out; rw [List.length_append, List.length_singleton] at lE2; have lE3 := congrArg List.length E3.out; rw [List.length_append, List.length_singleton] at lE3; omega) (fun v3 w6 hv3 hf3 => ?_); obtain ⟨m0, m1, m2, m3, _, _⟩ := H3.out.frN hf3; have H6 := H3.out.name hv3 hf3; obtain ⟨N6, hl_⟩ : ∃ z, z = N2 ++ [j.names[k]] := ⟨_, rfl⟩; rw [← hl_] at H6 hv3; have E6 := Hd.mk hl_; clear hl_; obtain ⟨AA6, cc6, he_, _, _⟩ := R_C hv3; subst he_; have H6 := Hd.mk H6; have g6b0_3 : w6.cell? ⟨w.heap.size, 3, none⟩ = some (.slice (some ad3) j.list.length c3) := (m0).cell 3 rfl; have g6b0_4 : w6.cell? ⟨w.heap.size, 4, none⟩ = some (.slice (some ad4) j.names.length c4) := (m0).cell 4 rfl; have g6b0_z := (m0).frozen; have g6b1_0 : w6.cell? ⟨w.heap.size + 1, 0, none⟩ = some (.int .i64 v.kind) := (m1).cell 0 rfl; have g6b1_1 : w6.cell? ⟨w.heap.size + 1, 1, none⟩ = some (.int .i64 v.n) := (m1).cell 1 rfl; have g6b1_2 : w6.cell? ⟨w.heap.size + 1, 2, none⟩ = some (.string v.s) := (m1).cell 2 rfl; have g6b1_3 : w6.cell? ⟨w.heap.size + 1, 3, none⟩ = some (.slice B3 v.list.length e3) := (m1).cell 3 rfl; have g6b1_4 : w6.cell? ⟨w.heap.size + 1, 4, none⟩ = some (.slice B4 v.names.length e4) := (m1).cell 4 rfl; have g6b1_z := (m1).frozen; have g6b3_0 : w6.cell? ⟨w.heap.size + 3, 0, none⟩ = some (.int .i64 5) := (m3).cell 0 rfl; have g6b3_1 : w6.cell? ⟨w.heap.size + 3, 1, none⟩ = some (.int .i64 0) := (m3).cell 1 rfl; have g6b3_2 : w6.cell? ⟨w.heap.size + 3, 2, none⟩ = some (.string ⟨#[]⟩) := (m3).cell 2 rfl; have g6b3_3 : w6.cell? ⟨w.heap.size + 3, 3, none⟩ = some (.slice AA3 LC3.length cc3) := (m3).cell 3 rfl; have g6b3_4 : w6.cell? ⟨w.heap.size + 3, 4, none⟩ = some (.slice AA2 N2.length cc2) := (m3).cell 4 rfl; have g6b3_z := (m3).frozen; clear hv3 hf3 m0 m1 m2 m3)
      refine mixQ_n ?_
      refine tail_b rfl ?_ (by rfl)
      go_wp2_with fail
      refine mixQ_n ?_
      refine tail_b rfl ?_ (by rfl)
      go_wp2_with fail
      refine mixQ_n ?_
      refine tail_nil ?_
      clear g6b0_3 g6b0_4 g6b0_z g6b1_0 g6b1_1 g6b1_2 g6b1_3 g6b1_4 g6b1_z g6b3_0 g6b3_1 g6b3_2 g6b3_3 g6b3_4 g6b3_z
      obtain ⟨W7, hW⟩ : ∃ W, W = (w6.setCell ⟨w.heap.size + 3, 4, none⟩ (Value.slice AA6 N6.length cc6)) := ⟨_, rfl⟩
      rw [← hW]
      have H6_ := H6.out
      rw [← hW] at H6_
      replace H6 := Hd.mk H6_; clear H6_ hW
      go_wp2_with fail
      have v03 : W7.cell? ⟨w.heap.size, 3, none⟩ = some (.slice (some ad3) j.list.length c3) := (H6.out.b0).cell 3 rfl
      have v04 : W7.cell? ⟨w.heap.size, 4, none⟩ = some (.slice (some ad4) j.names.length c4) := (H6.out.b0).cell 4 rfl
      have v0z := (H6.out.b0).frozen
      have v10 : W7.cell? ⟨w.heap.size + 1, 0, none⟩ = some (.int .i64 v.kind) := (H6.out.b1).cell 0 rfl
      have v11 : W7.cell? ⟨w.heap.size + 1, 1, none⟩ = some (.int .i64 v.n) := (H6.out.b1).cell 1 rfl
      have v12 : W7.cell? ⟨w.heap.size + 1, 2, none⟩ = some (.string v.s) := (H6.out.b1).cell 2 rfl
      have v13 : W7.cell? ⟨w.heap.size + 1, 3, none⟩ = some (.slice B3 v.list.length e3) := (H6.out.b1).cell 3 rfl
      have v14 : W7.cell? ⟨w.heap.size + 1, 4, none⟩ = some (.slice B4 v.names.length e4) := (H6.out.b1).cell 4 rfl
      have v1z := (H6.out.b1).frozen
      have v30 : W7.cell? ⟨w.heap.size + 3, 0, none⟩ = some (.int .i64 5) := (H6.out.b3).cell 0 rfl
      have v31 : W7.cell? ⟨w.heap.size + 3, 1, none⟩ = some (.int .i64 0) := (H6.out.b3).cell 1 rfl
      have v32 : W7.cell? ⟨w.heap.size + 3, 2, none⟩ = some (.string ⟨#[]⟩) := (H6.out.b3).cell 2 rfl
      have v33 : W7.cell? ⟨w.heap.size + 3, 3, none⟩ = some (.slice AA3 LC3.length cc3) := (H6.out.b3).cell 3 rfl
      have v34 : W7.cell? ⟨w.heap.size + 3, 4, none⟩ = some (.slice AA6 N6.length cc6) := (H6.out.b3).cell 4 rfl
      have v3z := (H6.out.b3).frozen
      have xn : W7.cell? (ad4.add k) = some (.string j.names[k]) := cell_below H6.out.bl XN.out
      have x0 : W7.cell? (ad3.add (k * 5)) = some (.int .i64 j.list[k].kind) := cell_below H6.out.bl XE.out.1
      have x1 : W7.cell? ⟨(ad3.add (k * 5)).block, (ad3.add (k * 5)).off + 1, none⟩ = some (.int .i64 j.list[k].n) := cell_below H6.out.bl XE.out.2.1
      have x2 : W7.cell? ⟨(ad3.add (k * 5)).block, (ad3.add (k * 5)).off + 2, none⟩ = some (.string j.list[k].s) := cell_below H6.out.bl XE.out.2.2.1
      have x3 : W7.cell? ⟨(ad3.add (k * 5)).block, (ad3.add (k * 5)).off + 3, none⟩ = some (.slice D3 j.list[k].list.length d3) := cell_below H6.out.bl XE.out.2.2.2.1
      have x4 : W7.cell? ⟨(ad3.add (k * 5)).block, (ad3.add (k * 5)).off + 4, none⟩ = some (.slice D4 j.list[k].names.length d4) := cell_below H6.out.bl XE.out.2.2.2.2
      obtain ⟨rv03, rv04, rv10, rv11, rv12, rv13, rv14⟩ := reg7 v03 v04 v10 v11 v12 v13 v14
      obtain ⟨rv30, rv31, rv32, rv33, rv34, rxn, rx0⟩ := reg7 v30 v31 v32 v33 v34 xn x0
      have rx1 := cell_regrown x1
      have rx2 := cell_regrown x2
      have rx3 := cell_regrown x3
      have rx4 := cell_regrown x4
      refine region_mixT (.p 0 (.q 1 (.p 2 (.q 3 (.p 4 (.q 5 (.q 6 (.b 7 .fin)))))))) [8, 9, 10] (by kernel_rfl) (by kernel_rfl) (fun _ _ _ _ _ h => h) ?_
      refine genT ?_; intro W8 hW
      have hS := Hd.mk (show Below W7.heap.size W7 W8 by rw [hW]; exact below_drew (Below.refl _ _)); clear hW
      replace H6 := Hd.mk (H6.out.below hS.out)
      iterate 7 ((first | refine mixT_q rfl ?_ | refine mixT_p rfl ?_); go_big_quiet_want; go_big_quiet_op; go_big_quiet_on; refine wpQuiet_nil ?_)
      refine mixT_b rfl ?_ (by rfl)
      go_wp2_with fail
      refine ⟨cls_below (below_alloc hS.out _), ?_⟩
      refine mixT_fin ?_
      clear hS rv03 rv04 rv10 rv11 rv12 rv13 rv14 rv30 rv31 rv32 rv33 rv34 rxn rx0 rx1 rx2 rx3 rx4
      clear v03 v04 v0z v10 v11 v12 v13 v14 v1z v30 v31 v32 v33 v34 v3z xn x0 x1 x2 x3 x4
      refine tail_b rfl ?_ (by rfl)
      go_wp2_with (at_builtin; refine append_r1 rfl rfl [Value.int IntKind.i64 j.list[k].kind, .int .i64 j.list[k].n, .string j.list[k].s, .slice D3 j.list[k].list.length d3, .slice D4 j.list[k].names.length d4] ⟨rfl, one5 _ _ _ _ _ _ _ _ _⟩ rfl _ _ rfl rfl rfl H6.out.rL (by have h1_ := hLN.out; have h2_ := hLL.out; have lE2 := congrArg List.length E2.out; rw [List.length_append, List.length_singleton] at lE2; have lE3 := congrArg List.length E3.out; rw [List.length_append, List.length_singleton] at lE3; have lE6 := congrArg List.length E6.out; rw [List.length_append, List.length_singleton] at lE6; omega) (fun v3 w9 hv3 hf3 => ?_); obtain ⟨m0, m1, m2, m3, _, _⟩ := H6.out.frL hf3; have H9 := H6.out.elem hv3 hf3; obtain ⟨LC9, hl_⟩ : ∃ z, z = LC3 ++ [[Value.int IntKind.i64 j.list[k].kind, .int .i64 j.list[k].n, .string j.list[k].s, .slice D3 j.list[k].list.length d3, .slice D4 j.list[k].names.length d4]] := ⟨_, rfl⟩; rw [← hl_] at H9 hv3; have E9 := Hd.mk hl_; clear hl_; obtain ⟨AA9, cc9, he_, _, _⟩ := R_C hv3; subst he_; have H9 := Hd.mk H9; have g9b0_3 : w9.cell? ⟨w.heap.size, 3, none⟩ = some (.slice (some ad3) j.list.length c3) := (m0).cell 3 rfl; have g9b0_4 : w9.cell? ⟨w.heap.size, 4, none⟩ = some (.slice (some ad4) j.names.length c4) := (m0).cell 4 rfl; have g9b0_z := (m0).frozen; have g9b1_0 : w9.cell? ⟨w.heap.size + 1, 0, none⟩ = some (.int .i64 v.kind) := (m1).cell 0 rfl; have g9b1_1 : w9.cell? ⟨w.heap.size + 1, 1, none⟩ = some (.int .i64 v.n) := (m1).cell 1 rfl; have g9b1_2 : w9.cell? ⟨w.heap.size + 1, 2, none⟩ = some (.string v.s) := (m1).cell 2 rfl; have g9b1_3 : w9.cell? ⟨w.heap.size + 1, 3, none⟩ = some (.slice B3 v.list.length e3) := (m1).cell 3 rfl; have g9b1_4 : w9.cell? ⟨w.heap.size + 1, 4, none⟩ = some (.slice B4 v.names.length e4) := (m1).cell 4 rfl; have g9b1_z := (m1).frozen; have g9b3_0 : w9.cell? ⟨w.heap.size + 3, 0, none⟩ = some (.int .i64 5) := (m3).cell 0 rfl; have g9b3_1 : w9.cell? ⟨w.heap.size + 3, 1, none⟩ = some (.int .i64 0) := (m3).cell 1 rfl; have g9b3_2 : w9.cell? ⟨w.heap.size + 3, 2, none⟩ = some (.string ⟨#[]⟩) := (m3).cell 2 rfl; have g9b3_3 : w9.cell? ⟨w.heap.size + 3, 3, none⟩ = some (.slice AA3 LC3.length cc3) := (m3).cell 3 rfl; have g9b3_4 : w9.cell? ⟨w.heap.size + 3, 4, none⟩ = some (.slice AA6 N6.length cc6) := (m3).cell 4 rfl; have g9b3_z := (m3).frozen; clear hv3 hf3 m0 m1 m2 m3)
      refine mixQ_n ?_
      refine tail_b rfl ?_ (by rfl)
      go_wp2_with fail
      refine mixQ_n ?_
      refine tail_b rfl ?_ (by rfl)
      go_wp2_with fail
      refine mixQ_n ?_
      refine tail_nil ?_
      clear g9b0_3 g9b0_4 g9b0_z g9b1_0 g9b1_1 g9b1_2 g9b1_3 g9b1_4 g9b1_z g9b3_0 g9b3_1 g9b3_2 g9b3_3 g9b3_4 g9b3_z
      obtain ⟨W10, hW⟩ : ∃ W, W = (w9.setCell ⟨w.heap.size + 3, 3, none⟩ (Value.slice AA9 LC9.length cc9)) := ⟨_, rfl⟩
      rw [← hW]
      have H9_ := H9.out
      rw [← hW] at H9_
      replace H9 := Hd.mk H9_; clear H9_ hW
      go_wp2_with fail
      go_roundw
      case rel => exact ⟨k + 1, true, _, _, _, _, _, _, _, by omega, rfl, by go_num, ⟨by rw [HPS2.out]; rw [E6.out, E2.out]⟩, ⟨by rw [E9.out, E3.out, HLC.out]; simp [HCK.out, HCn.out]⟩, H9⟩
      case measure => simp [intOf]; omega
     ·have HPS2 := Hd.mk (show putS j.names s n (k + 1) = (true, (N ++ [s]), src ++ [n]) by
       show putOn s (j.names.getD k ⟨#[]⟩) k (putIn s n (j.names.getD k ⟨#[]⟩) (putS j.names s n k)) = _
       rw [HPS.out, HGD.out]; simp [putIn, putOn, hb, hge])
      have UA := trivial; have UB := trivial
      have v03 : wr.cell? ⟨w.heap.size, 3, none⟩ = some (.slice (some ad3) j.list.length c3) := (H.out.b0).cell 3 rfl
      have v04 : wr.cell? ⟨w.heap.size, 4, none⟩ = some (.slice (some ad4) j.names.length c4) := (H.out.b0).cell 4 rfl
      have v0z := (H.out.b0).frozen
      have v10 : wr.cell? ⟨w.heap.size + 1, 0, none⟩ = some (.int .i64 v.kind) := (H.out.b1).cell 0 rfl
      have v11 : wr.cell? ⟨w.heap.size + 1, 1, none⟩ = some (.int .i64 v.n) := (H.out.b1).cell 1 rfl
      have v12 : wr.cell? ⟨w.heap.size + 1, 2, none⟩ = some (.string v.s) := (H.out.b1).cell 2 rfl
      have v13 : wr.cell? ⟨w.heap.size + 1, 3, none⟩ = some (.slice B3 v.list.length e3) := (H.out.b1).cell 3 rfl
      have v14 : wr.cell? ⟨w.heap.size + 1, 4, none⟩ = some (.slice B4 v.names.length e4) := (H.out.b1).cell 4 rfl
      have v1z := (H.out.b1).frozen
      have v30 : wr.cell? ⟨w.heap.size + 3, 0, none⟩ = some (.int .i64 5) := (H.out.b3).cell 0 rfl
      have v31 : wr.cell? ⟨w.heap.size + 3, 1, none⟩ = some (.int .i64 0) := (H.out.b3).cell 1 rfl
      have v32 : wr.cell? ⟨w.heap.size + 3, 2, none⟩ = some (.string ⟨#[]⟩) := (H.out.b3).cell 2 rfl
      have v33 : wr.cell? ⟨w.heap.size + 3, 3, none⟩ = some (.slice AL LC.length cL) := (H.out.b3).cell 3 rfl
      have v34 : wr.cell? ⟨w.heap.size + 3, 4, none⟩ = some (.slice AN N.length cN) := (H.out.b3).cell 4 rfl
      have v3z := (H.out.b3).frozen
      have xn : wr.cell? (ad4.add k) = some (.string j.names[k]) := cell_below H.out.bl XN.out
      have x0 : wr.cell? (ad3.add (k * 5)) = some (.int .i64 j.list[k].kind) := cell_below H.out.bl XE.out.1
      have x1 : wr.cell? ⟨(ad3.add (k * 5)).block, (ad3.add (k * 5)).off + 1, none⟩ = some (.int .i64 j.list[k].n) := cell_below H.out.bl XE.out.2.1
      have x2 : wr.cell? ⟨(ad3.add (k * 5)).block, (ad3.add (k * 5)).off + 2, none⟩ = some (.string j.list[k].s) := cell_below H.out.bl XE.out.2.2.1
      have x3 : wr.cell? ⟨(ad3.add (k * 5)).block, (ad3.add (k * 5)).off + 3, none⟩ = some (.slice D3 j.list[k].list.length d3) := cell_below H.out.bl XE.out.2.2.2.1
      have x4 : wr.cell? ⟨(ad3.add (k * 5)).block, (ad3.add (k * 5)).off + 4, none⟩ = some (.slice D4 j.list[k].names.length d4) := cell_below H.out.bl XE.out.2.2.2.2
      go_wp2_with (first | (clear UA; at_builtin; refine append_s1 rfl rfl s (by omega) rfl _ _ rfl rfl rfl H.out.rN (by have h1_ := hLN.out; have h2_ := hLL.out; skip; omega) (fun v3 w2 hv3 hf3 => ?_); obtain ⟨m0, m1, m2, m3, _, _⟩ := H.out.frN hf3; have H2 := H.out.name hv3 hf3; obtain ⟨N2, hl_⟩ : ∃ z, z = N ++ [s] := ⟨_, rfl⟩; rw [← hl_] at H2 hv3; have E2 := Hd.mk hl_; clear hl_; obtain ⟨AA2, cc2, he_, _, _⟩ := R_C hv3; subst he_; have H2 := Hd.mk H2; have g2b0_3 : w2.cell? ⟨w.heap.size, 3, none⟩ = some (.slice (some ad3) j.list.length c3) := (m0).cell 3 rfl; have g2b0_4 : w2.cell? ⟨w.heap.size, 4, none⟩ = some (.slice (some ad4) j.names.length c4) := (m0).cell 4 rfl; have g2b0_z := (m0).frozen; have g2b1_0 : w2.cell? ⟨w.heap.size + 1, 0, none⟩ = some (.int .i64 v.kind) := (m1).cell 0 rfl; have g2b1_1 : w2.cell? ⟨w.heap.size + 1, 1, none⟩ = some (.int .i64 v.n) := (m1).cell 1 rfl; have g2b1_2 : w2.cell? ⟨w.heap.size + 1, 2, none⟩ = some (.string v.s) := (m1).cell 2 rfl; have g2b1_3 : w2.cell? ⟨w.heap.size + 1, 3, none⟩ = some (.slice B3 v.list.length e3) := (m1).cell 3 rfl; have g2b1_4 : w2.cell? ⟨w.heap.size + 1, 4, none⟩ = some (.slice B4 v.names.length e4) := (m1).cell 4 rfl; have g2b1_z := (m1).frozen; have g2b3_0 : w2.cell? ⟨w.heap.size + 3, 0, none⟩ = some (.int .i64 5) := (m3).cell 0 rfl; have g2b3_1 : w2.cell? ⟨w.heap.size + 3, 1, none⟩ = some (.int .i64 0) := (m3).cell 1 rfl; have g2b3_2 : w2.cell? ⟨w.heap.size + 3, 2, none⟩ = some (.string ⟨#[]⟩) := (m3).cell 2 rfl; have g2b3_3 : w2.cell? ⟨w.heap.size + 3, 3, none⟩ = some (.slice AL LC.length cL) := (m3).cell 3 rfl; have g2b3_4 : w2.cell? ⟨w.heap.size + 3, 4, none⟩ = some (.slice AN N.length cN) := (m3).cell 4 rfl; have g2b3_z := (m3).frozen; clear hv3 hf3 m0 m1 m2 m3) | (clear UB; at_builtin; refine append_r1 rfl (by simp) [Value.int IntKind.i64 v.kind, .int .i64 v.n, .string v.s, .slice B3 v.list.length e3, .slice B4 v.names.length e4] ⟨rfl, one5 _ _ _ _ _ _ _ _ _⟩ rfl _ _ rfl rfl rfl H2.out.rL (by have h1_ := hLN.out; have h2_ := hLL.out; have lE2 := congrArg List.length E2.out; rw [List.length_append, List.length_singleton] at lE2; omega) (fun v3 w3 hv3 hf3 => ?_); obtain ⟨m0, m1, m2, m3, _, _⟩ := H2.out.frL hf3; have H3 := H2.out.elem hv3 hf3; obtain ⟨LC3, hl_⟩ : ∃ z, z = LC ++ [[Value.int IntKind.i64 v.kind, .int .i64 v.n, .string v.s, .slice B3 v.list.length e3, .slice B4 v.names.length e4]] := ⟨_, rfl⟩; rw [← hl_] at H3 hv3; have E3 := Hd.mk hl_; clear hl_; obtain ⟨AA3, cc3, he_, _, _⟩ := R_C hv3; subst he_; have H3 := Hd.mk H3; have g3b0_3 : w3.cell? ⟨w.heap.size, 3, none⟩ = some (.slice (some ad3) j.list.length c3) := (m0).cell 3 rfl; have g3b0_4 : w3.cell? ⟨w.heap.size, 4, none⟩ = some (.slice (some ad4) j.names.length c4) := (m0).cell 4 rfl; have g3b0_z := (m0).frozen; have g3b1_0 : w3.cell? ⟨w.heap.size + 1, 0, none⟩ = some (.int .i64 v.kind) := (m1).cell 0 rfl; have g3b1_1 : w3.cell? ⟨w.heap.size + 1, 1, none⟩ = some (.int .i64 v.n) := (m1).cell 1 rfl; have g3b1_2 : w3.cell? ⟨w.heap.size + 1, 2, none⟩ = some (.string v.s) := (m1).cell 2 rfl; have g3b1_3 : w3.cell? ⟨w.heap.size + 1, 3, none⟩ = some (.slice B3 v.list.length e3) := (m1).cell 3 rfl; have g3b1_4 : w3.cell? ⟨w.heap.size + 1, 4, none⟩ = some (.slice B4 v.names.length e4) := (m1).cell 4 rfl; have g3b1_z := (m1).frozen; have g3b3_0 : w3.cell? ⟨w.heap.size + 3, 0, none⟩ = some (.int .i64 5) := (m3).cell 0 rfl; have g3b3_1 : w3.cell? ⟨w.heap.size + 3, 1, none⟩ = some (.int .i64 0) := (m3).cell 1 rfl; have g3b3_2 : w3.cell? ⟨w.heap.size + 3, 2, none⟩ = some (.string ⟨#[]⟩) := (m3).cell 2 rfl; have g3b3_3 : w3.cell? ⟨w.heap.size + 3, 3, none⟩ = some (.slice AL LC.length cL) := (m3).cell 3 rfl; have g3b3_4 : w3.cell? ⟨w.heap.size + 3, 4, none⟩ = some (.slice AA2 N2.length cc2) := (m3).cell 4 rfl; have g3b3_z := (m3).frozen; clear hv3 hf3 m0 m1 m2 m3; have g3x : (w3.setCell ⟨w.heap.size + 1 + 1 + 1, 3, none⟩ (Value.slice AA3 LC3.length cc3)).cell? (ad4.add k) = some (.string j.names[k]) := cell_below H3.out.bl XN.out))
      clear v03 v04 v0z v10 v11 v12 v13 v14 v1z v30 v31 v32 v33 v34 v3z g2b0_3 g2b0_4 g2b0_z g2b1_0 g2b1_1 g2b1_2 g2b1_3 g2b1_4 g2b1_z g2b3_0 g2b3_1 g2b3_2 g2b3_3 g2b3_4 g2b3_z g3b0_3 g3b0_4 g3b0_z g3b1_0 g3b1_1 g3b1_2 g3b1_3 g3b1_4 g3b1_z g3b3_0 g3b3_1 g3b3_2 g3b3_3 g3b3_4 g3b3_z g3x xn x0 x1 x2 x3 x4
      go_roundw
      case rel => exact ⟨k + 1, true, _, _, _, _, _, _, _, by omega, rfl, by go_num, ⟨by rw [HPS2.out]; rw [E2.out]⟩, ⟨by rw [E3.out, HLC.out]; simp [HCK.out, HCn.out]⟩, H3⟩
      case measure => simp [intOf]; omega
    ·rw [hge] at hgq
     cases hb : (j.names[k].toList == s.toList)
     ·have HPS2 := Hd.mk (show putS j.names s n (k + 1) = (false, N ++ [j.names[k]], src ++ [k]) by
       show putOn s (j.names.getD k ⟨#[]⟩) k (putIn s n (j.names.getD k ⟨#[]⟩) (putS j.names s n k)) = _
       rw [HPS.out, HGD.out]; simp [putIn, putOn, hb, hge])
      have v03 : wr.cell? ⟨w.heap.size, 3, none⟩ = some (.slice (some ad3) j.list.length c3) := (H.out.b0).cell 3 rfl
      have v04 : wr.cell? ⟨w.heap.size, 4, none⟩ = some (.slice (some ad4) j.names.length c4) := (H.out.b0).cell 4 rfl
      have v0z := (H.out.b0).frozen
      have v10 : wr.cell? ⟨w.heap.size + 1, 0, none⟩ = some (.int .i64 v.kind) := (H.out.b1).cell 0 rfl
      have v11 : wr.cell? ⟨w.heap.size + 1, 1, none⟩ = some (.int .i64 v.n) := (H.out.b1).cell 1 rfl
      have v12 : wr.cell? ⟨w.heap.size + 1, 2, none⟩ = some (.string v.s) := (H.out.b1).cell 2 rfl
      have v13 : wr.cell? ⟨w.heap.size + 1, 3, none⟩ = some (.slice B3 v.list.length e3) := (H.out.b1).cell 3 rfl
      have v14 : wr.cell? ⟨w.heap.size + 1, 4, none⟩ = some (.slice B4 v.names.length e4) := (H.out.b1).cell 4 rfl
      have v1z := (H.out.b1).frozen
      have v30 : wr.cell? ⟨w.heap.size + 3, 0, none⟩ = some (.int .i64 5) := (H.out.b3).cell 0 rfl
      have v31 : wr.cell? ⟨w.heap.size + 3, 1, none⟩ = some (.int .i64 0) := (H.out.b3).cell 1 rfl
      have v32 : wr.cell? ⟨w.heap.size + 3, 2, none⟩ = some (.string ⟨#[]⟩) := (H.out.b3).cell 2 rfl
      have v33 : wr.cell? ⟨w.heap.size + 3, 3, none⟩ = some (.slice AL LC.length cL) := (H.out.b3).cell 3 rfl
      have v34 : wr.cell? ⟨w.heap.size + 3, 4, none⟩ = some (.slice AN N.length cN) := (H.out.b3).cell 4 rfl
      have v3z := (H.out.b3).frozen
      have xn : wr.cell? (ad4.add k) = some (.string j.names[k]) := cell_below H.out.bl XN.out
      have x0 : wr.cell? (ad3.add (k * 5)) = some (.int .i64 j.list[k].kind) := cell_below H.out.bl XE.out.1
      have x1 : wr.cell? ⟨(ad3.add (k * 5)).block, (ad3.add (k * 5)).off + 1, none⟩ = some (.int .i64 j.list[k].n) := cell_below H.out.bl XE.out.2.1
      have x2 : wr.cell? ⟨(ad3.add (k * 5)).block, (ad3.add (k * 5)).off + 2, none⟩ = some (.string j.list[k].s) := cell_below H.out.bl XE.out.2.2.1
      have x3 : wr.cell? ⟨(ad3.add (k * 5)).block, (ad3.add (k * 5)).off + 3, none⟩ = some (.slice D3 j.list[k].list.length d3) := cell_below H.out.bl XE.out.2.2.2.1
      have x4 : wr.cell? ⟨(ad3.add (k * 5)).block, (ad3.add (k * 5)).off + 4, none⟩ = some (.slice D4 j.list[k].names.length d4) := cell_below H.out.bl XE.out.2.2.2.2
      go_wp2_with fail
      clear v03 v04 v0z v10 v11 v12 v13 v14 v1z v30 v31 v32 v33 v34 v3z xn x0 x1 x2 x3 x4
      have v03 : wr.cell? ⟨w.heap.size, 3, none⟩ = some (.slice (some ad3) j.list.length c3) := (H.out.b0).cell 3 rfl
      have v04 : wr.cell? ⟨w.heap.size, 4, none⟩ = some (.slice (some ad4) j.names.length c4) := (H.out.b0).cell 4 rfl
      have v0z := (H.out.b0).frozen
      have v10 : wr.cell? ⟨w.heap.size + 1, 0, none⟩ = some (.int .i64 v.kind) := (H.out.b1).cell 0 rfl
      have v11 : wr.cell? ⟨w.heap.size + 1, 1, none⟩ = some (.int .i64 v.n) := (H.out.b1).cell 1 rfl
      have v12 : wr.cell? ⟨w.heap.size + 1, 2, none⟩ = some (.string v.s) := (H.out.b1).cell 2 rfl
      have v13 : wr.cell? ⟨w.heap.size + 1, 3, none⟩ = some (.slice B3 v.list.length e3) := (H.out.b1).cell 3 rfl
      have v14 : wr.cell? ⟨w.heap.size + 1, 4, none⟩ = some (.slice B4 v.names.length e4) := (H.out.b1).cell 4 rfl
      have v1z := (H.out.b1).frozen
      have v30 : wr.cell? ⟨w.heap.size + 3, 0, none⟩ = some (.int .i64 5) := (H.out.b3).cell 0 rfl
      have v31 : wr.cell? ⟨w.heap.size + 3, 1, none⟩ = some (.int .i64 0) := (H.out.b3).cell 1 rfl
      have v32 : wr.cell? ⟨w.heap.size + 3, 2, none⟩ = some (.string ⟨#[]⟩) := (H.out.b3).cell 2 rfl
      have v33 : wr.cell? ⟨w.heap.size + 3, 3, none⟩ = some (.slice AL LC.length cL) := (H.out.b3).cell 3 rfl
      have v34 : wr.cell? ⟨w.heap.size + 3, 4, none⟩ = some (.slice AN N.length cN) := (H.out.b3).cell 4 rfl
      have v3z := (H.out.b3).frozen
      have xn : wr.cell? (ad4.add k) = some (.string j.names[k]) := cell_below H.out.bl XN.out
      have x0 : wr.cell? (ad3.add (k * 5)) = some (.int .i64 j.list[k].kind) := cell_below H.out.bl XE.out.1
      have x1 : wr.cell? ⟨(ad3.add (k * 5)).block, (ad3.add (k * 5)).off + 1, none⟩ = some (.int .i64 j.list[k].n) := cell_below H.out.bl XE.out.2.1
      have x2 : wr.cell? ⟨(ad3.add (k * 5)).block, (ad3.add (k * 5)).off + 2, none⟩ = some (.string j.list[k].s) := cell_below H.out.bl XE.out.2.2.1
      have x3 : wr.cell? ⟨(ad3.add (k * 5)).block, (ad3.add (k * 5)).off + 3, none⟩ = some (.slice D3 j.list[k].list.length d3) := cell_below H.out.bl XE.out.2.2.2.1
      have x4 : wr.cell? ⟨(ad3.add (k * 5)).block, (ad3.add (k * 5)).off + 4, none⟩ = some (.slice D4 j.list[k].names.length d4) := cell_below H.out.bl XE.out.2.2.2.2
      obtain ⟨rv03, rv04, rv10, rv11, rv12, rv13, rv14⟩ := reg7 v03 v04 v10 v11 v12 v13 v14
      obtain ⟨rv30, rv31, rv32, rv33, rv34, rxn, rx0⟩ := reg7 v30 v31 v32 v33 v34 xn x0
      have rx1 := cell_regrown x1
      have rx2 := cell_regrown x2
      have rx3 := cell_regrown x3
      have rx4 := cell_regrown x4
      refine region_mixT (.p 0 (.q 1 (.p 2 (.q 3 (.p 4 (.q 5 (.q 6 (.b 7 .fin)))))))) [8, 9, 10] (by kernel_rfl) (by kernel_rfl) (fun _ _ _ _ _ h => h) ?_
      refine genT ?_; intro W2 hW
      have hS := Hd.mk (show Below wr.heap.size wr W2 by rw [hW]; exact below_drew (Below.refl _ _)); clear hW
      replace H := Hd.mk (H.out.below hS.out)
      iterate 7 ((first | refine mixT_q rfl ?_ | refine mixT_p rfl ?_); go_big_quiet_want; go_big_quiet_op; go_big_quiet_on; refine wpQuiet_nil ?_)
      refine mixT_b rfl ?_ (by rfl)
      go_wp2_with fail
      refine ⟨cls_below (below_alloc hS.out _), ?_⟩
      refine mixT_fin ?_
      clear hS rv03 rv04 rv10 rv11 rv12 rv13 rv14 rv30 rv31 rv32 rv33 rv34 rxn rx0 rx1 rx2 rx3 rx4
      clear v03 v04 v0z v10 v11 v12 v13 v14 v1z v30 v31 v32 v33 v34 v3z xn x0 x1 x2 x3 x4
      refine tail_b rfl ?_ (by rfl)
      go_wp2_with (at_builtin; refine append_s1 rfl rfl j.names[k] (by omega) rfl _ _ rfl rfl rfl H.out.rN (by have h1_ := hLN.out; have h2_ := hLL.out; skip; omega) (fun v3 w3 hv3 hf3 => ?_); obtain ⟨m0, m1, m2, m3, _, _⟩ := H.out.frN hf3; have H3 := H.out.name hv3 hf3; obtain ⟨N3, hl_⟩ : ∃ z, z = N ++ [j.names[k]] := ⟨_, rfl⟩; rw [← hl_] at H3 hv3; have E3 := Hd.mk hl_; clear hl_; obtain ⟨AA3, cc3, he_, _, _⟩ := R_C hv3; subst he_; have H3 := Hd.mk H3; have g3b0_3 : w3.cell? ⟨w.heap.size, 3, none⟩ = some (.slice (some ad3) j.list.length c3) := (m0).cell 3 rfl; have g3b0_4 : w3.cell? ⟨w.heap.size, 4, none⟩ = some (.slice (some ad4) j.names.length c4) := (m0).cell 4 rfl; have g3b0_z := (m0).frozen; have g3b1_0 : w3.cell? ⟨w.heap.size + 1, 0, none⟩ = some (.int .i64 v.kind) := (m1).cell 0 rfl; have g3b1_1 : w3.cell? ⟨w.heap.size + 1, 1, none⟩ = some (.int .i64 v.n) := (m1).cell 1 rfl; have g3b1_2 : w3.cell? ⟨w.heap.size + 1, 2, none⟩ = some (.string v.s) := (m1).cell 2 rfl; have g3b1_3 : w3.cell? ⟨w.heap.size + 1, 3, none⟩ = some (.slice B3 v.list.length e3) := (m1).cell 3 rfl; have g3b1_4 : w3.cell? ⟨w.heap.size + 1, 4, none⟩ = some (.slice B4 v.names.length e4) := (m1).cell 4 rfl; have g3b1_z := (m1).frozen; have g3b3_0 : w3.cell? ⟨w.heap.size + 3, 0, none⟩ = some (.int .i64 5) := (m3).cell 0 rfl; have g3b3_1 : w3.cell? ⟨w.heap.size + 3, 1, none⟩ = some (.int .i64 0) := (m3).cell 1 rfl; have g3b3_2 : w3.cell? ⟨w.heap.size + 3, 2, none⟩ = some (.string ⟨#[]⟩) := (m3).cell 2 rfl; have g3b3_3 : w3.cell? ⟨w.heap.size + 3, 3, none⟩ = some (.slice AL LC.length cL) := (m3).cell 3 rfl; have g3b3_4 : w3.cell? ⟨w.heap.size + 3, 4, none⟩ = some (.slice AN N.length cN) := (m3).cell 4 rfl; have g3b3_z := (m3).frozen; clear hv3 hf3 m0 m1 m2 m3)
      refine mixQ_n ?_
      refine tail_b rfl ?_ (by rfl)
      go_wp2_with fail
      refine mixQ_n ?_
      refine tail_b rfl ?_ (by rfl)
      go_wp2_with fail
      refine mixQ_n ?_
      refine tail_nil ?_
      clear g3b0_3 g3b0_4 g3b0_z g3b1_0 g3b1_1 g3b1_2 g3b1_3 g3b1_4 g3b1_z g3b3_0 g3b3_1 g3b3_2 g3b3_3 g3b3_4 g3b3_z
      obtain ⟨W4, hW⟩ : ∃ W, W = (w3.setCell ⟨w.heap.size + 3, 4, none⟩ (Value.slice AA3 N3.length cc3)) := ⟨_, rfl⟩
      rw [← hW]
      have H3_ := H3.out
      rw [← hW] at H3_
      replace H3 := Hd.mk H3_; clear H3_ hW
      go_wp2_with fail
      have v03 : W4.cell? ⟨w.heap.size, 3, none⟩ = some (.slice (some ad3) j.list.length c3) := (H3.out.b0).cell 3 rfl
      have v04 : W4.cell? ⟨w.heap.size, 4, none⟩ = some (.slice (some ad4) j.names.length c4) := (H3.out.b0).cell 4 rfl
      have v0z := (H3.out.b0).frozen
      have v10 : W4.cell? ⟨w.heap.size + 1, 0, none⟩ = some (.int .i64 v.kind) := (H3.out.b1).cell 0 rfl
      have v11 : W4.cell? ⟨w.heap.size + 1, 1, none⟩ = some (.int .i64 v.n) := (H3.out.b1).cell 1 rfl
      have v12 : W4.cell? ⟨w.heap.size + 1, 2, none⟩ = some (.string v.s) := (H3.out.b1).cell 2 rfl
      have v13 : W4.cell? ⟨w.heap.size + 1, 3, none⟩ = some (.slice B3 v.list.length e3) := (H3.out.b1).cell 3 rfl
      have v14 : W4.cell? ⟨w.heap.size + 1, 4, none⟩ = some (.slice B4 v.names.length e4) := (H3.out.b1).cell 4 rfl
      have v1z := (H3.out.b1).frozen
      have v30 : W4.cell? ⟨w.heap.size + 3, 0, none⟩ = some (.int .i64 5) := (H3.out.b3).cell 0 rfl
      have v31 : W4.cell? ⟨w.heap.size + 3, 1, none⟩ = some (.int .i64 0) := (H3.out.b3).cell 1 rfl
      have v32 : W4.cell? ⟨w.heap.size + 3, 2, none⟩ = some (.string ⟨#[]⟩) := (H3.out.b3).cell 2 rfl
      have v33 : W4.cell? ⟨w.heap.size + 3, 3, none⟩ = some (.slice AL LC.length cL) := (H3.out.b3).cell 3 rfl
      have v34 : W4.cell? ⟨w.heap.size + 3, 4, none⟩ = some (.slice AA3 N3.length cc3) := (H3.out.b3).cell 4 rfl
      have v3z := (H3.out.b3).frozen
      have xn : W4.cell? (ad4.add k) = some (.string j.names[k]) := cell_below H3.out.bl XN.out
      have x0 : W4.cell? (ad3.add (k * 5)) = some (.int .i64 j.list[k].kind) := cell_below H3.out.bl XE.out.1
      have x1 : W4.cell? ⟨(ad3.add (k * 5)).block, (ad3.add (k * 5)).off + 1, none⟩ = some (.int .i64 j.list[k].n) := cell_below H3.out.bl XE.out.2.1
      have x2 : W4.cell? ⟨(ad3.add (k * 5)).block, (ad3.add (k * 5)).off + 2, none⟩ = some (.string j.list[k].s) := cell_below H3.out.bl XE.out.2.2.1
      have x3 : W4.cell? ⟨(ad3.add (k * 5)).block, (ad3.add (k * 5)).off + 3, none⟩ = some (.slice D3 j.list[k].list.length d3) := cell_below H3.out.bl XE.out.2.2.2.1
      have x4 : W4.cell? ⟨(ad3.add (k * 5)).block, (ad3.add (k * 5)).off + 4, none⟩ = some (.slice D4 j.list[k].names.length d4) := cell_below H3.out.bl XE.out.2.2.2.2
      obtain ⟨rv03, rv04, rv10, rv11, rv12, rv13, rv14⟩ := reg7 v03 v04 v10 v11 v12 v13 v14
      obtain ⟨rv30, rv31, rv32, rv33, rv34, rxn, rx0⟩ := reg7 v30 v31 v32 v33 v34 xn x0
      have rx1 := cell_regrown x1
      have rx2 := cell_regrown x2
      have rx3 := cell_regrown x3
      have rx4 := cell_regrown x4
      refine region_mixT (.p 0 (.q 1 (.p 2 (.q 3 (.p 4 (.q 5 (.q 6 (.b 7 .fin)))))))) [8, 9, 10] (by kernel_rfl) (by kernel_rfl) (fun _ _ _ _ _ h => h) ?_
      refine genT ?_; intro W5 hW
      have hS := Hd.mk (show Below W4.heap.size W4 W5 by rw [hW]; exact below_drew (Below.refl _ _)); clear hW
      replace H3 := Hd.mk (H3.out.below hS.out)
      iterate 7 ((first | refine mixT_q rfl ?_ | refine mixT_p rfl ?_); go_big_quiet_want; go_big_quiet_op; go_big_quiet_on; refine wpQuiet_nil ?_)
      refine mixT_b rfl ?_ (by rfl)
      go_wp2_with fail
      refine ⟨cls_below (below_alloc hS.out _), ?_⟩
      refine mixT_fin ?_
      clear hS rv03 rv04 rv10 rv11 rv12 rv13 rv14 rv30 rv31 rv32 rv33 rv34 rxn rx0 rx1 rx2 rx3 rx4
      clear v03 v04 v0z v10 v11 v12 v13 v14 v1z v30 v31 v32 v33 v34 v3z xn x0 x1 x2 x3 x4
      refine tail_b rfl ?_ (by rfl)
      go_wp2_with (at_builtin; refine append_r1 rfl rfl [Value.int IntKind.i64 j.list[k].kind, .int .i64 j.list[k].n, .string j.list[k].s, .slice D3 j.list[k].list.length d3, .slice D4 j.list[k].names.length d4] ⟨rfl, one5 _ _ _ _ _ _ _ _ _⟩ rfl _ _ rfl rfl rfl H3.out.rL (by have h1_ := hLN.out; have h2_ := hLL.out; have lE3 := congrArg List.length E3.out; rw [List.length_append, List.length_singleton] at lE3; omega) (fun v3 w6 hv3 hf3 => ?_); obtain ⟨m0, m1, m2, m3, _, _⟩ := H3.out.frL hf3; have H6 := H3.out.elem hv3 hf3; obtain ⟨LC6, hl_⟩ : ∃ z, z = LC ++ [[Value.int IntKind.i64 j.list[k].kind, .int .i64 j.list[k].n, .string j.list[k].s, .slice D3 j.list[k].list.length d3, .slice D4 j.list[k].names.length d4]] := ⟨_, rfl⟩; rw [← hl_] at H6 hv3; have E6 := Hd.mk hl_; clear hl_; obtain ⟨AA6, cc6, he_, _, _⟩ := R_C hv3; subst he_; have H6 := Hd.mk H6; have g6b0_3 : w6.cell? ⟨w.heap.size, 3, none⟩ = some (.slice (some ad3) j.list.length c3) := (m0).cell 3 rfl; have g6b0_4 : w6.cell? ⟨w.heap.size, 4, none⟩ = some (.slice (some ad4) j.names.length c4) := (m0).cell 4 rfl; have g6b0_z := (m0).frozen; have g6b1_0 : w6.cell? ⟨w.heap.size + 1, 0, none⟩ = some (.int .i64 v.kind) := (m1).cell 0 rfl; have g6b1_1 : w6.cell? ⟨w.heap.size + 1, 1, none⟩ = some (.int .i64 v.n) := (m1).cell 1 rfl; have g6b1_2 : w6.cell? ⟨w.heap.size + 1, 2, none⟩ = some (.string v.s) := (m1).cell 2 rfl; have g6b1_3 : w6.cell? ⟨w.heap.size + 1, 3, none⟩ = some (.slice B3 v.list.length e3) := (m1).cell 3 rfl; have g6b1_4 : w6.cell? ⟨w.heap.size + 1, 4, none⟩ = some (.slice B4 v.names.length e4) := (m1).cell 4 rfl; have g6b1_z := (m1).frozen; have g6b3_0 : w6.cell? ⟨w.heap.size + 3, 0, none⟩ = some (.int .i64 5) := (m3).cell 0 rfl; have g6b3_1 : w6.cell? ⟨w.heap.size + 3, 1, none⟩ = some (.int .i64 0) := (m3).cell 1 rfl; have g6b3_2 : w6.cell? ⟨w.heap.size + 3, 2, none⟩ = some (.string ⟨#[]⟩) := (m3).cell 2 rfl; have g6b3_3 : w6.cell? ⟨w.heap.size + 3, 3, none⟩ = some (.slice AL LC.length cL) := (m3).cell 3 rfl; have g6b3_4 : w6.cell? ⟨w.heap.size + 3, 4, none⟩ = some (.slice AA3 N3.length cc3) := (m3).cell 4 rfl; have g6b3_z := (m3).frozen; clear hv3 hf3 m0 m1 m2 m3)
      refine mixQ_n ?_
      refine tail_b rfl ?_ (by rfl)
      go_wp2_with fail
      refine mixQ_n ?_
      refine tail_b rfl ?_ (by rfl)
      go_wp2_with fail
      refine mixQ_n ?_
      refine tail_nil ?_
      clear g6b0_3 g6b0_4 g6b0_z g6b1_0 g6b1_1 g6b1_2 g6b1_3 g6b1_4 g6b1_z g6b3_0 g6b3_1 g6b3_2 g6b3_3 g6b3_4 g6b3_z
      obtain ⟨W7, hW⟩ : ∃ W, W = (w6.setCell ⟨w.heap.size + 3, 3, none⟩ (Value.slice AA6 LC6.length cc6)) := ⟨_, rfl⟩
      rw [← hW]
      have H6_ := H6.out
      rw [← hW] at H6_
      replace H6 := Hd.mk H6_; clear H6_ hW
      go_wp2_with fail
      go_roundw
      case rel => exact ⟨k + 1, false, _, _, _, _, _, _, _, by omega, rfl, by go_num, ⟨by rw [HPS2.out]; rw [E3.out]⟩, ⟨by rw [E6.out, HLC.out]; simp [HCK.out, HCn.out]⟩, H6⟩
      case measure => simp [intOf]; omega
     ·have HPS2 := Hd.mk (show putS j.names s n (k + 1) = (false, N, src) by
       show putOn s (j.names.getD k ⟨#[]⟩) k (putIn s n (j.names.getD k ⟨#[]⟩) (putS j.names s n k)) = _
       rw [HPS.out, HGD.out]; simp [putIn, putOn, hb, hge])
      have v03 : wr.cell? ⟨w.heap.size, 3, none⟩ = some (.slice (some ad3) j.list.length c3) := (H.out.b0).cell 3 rfl
      have v04 : wr.cell? ⟨w.heap.size, 4, none⟩ = some (.slice (some ad4) j.names.length c4) := (H.out.b0).cell 4 rfl
      have v0z := (H.out.b0).frozen
      have v10 : wr.cell? ⟨w.heap.size + 1, 0, none⟩ = some (.int .i64 v.kind) := (H.out.b1).cell 0 rfl
      have v11 : wr.cell? ⟨w.heap.size + 1, 1, none⟩ = some (.int .i64 v.n) := (H.out.b1).cell 1 rfl
      have v12 : wr.cell? ⟨w.heap.size + 1, 2, none⟩ = some (.string v.s) := (H.out.b1).cell 2 rfl
      have v13 : wr.cell? ⟨w.heap.size + 1, 3, none⟩ = some (.slice B3 v.list.length e3) := (H.out.b1).cell 3 rfl
      have v14 : wr.cell? ⟨w.heap.size + 1, 4, none⟩ = some (.slice B4 v.names.length e4) := (H.out.b1).cell 4 rfl
      have v1z := (H.out.b1).frozen
      have v30 : wr.cell? ⟨w.heap.size + 3, 0, none⟩ = some (.int .i64 5) := (H.out.b3).cell 0 rfl
      have v31 : wr.cell? ⟨w.heap.size + 3, 1, none⟩ = some (.int .i64 0) := (H.out.b3).cell 1 rfl
      have v32 : wr.cell? ⟨w.heap.size + 3, 2, none⟩ = some (.string ⟨#[]⟩) := (H.out.b3).cell 2 rfl
      have v33 : wr.cell? ⟨w.heap.size + 3, 3, none⟩ = some (.slice AL LC.length cL) := (H.out.b3).cell 3 rfl
      have v34 : wr.cell? ⟨w.heap.size + 3, 4, none⟩ = some (.slice AN N.length cN) := (H.out.b3).cell 4 rfl
      have v3z := (H.out.b3).frozen
      have xn : wr.cell? (ad4.add k) = some (.string j.names[k]) := cell_below H.out.bl XN.out
      have x0 : wr.cell? (ad3.add (k * 5)) = some (.int .i64 j.list[k].kind) := cell_below H.out.bl XE.out.1
      have x1 : wr.cell? ⟨(ad3.add (k * 5)).block, (ad3.add (k * 5)).off + 1, none⟩ = some (.int .i64 j.list[k].n) := cell_below H.out.bl XE.out.2.1
      have x2 : wr.cell? ⟨(ad3.add (k * 5)).block, (ad3.add (k * 5)).off + 2, none⟩ = some (.string j.list[k].s) := cell_below H.out.bl XE.out.2.2.1
      have x3 : wr.cell? ⟨(ad3.add (k * 5)).block, (ad3.add (k * 5)).off + 3, none⟩ = some (.slice D3 j.list[k].list.length d3) := cell_below H.out.bl XE.out.2.2.2.1
      have x4 : wr.cell? ⟨(ad3.add (k * 5)).block, (ad3.add (k * 5)).off + 4, none⟩ = some (.slice D4 j.list[k].names.length d4) := cell_below H.out.bl XE.out.2.2.2.2
      go_wp2_with fail
      clear v03 v04 v0z v10 v11 v12 v13 v14 v1z v30 v31 v32 v33 v34 v3z xn x0 x1 x2 x3 x4
      go_roundw
      case rel => exact ⟨k + 1, false, _, _, _, _, _, _, _, by omega, rfl, by go_num, ⟨by rw [HPS2.out]⟩, ⟨by exact HLC.out⟩, H⟩
      case measure => simp [intOf]; omega
   ·cases hb : (j.names[k].toList == s.toList)
    ·have HPS2 := Hd.mk (show putS j.names s n (k + 1) = (true, N ++ [j.names[k]], src ++ [k]) by
      show putOn s (j.names.getD k ⟨#[]⟩) k (putIn s n (j.names.getD k ⟨#[]⟩) (putS j.names s n k)) = _
      rw [HPS.out, HGD.out]; simp [putIn, putOn, hb])
     have v03 : wr.cell? ⟨w.heap.size, 3, none⟩ = some (.slice (some ad3) j.list.length c3) := (H.out.b0).cell 3 rfl
     have v04 : wr.cell? ⟨w.heap.size, 4, none⟩ = some (.slice (some ad4) j.names.length c4) := (H.out.b0).cell 4 rfl
     have v0z := (H.out.b0).frozen
     have v10 : wr.cell? ⟨w.heap.size + 1, 0, none⟩ = some (.int .i64 v.kind) := (H.out.b1).cell 0 rfl
     have v11 : wr.cell? ⟨w.heap.size + 1, 1, none⟩ = some (.int .i64 v.n) := (H.out.b1).cell 1 rfl
     have v12 : wr.cell? ⟨w.heap.size + 1, 2, none⟩ = some (.string v.s) := (H.out.b1).cell 2 rfl
     have v13 : wr.cell? ⟨w.heap.size + 1, 3, none⟩ = some (.slice B3 v.list.length e3) := (H.out.b1).cell 3 rfl
     have v14 : wr.cell? ⟨w.heap.size + 1, 4, none⟩ = some (.slice B4 v.names.length e4) := (H.out.b1).cell 4 rfl
     have v1z := (H.out.b1).frozen
     have v30 : wr.cell? ⟨w.heap.size + 3, 0, none⟩ = some (.int .i64 5) := (H.out.b3).cell 0 rfl
     have v31 : wr.cell? ⟨w.heap.size + 3, 1, none⟩ = some (.int .i64 0) := (H.out.b3).cell 1 rfl
     have v32 : wr.cell? ⟨w.heap.size + 3, 2, none⟩ = some (.string ⟨#[]⟩) := (H.out.b3).cell 2 rfl
     have v33 : wr.cell? ⟨w.heap.size + 3, 3, none⟩ = some (.slice AL LC.length cL) := (H.out.b3).cell 3 rfl
     have v34 : wr.cell? ⟨w.heap.size + 3, 4, none⟩ = some (.slice AN N.length cN) := (H.out.b3).cell 4 rfl
     have v3z := (H.out.b3).frozen
     have xn : wr.cell? (ad4.add k) = some (.string j.names[k]) := cell_below H.out.bl XN.out
     have x0 : wr.cell? (ad3.add (k * 5)) = some (.int .i64 j.list[k].kind) := cell_below H.out.bl XE.out.1
     have x1 : wr.cell? ⟨(ad3.add (k * 5)).block, (ad3.add (k * 5)).off + 1, none⟩ = some (.int .i64 j.list[k].n) := cell_below H.out.bl XE.out.2.1
     have x2 : wr.cell? ⟨(ad3.add (k * 5)).block, (ad3.add (k * 5)).off + 2, none⟩ = some (.string j.list[k].s) := cell_below H.out.bl XE.out.2.2.1
     have x3 : wr.cell? ⟨(ad3.add (k * 5)).block, (ad3.add (k * 5)).off + 3, none⟩ = some (.slice D3 j.list[k].list.length d3) := cell_below H.out.bl XE.out.2.2.2.1
     have x4 : wr.cell? ⟨(ad3.add (k * 5)).block, (ad3.add (k * 5)).off + 4, none⟩ = some (.slice D4 j.list[k].names.length d4) := cell_below H.out.bl XE.out.2.2.2.2
     go_wp2_with fail
     clear v03 v04 v0z v10 v11 v12 v13 v14 v1z v30 v31 v32 v33 v34 v3z xn x0 x1 x2 x3 x4
     have v03 : wr.cell? ⟨w.heap.size, 3, none⟩ = some (.slice (some ad3) j.list.length c3) := (H.out.b0).cell 3 rfl
     have v04 : wr.cell? ⟨w.heap.size, 4, none⟩ = some (.slice (some ad4) j.names.length c4) := (H.out.b0).cell 4 rfl
     have v0z := (H.out.b0).frozen
     have v10 : wr.cell? ⟨w.heap.size + 1, 0, none⟩ = some (.int .i64 v.kind) := (H.out.b1).cell 0 rfl
     have v11 : wr.cell? ⟨w.heap.size + 1, 1, none⟩ = some (.int .i64 v.n) := (H.out.b1).cell 1 rfl
     have v12 : wr.cell? ⟨w.heap.size + 1, 2, none⟩ = some (.string v.s) := (H.out.b1).cell 2 rfl
     have v13 : wr.cell? ⟨w.heap.size + 1, 3, none⟩ = some (.slice B3 v.list.length e3) := (H.out.b1).cell 3 rfl
     have v14 : wr.cell? ⟨w.heap.size + 1, 4, none⟩ = some (.slice B4 v.names.length e4) := (H.out.b1).cell 4 rfl
     have v1z := (H.out.b1).frozen
     have v30 : wr.cell? ⟨w.heap.size + 3, 0, none⟩ = some (.int .i64 5) := (H.out.b3).cell 0 rfl
     have v31 : wr.cell? ⟨w.heap.size + 3, 1, none⟩ = some (.int .i64 0) := (H.out.b3).cell 1 rfl
     have v32 : wr.cell? ⟨w.heap.size + 3, 2, none⟩ = some (.string ⟨#[]⟩) := (H.out.b3).cell 2 rfl
     have v33 : wr.cell? ⟨w.heap.size + 3, 3, none⟩ = some (.slice AL LC.length cL) := (H.out.b3).cell 3 rfl
     have v34 : wr.cell? ⟨w.heap.size + 3, 4, none⟩ = some (.slice AN N.length cN) := (H.out.b3).cell 4 rfl
     have v3z := (H.out.b3).frozen
     have xn : wr.cell? (ad4.add k) = some (.string j.names[k]) := cell_below H.out.bl XN.out
     have x0 : wr.cell? (ad3.add (k * 5)) = some (.int .i64 j.list[k].kind) := cell_below H.out.bl XE.out.1
     have x1 : wr.cell? ⟨(ad3.add (k * 5)).block, (ad3.add (k * 5)).off + 1, none⟩ = some (.int .i64 j.list[k].n) := cell_below H.out.bl XE.out.2.1
     have x2 : wr.cell? ⟨(ad3.add (k * 5)).block, (ad3.add (k * 5)).off + 2, none⟩ = some (.string j.list[k].s) := cell_below H.out.bl XE.out.2.2.1
     have x3 : wr.cell? ⟨(ad3.add (k * 5)).block, (ad3.add (k * 5)).off + 3, none⟩ = some (.slice D3 j.list[k].list.length d3) := cell_below H.out.bl XE.out.2.2.2.1
     have x4 : wr.cell? ⟨(ad3.add (k * 5)).block, (ad3.add (k * 5)).off + 4, none⟩ = some (.slice D4 j.list[k].names.length d4) := cell_below H.out.bl XE.out.2.2.2.2
     obtain ⟨rv03, rv04, rv10, rv11, rv12, rv13, rv14⟩ := reg7 v03 v04 v10 v11 v12 v13 v14
     obtain ⟨rv30, rv31, rv32, rv33, rv34, rxn, rx0⟩ := reg7 v30 v31 v32 v33 v34 xn x0
     have rx1 := cell_regrown x1
     have rx2 := cell_regrown x2
     have rx3 := cell_regrown x3
     have rx4 := cell_regrown x4
     refine region_mixT (.p 0 (.q 1 (.p 2 (.q 3 (.p 4 (.q 5 (.q 6 (.b 7 .fin)))))))) [8, 9, 10] (by kernel_rfl) (by kernel_rfl) (fun _ _ _ _ _ h => h) ?_
     refine genT ?_; intro W2 hW
     have hS := Hd.mk (show Below wr.heap.size wr W2 by rw [hW]; exact below_drew (Below.refl _ _)); clear hW
     replace H := Hd.mk (H.out.below hS.out)
     iterate 7 ((first | refine mixT_q rfl ?_ | refine mixT_p rfl ?_); go_big_quiet_want; go_big_quiet_op; go_big_quiet_on; refine wpQuiet_nil ?_)
     refine mixT_b rfl ?_ (by rfl)
     go_wp2_with fail
     refine ⟨cls_below (below_alloc hS.out _), ?_⟩
     refine mixT_fin ?_
     clear hS rv03 rv04 rv10 rv11 rv12 rv13 rv14 rv30 rv31 rv32 rv33 rv34 rxn rx0 rx1 rx2 rx3 rx4
     clear v03 v04 v0z v10 v11 v12 v13 v14 v1z v30 v31 v32 v33 v34 v3z xn x0 x1 x2 x3 x4
     refine tail_b rfl ?_ (by rfl)
     go_wp2_with (at_builtin; refine append_s1 rfl rfl j.names[k] (by omega) rfl _ _ rfl rfl rfl H.out.rN (by have h1_ := hLN.out; have h2_ := hLL.out; skip; omega) (fun v3 w3 hv3 hf3 => ?_); obtain ⟨m0, m1, m2, m3, _, _⟩ := H.out.frN hf3; have H3 := H.out.name hv3 hf3; obtain ⟨N3, hl_⟩ : ∃ z, z = N ++ [j.names[k]] := ⟨_, rfl⟩; rw [← hl_] at H3 hv3; have E3 := Hd.mk hl_; clear hl_; obtain ⟨AA3, cc3, he_, _, _⟩ := R_C hv3; subst he_; have H3 := Hd.mk H3; have g3b0_3 : w3.cell? ⟨w.heap.size, 3, none⟩ = some (.slice (some ad3) j.list.length c3) := (m0).cell 3 rfl; have g3b0_4 : w3.cell? ⟨w.heap.size, 4, none⟩ = some (.slice (some ad4) j.names.length c4) := (m0).cell 4 rfl; have g3b0_z := (m0).frozen; have g3b1_0 : w3.cell? ⟨w.heap.size + 1, 0, none⟩ = some (.int .i64 v.kind) := (m1).cell 0 rfl; have g3b1_1 : w3.cell? ⟨w.heap.size + 1, 1, none⟩ = some (.int .i64 v.n) := (m1).cell 1 rfl; have g3b1_2 : w3.cell? ⟨w.heap.size + 1, 2, none⟩ = some (.string v.s) := (m1).cell 2 rfl; have g3b1_3 : w3.cell? ⟨w.heap.size + 1, 3, none⟩ = some (.slice B3 v.list.length e3) := (m1).cell 3 rfl; have g3b1_4 : w3.cell? ⟨w.heap.size + 1, 4, none⟩ = some (.slice B4 v.names.length e4) := (m1).cell 4 rfl; have g3b1_z := (m1).frozen; have g3b3_0 : w3.cell? ⟨w.heap.size + 3, 0, none⟩ = some (.int .i64 5) := (m3).cell 0 rfl; have g3b3_1 : w3.cell? ⟨w.heap.size + 3, 1, none⟩ = some (.int .i64 0) := (m3).cell 1 rfl; have g3b3_2 : w3.cell? ⟨w.heap.size + 3, 2, none⟩ = some (.string ⟨#[]⟩) := (m3).cell 2 rfl; have g3b3_3 : w3.cell? ⟨w.heap.size + 3, 3, none⟩ = some (.slice AL LC.length cL) := (m3).cell 3 rfl; have g3b3_4 : w3.cell? ⟨w.heap.size + 3, 4, none⟩ = some (.slice AN N.length cN) := (m3).cell 4 rfl; have g3b3_z := (m3).frozen; clear hv3 hf3 m0 m1 m2 m3)
     refine mixQ_n ?_
     refine tail_b rfl ?_ (by rfl)
     go_wp2_with fail
     refine mixQ_n ?_
     refine tail_b rfl ?_ (by rfl)
     go_wp2_with fail
     refine mixQ_n ?_
     refine tail_nil ?_
     clear g3b0_3 g3b0_4 g3b0_z g3b1_0 g3b1_1 g3b1_2 g3b1_3 g3b1_4 g3b1_z g3b3_0 g3b3_1 g3b3_2 g3b3_3 g3b3_4 g3b3_z
     obtain ⟨W4, hW⟩ : ∃ W, W = (w3.setCell ⟨w.heap.size + 3, 4, none⟩ (Value.slice AA3 N3.length cc3)) := ⟨_, rfl⟩
     rw [← hW]
     have H3_ := H3.out
     rw [← hW] at H3_
     replace H3 := Hd.mk H3_; clear H3_ hW
     go_wp2_with fail
     have v03 : W4.cell? ⟨w.heap.size, 3, none⟩ = some (.slice (some ad3) j.list.length c3) := (H3.out.b0).cell 3 rfl
     have v04 : W4.cell? ⟨w.heap.size, 4, none⟩ = some (.slice (some ad4) j.names.length c4) := (H3.out.b0).cell 4 rfl
     have v0z := (H3.out.b0).frozen
     have v10 : W4.cell? ⟨w.heap.size + 1, 0, none⟩ = some (.int .i64 v.kind) := (H3.out.b1).cell 0 rfl
     have v11 : W4.cell? ⟨w.heap.size + 1, 1, none⟩ = some (.int .i64 v.n) := (H3.out.b1).cell 1 rfl
     have v12 : W4.cell? ⟨w.heap.size + 1, 2, none⟩ = some (.string v.s) := (H3.out.b1).cell 2 rfl
     have v13 : W4.cell? ⟨w.heap.size + 1, 3, none⟩ = some (.slice B3 v.list.length e3) := (H3.out.b1).cell 3 rfl
     have v14 : W4.cell? ⟨w.heap.size + 1, 4, none⟩ = some (.slice B4 v.names.length e4) := (H3.out.b1).cell 4 rfl
     have v1z := (H3.out.b1).frozen
     have v30 : W4.cell? ⟨w.heap.size + 3, 0, none⟩ = some (.int .i64 5) := (H3.out.b3).cell 0 rfl
     have v31 : W4.cell? ⟨w.heap.size + 3, 1, none⟩ = some (.int .i64 0) := (H3.out.b3).cell 1 rfl
     have v32 : W4.cell? ⟨w.heap.size + 3, 2, none⟩ = some (.string ⟨#[]⟩) := (H3.out.b3).cell 2 rfl
     have v33 : W4.cell? ⟨w.heap.size + 3, 3, none⟩ = some (.slice AL LC.length cL) := (H3.out.b3).cell 3 rfl
     have v34 : W4.cell? ⟨w.heap.size + 3, 4, none⟩ = some (.slice AA3 N3.length cc3) := (H3.out.b3).cell 4 rfl
     have v3z := (H3.out.b3).frozen
     have xn : W4.cell? (ad4.add k) = some (.string j.names[k]) := cell_below H3.out.bl XN.out
     have x0 : W4.cell? (ad3.add (k * 5)) = some (.int .i64 j.list[k].kind) := cell_below H3.out.bl XE.out.1
     have x1 : W4.cell? ⟨(ad3.add (k * 5)).block, (ad3.add (k * 5)).off + 1, none⟩ = some (.int .i64 j.list[k].n) := cell_below H3.out.bl XE.out.2.1
     have x2 : W4.cell? ⟨(ad3.add (k * 5)).block, (ad3.add (k * 5)).off + 2, none⟩ = some (.string j.list[k].s) := cell_below H3.out.bl XE.out.2.2.1
     have x3 : W4.cell? ⟨(ad3.add (k * 5)).block, (ad3.add (k * 5)).off + 3, none⟩ = some (.slice D3 j.list[k].list.length d3) := cell_below H3.out.bl XE.out.2.2.2.1
     have x4 : W4.cell? ⟨(ad3.add (k * 5)).block, (ad3.add (k * 5)).off + 4, none⟩ = some (.slice D4 j.list[k].names.length d4) := cell_below H3.out.bl XE.out.2.2.2.2
     obtain ⟨rv03, rv04, rv10, rv11, rv12, rv13, rv14⟩ := reg7 v03 v04 v10 v11 v12 v13 v14
     obtain ⟨rv30, rv31, rv32, rv33, rv34, rxn, rx0⟩ := reg7 v30 v31 v32 v33 v34 xn x0
     have rx1 := cell_regrown x1
     have rx2 := cell_regrown x2
     have rx3 := cell_regrown x3
     have rx4 := cell_regrown x4
     refine region_mixT (.p 0 (.q 1 (.p 2 (.q 3 (.p 4 (.q 5 (.q 6 (.b 7 .fin)))))))) [8, 9, 10] (by kernel_rfl) (by kernel_rfl) (fun _ _ _ _ _ h => h) ?_
     refine genT ?_; intro W5 hW
     have hS := Hd.mk (show Below W4.heap.size W4 W5 by rw [hW]; exact below_drew (Below.refl _ _)); clear hW
     replace H3 := Hd.mk (H3.out.below hS.out)
     iterate 7 ((first | refine mixT_q rfl ?_ | refine mixT_p rfl ?_); go_big_quiet_want; go_big_quiet_op; go_big_quiet_on; refine wpQuiet_nil ?_)
     refine mixT_b rfl ?_ (by rfl)
     go_wp2_with fail
     refine ⟨cls_below (below_alloc hS.out _), ?_⟩
     refine mixT_fin ?_
     clear hS rv03 rv04 rv10 rv11 rv12 rv13 rv14 rv30 rv31 rv32 rv33 rv34 rxn rx0 rx1 rx2 rx3 rx4
     clear v03 v04 v0z v10 v11 v12 v13 v14 v1z v30 v31 v32 v33 v34 v3z xn x0 x1 x2 x3 x4
     refine tail_b rfl ?_ (by rfl)
     go_wp2_with (at_builtin; refine append_r1 rfl rfl [Value.int IntKind.i64 j.list[k].kind, .int .i64 j.list[k].n, .string j.list[k].s, .slice D3 j.list[k].list.length d3, .slice D4 j.list[k].names.length d4] ⟨rfl, one5 _ _ _ _ _ _ _ _ _⟩ rfl _ _ rfl rfl rfl H3.out.rL (by have h1_ := hLN.out; have h2_ := hLL.out; have lE3 := congrArg List.length E3.out; rw [List.length_append, List.length_singleton] at lE3; omega) (fun v3 w6 hv3 hf3 => ?_); obtain ⟨m0, m1, m2, m3, _, _⟩ := H3.out.frL hf3; have H6 := H3.out.elem hv3 hf3; obtain ⟨LC6, hl_⟩ : ∃ z, z = LC ++ [[Value.int IntKind.i64 j.list[k].kind, .int .i64 j.list[k].n, .string j.list[k].s, .slice D3 j.list[k].list.length d3, .slice D4 j.list[k].names.length d4]] := ⟨_, rfl⟩; rw [← hl_] at H6 hv3; have E6 := Hd.mk hl_; clear hl_; obtain ⟨AA6, cc6, he_, _, _⟩ := R_C hv3; subst he_; have H6 := Hd.mk H6; have g6b0_3 : w6.cell? ⟨w.heap.size, 3, none⟩ = some (.slice (some ad3) j.list.length c3) := (m0).cell 3 rfl; have g6b0_4 : w6.cell? ⟨w.heap.size, 4, none⟩ = some (.slice (some ad4) j.names.length c4) := (m0).cell 4 rfl; have g6b0_z := (m0).frozen; have g6b1_0 : w6.cell? ⟨w.heap.size + 1, 0, none⟩ = some (.int .i64 v.kind) := (m1).cell 0 rfl; have g6b1_1 : w6.cell? ⟨w.heap.size + 1, 1, none⟩ = some (.int .i64 v.n) := (m1).cell 1 rfl; have g6b1_2 : w6.cell? ⟨w.heap.size + 1, 2, none⟩ = some (.string v.s) := (m1).cell 2 rfl; have g6b1_3 : w6.cell? ⟨w.heap.size + 1, 3, none⟩ = some (.slice B3 v.list.length e3) := (m1).cell 3 rfl; have g6b1_4 : w6.cell? ⟨w.heap.size + 1, 4, none⟩ = some (.slice B4 v.names.length e4) := (m1).cell 4 rfl; have g6b1_z := (m1).frozen; have g6b3_0 : w6.cell? ⟨w.heap.size + 3, 0, none⟩ = some (.int .i64 5) := (m3).cell 0 rfl; have g6b3_1 : w6.cell? ⟨w.heap.size + 3, 1, none⟩ = some (.int .i64 0) := (m3).cell 1 rfl; have g6b3_2 : w6.cell? ⟨w.heap.size + 3, 2, none⟩ = some (.string ⟨#[]⟩) := (m3).cell 2 rfl; have g6b3_3 : w6.cell? ⟨w.heap.size + 3, 3, none⟩ = some (.slice AL LC.length cL) := (m3).cell 3 rfl; have g6b3_4 : w6.cell? ⟨w.heap.size + 3, 4, none⟩ = some (.slice AA3 N3.length cc3) := (m3).cell 4 rfl; have g6b3_z := (m3).frozen; clear hv3 hf3 m0 m1 m2 m3)
     refine mixQ_n ?_
     refine tail_b rfl ?_ (by rfl)
     go_wp2_with fail
     refine mixQ_n ?_
     refine tail_b rfl ?_ (by rfl)
     go_wp2_with fail
     refine mixQ_n ?_
     refine tail_nil ?_
     clear g6b0_3 g6b0_4 g6b0_z g6b1_0 g6b1_1 g6b1_2 g6b1_3 g6b1_4 g6b1_z g6b3_0 g6b3_1 g6b3_2 g6b3_3 g6b3_4 g6b3_z
     obtain ⟨W7, hW⟩ : ∃ W, W = (w6.setCell ⟨w.heap.size + 3, 3, none⟩ (Value.slice AA6 LC6.length cc6)) := ⟨_, rfl⟩
     rw [← hW]
     have H6_ := H6.out
     rw [← hW] at H6_
     replace H6 := Hd.mk H6_; clear H6_ hW
     go_wp2_with fail
     go_roundw
     case rel => exact ⟨k + 1, true, _, _, _, _, _, _, _, by omega, rfl, by go_num, ⟨by rw [HPS2.out]; rw [E3.out]⟩, ⟨by rw [E6.out, HLC.out]; simp [HCK.out, HCn.out]⟩, H6⟩
     case measure => simp [intOf]; omega
    ·have HPS2 := Hd.mk (show putS j.names s n (k + 1) = (true, N, src) by
      show putOn s (j.names.getD k ⟨#[]⟩) k (putIn s n (j.names.getD k ⟨#[]⟩) (putS j.names s n k)) = _
      rw [HPS.out, HGD.out]; simp [putIn, putOn, hb])
     have v03 : wr.cell? ⟨w.heap.size, 3, none⟩ = some (.slice (some ad3) j.list.length c3) := (H.out.b0).cell 3 rfl
     have v04 : wr.cell? ⟨w.heap.size, 4, none⟩ = some (.slice (some ad4) j.names.length c4) := (H.out.b0).cell 4 rfl
     have v0z := (H.out.b0).frozen
     have v10 : wr.cell? ⟨w.heap.size + 1, 0, none⟩ = some (.int .i64 v.kind) := (H.out.b1).cell 0 rfl
     have v11 : wr.cell? ⟨w.heap.size + 1, 1, none⟩ = some (.int .i64 v.n) := (H.out.b1).cell 1 rfl
     have v12 : wr.cell? ⟨w.heap.size + 1, 2, none⟩ = some (.string v.s) := (H.out.b1).cell 2 rfl
     have v13 : wr.cell? ⟨w.heap.size + 1, 3, none⟩ = some (.slice B3 v.list.length e3) := (H.out.b1).cell 3 rfl
     have v14 : wr.cell? ⟨w.heap.size + 1, 4, none⟩ = some (.slice B4 v.names.length e4) := (H.out.b1).cell 4 rfl
     have v1z := (H.out.b1).frozen
     have v30 : wr.cell? ⟨w.heap.size + 3, 0, none⟩ = some (.int .i64 5) := (H.out.b3).cell 0 rfl
     have v31 : wr.cell? ⟨w.heap.size + 3, 1, none⟩ = some (.int .i64 0) := (H.out.b3).cell 1 rfl
     have v32 : wr.cell? ⟨w.heap.size + 3, 2, none⟩ = some (.string ⟨#[]⟩) := (H.out.b3).cell 2 rfl
     have v33 : wr.cell? ⟨w.heap.size + 3, 3, none⟩ = some (.slice AL LC.length cL) := (H.out.b3).cell 3 rfl
     have v34 : wr.cell? ⟨w.heap.size + 3, 4, none⟩ = some (.slice AN N.length cN) := (H.out.b3).cell 4 rfl
     have v3z := (H.out.b3).frozen
     have xn : wr.cell? (ad4.add k) = some (.string j.names[k]) := cell_below H.out.bl XN.out
     have x0 : wr.cell? (ad3.add (k * 5)) = some (.int .i64 j.list[k].kind) := cell_below H.out.bl XE.out.1
     have x1 : wr.cell? ⟨(ad3.add (k * 5)).block, (ad3.add (k * 5)).off + 1, none⟩ = some (.int .i64 j.list[k].n) := cell_below H.out.bl XE.out.2.1
     have x2 : wr.cell? ⟨(ad3.add (k * 5)).block, (ad3.add (k * 5)).off + 2, none⟩ = some (.string j.list[k].s) := cell_below H.out.bl XE.out.2.2.1
     have x3 : wr.cell? ⟨(ad3.add (k * 5)).block, (ad3.add (k * 5)).off + 3, none⟩ = some (.slice D3 j.list[k].list.length d3) := cell_below H.out.bl XE.out.2.2.2.1
     have x4 : wr.cell? ⟨(ad3.add (k * 5)).block, (ad3.add (k * 5)).off + 4, none⟩ = some (.slice D4 j.list[k].names.length d4) := cell_below H.out.bl XE.out.2.2.2.2
     go_wp2_with fail
     clear v03 v04 v0z v10 v11 v12 v13 v14 v1z v30 v31 v32 v33 v34 v3z xn x0 x1 x2 x3 x4
     go_roundw
     case rel => exact ⟨k + 1, true, _, _, _, _, _, _, _, by omega, rfl, by go_num, ⟨by rw [HPS2.out]⟩, ⟨by exact HLC.out⟩, H⟩
     case measure => simp [intOf]; omega
  ·obtain rfl : k = j.names.length := by omega
   cases pt
   ·have HPE := Hd.mk (show putE j.names s n = (N ++ [s], src ++ [n]) by unfold putE; simp only [HPS.out]; simp)
    have UA := trivial; have UB := trivial
    have v03 : wr.cell? ⟨w.heap.size, 3, none⟩ = some (.slice A3 j.list.length c3) := (H.out.b0).cell 3 rfl
    have v04 : wr.cell? ⟨w.heap.size, 4, none⟩ = some (.slice A4 j.names.length c4) := (H.out.b0).cell 4 rfl
    have v0z := (H.out.b0).frozen
    have v10 : wr.cell? ⟨w.heap.size + 1, 0, none⟩ = some (.int .i64 v.kind) := (H.out.b1).cell 0 rfl
    have v11 : wr.cell? ⟨w.heap.size + 1, 1, none⟩ = some (.int .i64 v.n) := (H.out.b1).cell 1 rfl
    have v12 : wr.cell? ⟨w.heap.size + 1, 2, none⟩ = some (.string v.s) := (H.out.b1).cell 2 rfl
    have v13 : wr.cell? ⟨w.heap.size + 1, 3, none⟩ = some (.slice B3 v.list.length e3) := (H.out.b1).cell 3 rfl
    have v14 : wr.cell? ⟨w.heap.size + 1, 4, none⟩ = some (.slice B4 v.names.length e4) := (H.out.b1).cell 4 rfl
    have v1z := (H.out.b1).frozen
    have v30 : wr.cell? ⟨w.heap.size + 3, 0, none⟩ = some (.int .i64 5) := (H.out.b3).cell 0 rfl
    have v31 : wr.cell? ⟨w.heap.size + 3, 1, none⟩ = some (.int .i64 0) := (H.out.b3).cell 1 rfl
    have v32 : wr.cell? ⟨w.heap.size + 3, 2, none⟩ = some (.string ⟨#[]⟩) := (H.out.b3).cell 2 rfl
    have v33 : wr.cell? ⟨w.heap.size + 3, 3, none⟩ = some (.slice AL LC.length cL) := (H.out.b3).cell 3 rfl
    have v34 : wr.cell? ⟨w.heap.size + 3, 4, none⟩ = some (.slice AN N.length cN) := (H.out.b3).cell 4 rfl
    have v3z := (H.out.b3).frozen
    have v20 : wr.cell? ⟨w.heap.size + 2, 0, none⟩ = some (.int .i64 0) := (H.out.b2).cell 0 rfl
    have v21 : wr.cell? ⟨w.heap.size + 2, 1, none⟩ = some (.int .i64 0) := (H.out.b2).cell 1 rfl
    have v22 : wr.cell? ⟨w.heap.size + 2, 2, none⟩ = some (.string ⟨#[]⟩) := (H.out.b2).cell 2 rfl
    have v23 : wr.cell? ⟨w.heap.size + 2, 3, none⟩ = some (.slice none 0 0) := (H.out.b2).cell 3 rfl
    have v24 : wr.cell? ⟨w.heap.size + 2, 4, none⟩ = some (.slice none 0 0) := (H.out.b2).cell 4 rfl
    have v2z := (H.out.b2).frozen
    go_wp2_with (first | (clear UA; at_builtin; refine append_s1 rfl rfl s (by omega) rfl _ _ rfl rfl rfl H.out.rN (by have h1_ := hLN.out; have h2_ := hLL.out; skip; omega) (fun v3 w2 hv3 hf3 => ?_); obtain ⟨m0, m1, m2, m3, _, _⟩ := H.out.frN hf3; have H2 := H.out.name hv3 hf3; obtain ⟨N2, hl_⟩ : ∃ z, z = N ++ [s] := ⟨_, rfl⟩; rw [← hl_] at H2 hv3; have E2 := Hd.mk hl_; clear hl_; obtain ⟨AA2, cc2, he_, _, _⟩ := R_C hv3; subst he_; have H2 := Hd.mk H2; have g2b0_3 : w2.cell? ⟨w.heap.size, 3, none⟩ = some (.slice A3 j.list.length c3) := (m0).cell 3 rfl; have g2b0_4 : w2.cell? ⟨w.heap.size, 4, none⟩ = some (.slice A4 j.names.length c4) := (m0).cell 4 rfl; have g2b0_z := (m0).frozen; have g2b1_0 : w2.cell? ⟨w.heap.size + 1, 0, none⟩ = some (.int .i64 v.kind) := (m1).cell 0 rfl; have g2b1_1 : w2.cell? ⟨w.heap.size + 1, 1, none⟩ = some (.int .i64 v.n) := (m1).cell 1 rfl; have g2b1_2 : w2.cell? ⟨w.heap.size + 1, 2, none⟩ = some (.string v.s) := (m1).cell 2 rfl; have g2b1_3 : w2.cell? ⟨w.heap.size + 1, 3, none⟩ = some (.slice B3 v.list.length e3) := (m1).cell 3 rfl; have g2b1_4 : w2.cell? ⟨w.heap.size + 1, 4, none⟩ = some (.slice B4 v.names.length e4) := (m1).cell 4 rfl; have g2b1_z := (m1).frozen; have g2b3_0 : w2.cell? ⟨w.heap.size + 3, 0, none⟩ = some (.int .i64 5) := (m3).cell 0 rfl; have g2b3_1 : w2.cell? ⟨w.heap.size + 3, 1, none⟩ = some (.int .i64 0) := (m3).cell 1 rfl; have g2b3_2 : w2.cell? ⟨w.heap.size + 3, 2, none⟩ = some (.string ⟨#[]⟩) := (m3).cell 2 rfl; have g2b3_3 : w2.cell? ⟨w.heap.size + 3, 3, none⟩ = some (.slice AL LC.length cL) := (m3).cell 3 rfl; have g2b3_4 : w2.cell? ⟨w.heap.size + 3, 4, none⟩ = some (.slice AN N.length cN) := (m3).cell 4 rfl; have g2b3_z := (m3).frozen; have g2b2_0 : w2.cell? ⟨w.heap.size + 2, 0, none⟩ = some (.int .i64 0) := (m2).cell 0 rfl; have g2b2_1 : w2.cell? ⟨w.heap.size + 2, 1, none⟩ = some (.int .i64 0) := (m2).cell 1 rfl; have g2b2_2 : w2.cell? ⟨w.heap.size + 2, 2, none⟩ = some (.string ⟨#[]⟩) := (m2).cell 2 rfl; have g2b2_3 : w2.cell? ⟨w.heap.size + 2, 3, none⟩ = some (.slice none 0 0) := (m2).cell 3 rfl; have g2b2_4 : w2.cell? ⟨w.heap.size + 2, 4, none⟩ = some (.slice none 0 0) := (m2).cell 4 rfl; have g2b2_z := (m2).frozen; clear hv3 hf3 m0 m1 m2 m3) | (clear UB; at_builtin; refine append_r1 rfl (by simp) [Value.int IntKind.i64 v.kind, .int .i64 v.n, .string v.s, .slice B3 v.list.length e3, .slice B4 v.names.length e4] ⟨rfl, one5 _ _ _ _ _ _ _ _ _⟩ rfl _ _ rfl rfl rfl H2.out.rL (by have h1_ := hLN.out; have h2_ := hLL.out; have lE2 := congrArg List.length E2.out; rw [List.length_append, List.length_singleton] at lE2; omega) (fun v3 w3 hv3 hf3 => ?_); obtain ⟨m0, m1, m2, m3, _, _⟩ := H2.out.frL hf3; have H3 := H2.out.elem hv3 hf3; obtain ⟨LC3, hl_⟩ : ∃ z, z = LC ++ [[Value.int IntKind.i64 v.kind, .int .i64 v.n, .string v.s, .slice B3 v.list.length e3, .slice B4 v.names.length e4]] := ⟨_, rfl⟩; rw [← hl_] at H3 hv3; have E3 := Hd.mk hl_; clear hl_; obtain ⟨AA3, cc3, he_, _, _⟩ := R_C hv3; subst he_; have H3 := Hd.mk H3; have g3b0_3 : w3.cell? ⟨w.heap.size, 3, none⟩ = some (.slice A3 j.list.length c3) := (m0).cell 3 rfl; have g3b0_4 : w3.cell? ⟨w.heap.size, 4, none⟩ = some (.slice A4 j.names.length c4) := (m0).cell 4 rfl; have g3b0_z := (m0).frozen; have g3b1_0 : w3.cell? ⟨w.heap.size + 1, 0, none⟩ = some (.int .i64 v.kind) := (m1).cell 0 rfl; have g3b1_1 : w3.cell? ⟨w.heap.size + 1, 1, none⟩ = some (.int .i64 v.n) := (m1).cell 1 rfl; have g3b1_2 : w3.cell? ⟨w.heap.size + 1, 2, none⟩ = some (.string v.s) := (m1).cell 2 rfl; have g3b1_3 : w3.cell? ⟨w.heap.size + 1, 3, none⟩ = some (.slice B3 v.list.length e3) := (m1).cell 3 rfl; have g3b1_4 : w3.cell? ⟨w.heap.size + 1, 4, none⟩ = some (.slice B4 v.names.length e4) := (m1).cell 4 rfl; have g3b1_z := (m1).frozen; have g3b3_0 : w3.cell? ⟨w.heap.size + 3, 0, none⟩ = some (.int .i64 5) := (m3).cell 0 rfl; have g3b3_1 : w3.cell? ⟨w.heap.size + 3, 1, none⟩ = some (.int .i64 0) := (m3).cell 1 rfl; have g3b3_2 : w3.cell? ⟨w.heap.size + 3, 2, none⟩ = some (.string ⟨#[]⟩) := (m3).cell 2 rfl; have g3b3_3 : w3.cell? ⟨w.heap.size + 3, 3, none⟩ = some (.slice AL LC.length cL) := (m3).cell 3 rfl; have g3b3_4 : w3.cell? ⟨w.heap.size + 3, 4, none⟩ = some (.slice AA2 N2.length cc2) := (m3).cell 4 rfl; have g3b3_z := (m3).frozen; have g3b2_0 : w3.cell? ⟨w.heap.size + 2, 0, none⟩ = some (.int .i64 0) := (m2).cell 0 rfl; have g3b2_1 : w3.cell? ⟨w.heap.size + 2, 1, none⟩ = some (.int .i64 0) := (m2).cell 1 rfl; have g3b2_2 : w3.cell? ⟨w.heap.size + 2, 2, none⟩ = some (.string ⟨#[]⟩) := (m2).cell 2 rfl; have g3b2_3 : w3.cell? ⟨w.heap.size + 2, 3, none⟩ = some (.slice none 0 0) := (m2).cell 3 rfl; have g3b2_4 : w3.cell? ⟨w.heap.size + 2, 4, none⟩ = some (.slice none 0 0) := (m2).cell 4 rfl; have g3b2_z := (m2).frozen; clear hv3 hf3 m0 m1 m2 m3))
    refine bodyPost_retW (v := .agg #[.int .i64 5, .int .i64 0, .string ⟨#[]⟩, .slice AA3 LC3.length cc3, .slice AA2 N2.length cc2]) (by simp [results, Tryz.results70, go_sem, v03, v04, v0z, v10, v11, v12, v13, v14, v1z, v30, v31, v32, v33, v34, v3z, v20, v21, v22, v23, v24, v2z, g2b0_3, g2b0_4, g2b0_z, g2b1_0, g2b1_1, g2b1_2, g2b1_3, g2b1_4, g2b1_z, g2b3_0, g2b3_1, g2b3_2, g2b3_3, g2b3_4, g2b3_z, g2b2_0, g2b2_1, g2b2_2, g2b2_3, g2b2_4, g2b2_z, g3b0_3, g3b0_4, g3b0_z, g3b1_0, g3b1_1, g3b1_2, g3b1_3, g3b1_4, g3b1_z, g3b3_0, g3b3_1, g3b3_2, g3b3_3, g3b3_4, g3b3_z, g3b2_0, g3b2_1, g3b2_2, g3b2_3, g3b2_4, g3b2_z]) rfl ?_
    intro W hW
    clear v03 v04 v0z v10 v11 v12 v13 v14 v1z v30 v31 v32 v33 v34 v3z v20 v21 v22 v23 v24 v2z g2b0_3 g2b0_4 g2b0_z g2b1_0 g2b1_1 g2b1_2 g2b1_3 g2b1_4 g2b1_z g2b3_0 g2b3_1 g2b3_2 g2b3_3 g2b3_4 g2b3_z g2b2_0 g2b2_1 g2b2_2 g2b2_3 g2b2_4 g2b2_z g3b0_3 g3b0_4 g3b0_z g3b1_0 g3b1_1 g3b1_2 g3b1_3 g3b1_4 g3b1_z g3b3_0 g3b3_1 g3b3_2 g3b3_3 g3b3_4 g3b3_z g3b2_0 g3b2_1 g3b2_2 g3b2_3 g3b2_4 g3b2_z
    have hF : Fr (w3.setCell ⟨w.heap.size + 3, 3, none⟩ (Value.slice AA3 LC3.length cc3)) W (fun k => k = w.heap.size + 2) := by rw [hW]; (iterate 5 (with_reducible refine Fr.setCell ?_ _ (fun _ => by simp) _)); exact Fr.refl _ _
    have hD := put_done (m := m) (v := v) (s := s) (src := src ++ [n]) (C := C') H3.out (by rw [E3.out, HLC.out]; simp [HCn.out]) (by rw [← Hn.out]; rw [E2.out]; exact HPE.out) HLEN.out HTS.out hF
    exact ⟨_, rfl, hD.1, hD.2⟩
   ·have HPE := Hd.mk (show putE j.names s n = (N, src) by unfold putE; simp only [HPS.out]; simp)
    have v03 : wr.cell? ⟨w.heap.size, 3, none⟩ = some (.slice A3 j.list.length c3) := (H.out.b0).cell 3 rfl
    have v04 : wr.cell? ⟨w.heap.size, 4, none⟩ = some (.slice A4 j.names.length c4) := (H.out.b0).cell 4 rfl
    have v0z := (H.out.b0).frozen
    have v10 : wr.cell? ⟨w.heap.size + 1, 0, none⟩ = some (.int .i64 v.kind) := (H.out.b1).cell 0 rfl
    have v11 : wr.cell? ⟨w.heap.size + 1, 1, none⟩ = some (.int .i64 v.n) := (H.out.b1).cell 1 rfl
    have v12 : wr.cell? ⟨w.heap.size + 1, 2, none⟩ = some (.string v.s) := (H.out.b1).cell 2 rfl
    have v13 : wr.cell? ⟨w.heap.size + 1, 3, none⟩ = some (.slice B3 v.list.length e3) := (H.out.b1).cell 3 rfl
    have v14 : wr.cell? ⟨w.heap.size + 1, 4, none⟩ = some (.slice B4 v.names.length e4) := (H.out.b1).cell 4 rfl
    have v1z := (H.out.b1).frozen
    have v30 : wr.cell? ⟨w.heap.size + 3, 0, none⟩ = some (.int .i64 5) := (H.out.b3).cell 0 rfl
    have v31 : wr.cell? ⟨w.heap.size + 3, 1, none⟩ = some (.int .i64 0) := (H.out.b3).cell 1 rfl
    have v32 : wr.cell? ⟨w.heap.size + 3, 2, none⟩ = some (.string ⟨#[]⟩) := (H.out.b3).cell 2 rfl
    have v33 : wr.cell? ⟨w.heap.size + 3, 3, none⟩ = some (.slice AL LC.length cL) := (H.out.b3).cell 3 rfl
    have v34 : wr.cell? ⟨w.heap.size + 3, 4, none⟩ = some (.slice AN N.length cN) := (H.out.b3).cell 4 rfl
    have v3z := (H.out.b3).frozen
    have v20 : wr.cell? ⟨w.heap.size + 2, 0, none⟩ = some (.int .i64 0) := (H.out.b2).cell 0 rfl
    have v21 : wr.cell? ⟨w.heap.size + 2, 1, none⟩ = some (.int .i64 0) := (H.out.b2).cell 1 rfl
    have v22 : wr.cell? ⟨w.heap.size + 2, 2, none⟩ = some (.string ⟨#[]⟩) := (H.out.b2).cell 2 rfl
    have v23 : wr.cell? ⟨w.heap.size + 2, 3, none⟩ = some (.slice none 0 0) := (H.out.b2).cell 3 rfl
    have v24 : wr.cell? ⟨w.heap.size + 2, 4, none⟩ = some (.slice none 0 0) := (H.out.b2).cell 4 rfl
    have v2z := (H.out.b2).frozen
    go_wp2_with fail
    refine bodyPost_retW (v := .agg #[.int .i64 5, .int .i64 0, .string ⟨#[]⟩, .slice AL LC.length cL, .slice AN N.length cN]) (by simp [results, Tryz.results70, go_sem, v03, v04, v0z, v10, v11, v12, v13, v14, v1z, v30, v31, v32, v33, v34, v3z, v20, v21, v22, v23, v24, v2z]) rfl ?_
    intro W hW
    clear v03 v04 v0z v10 v11 v12 v13 v14 v1z v30 v31 v32 v33 v34 v3z v20 v21 v22 v23 v24 v2z
    have hF : Fr wr W (fun k => k = w.heap.size + 2) := by rw [hW]; (iterate 5 (with_reducible refine Fr.setCell ?_ _ (fun _ => by simp) _)); exact Fr.refl _ _
    have hD := put_done (m := m) (v := v) (s := s) (src := src) (C := C') H.out (by exact HLC.out) (by rw [← Hn.out]; exact HPE.out) HLEN.out HTS.out hF
    exact ⟨_, rfl, hD.1, hD.2⟩
theorem R_elem5 {m : Nat} {w : World} {S : Nat → Prop} {g c q : Nat} {l : List J} (hR : (tJ (m + 1)).R 32 w S (.slice (some ⟨g, 0, none⟩) l.length c) l) (hq : q < l.length) :
  ∃ (Si : Nat → Prop) (A B : Option Addr) (a b : Nat), (tJ (m + 1)).H 32 w S (.slice (some ⟨g, 0, none⟩) l.length c) l q Si [.int .i64 l[q].kind, .int .i64 l[q].n, .string l[q].s, .slice A l[q].list.length a, .slice B l[q].names.length b] ∧
   (tJ (m + 1)).O w Si l[q] [.int .i64 l[q].kind, .int .i64 l[q].n, .string l[q].s, .slice A l[q].list.length a, .slice B l[q].names.length b] ∧ S g ∧ g < w.heap.size ∧
   (w.cell? ⟨g, q * 5, none⟩ = some (.int .i64 l[q].kind) ∧ w.cell? ⟨g, q * 5 + 1, none⟩ = some (.int .i64 l[q].n) ∧ w.cell? ⟨g, q * 5 + 2, none⟩ = some (.string l[q].s) ∧ w.cell? ⟨g, q * 5 + 3, none⟩ = some (.slice A l[q].list.length a) ∧ w.cell? ⟨g, q * 5 + 4, none⟩ = some (.slice B l[q].names.length b)) ∧
   (∀ j, w.frozen? ⟨g, j, none⟩ = false) ∧ l.length ≤ c ∧ c ≤ 9223372036854775807 := by
 obtain ⟨Si, cs, hH, hO⟩ := R_H hR (List.getElem?_eq_getElem hq)
 obtain ⟨v3, v4, _, _, rfl, _, h3, h4, _⟩ := tJ_O.1 hO
 obtain ⟨A, a, rfl, _, _⟩ := R_C h3
 obtain ⟨B, b, rfl, _, _⟩ := R_C h4
 obtain ⟨g2, cap, hv, hl, hc, hS, hg, _, hcell, hfz⟩ := H_cells hH (show 0 < 5 by decide)
 injection hv with e1 _ e3
 injection e1 with e1
 injection e1 with e1 _ _
 subst e1; subst e3
 exact ⟨Si, A, B, a, b, hH, hO, hS, hg, ⟨hcell 0 _ rfl, hcell 1 _ rfl, hcell 2 _ rfl, hcell 3 _ rfl, hcell 4 _ rfl⟩, hfz, hl, hc⟩
theorem one_cell {u : Value} (h : u.oneCell' = true) : u.cells = #[u] := by
 cases u <;> first | rfl | (exact absurd h (by simp [Value.oneCell']))
theorem H_set5 {m : Nat} {w : World} {S S' Si T : Nat → Prop} {g c q : Nat} {l : List J} {cs : List Value} {z : J} {d0 d1 d2 d3 d4 : Value} (hH : (tJ (m + 1)).H 32 w S (.slice (some ⟨g, 0, none⟩) l.length c) l q Si cs) (hcs : cs.length = 5)
  (hO : (tJ (m + 1)).O w T z [d0, d1, d2, d3, d4]) (hTg : ¬ T g) (hT : ∀ k, T k → Si k ∨ ¬ S k) (hS : ∀ k, S k → S' k) (hT' : ∀ k, T k → S' k) :
  (tJ (m + 1)).R 32 (((((w.setCell ⟨g, q * 5, none⟩ d0).setCell ⟨g, q * 5 + 1, none⟩ d1).setCell ⟨g, q * 5 + 2, none⟩ d2).setCell ⟨g, q * 5 + 3, none⟩ d3).setCell ⟨g, q * 5 + 4, none⟩ d4) S' (.slice (some ⟨g, 0, none⟩) l.length c) (l.set q z) := by
 have h1 := Ty.K_one _ (Ty.O_K _ hO)
 have k0 := one_cell (h1 d0 (by simp)); have k1 := one_cell (h1 d1 (by simp)); have k2 := one_cell (h1 d2 (by simp)); have k3 := one_cell (h1 d3 (by simp)); have k4 := one_cell (h1 d4 (by simp))
 have e := H_store (H_store (H_store (H_store (H_store hH 0 (show 0 < 5 by decide) d0 k0) 1 (show 1 < 5 by decide) d1 k1) 2 (show 2 < 5 by decide) d2 k2) 3 (show 3 < 5 by decide) d3 k3) 4 (show 4 < 5 by decide) d4 k4
 have hc : ((((cs.set 0 d0).set 1 d1).set 2 d2).set 3 d3).set 4 d4 = [d0, d1, d2, d3, d4] := by
  match cs, hcs with
  | [a, b, c, d, e], _ => rfl
 rw [hc] at e
 refine H_back (x' := z) (T := T) e ?_ hT hS hT'
 exact Ty.O_setCell (Ty.O_setCell (Ty.O_setCell (Ty.O_setCell (Ty.O_setCell hO hTg _) hTg _) hTg _) hTg _) hTg _
theorem Fr.set5 (w : World) (g a0 a1 a2 a3 a4 : Nat) (d0 d1 d2 d3 d4 : Value) : Fr w (((((w.setCell ⟨g, a0, none⟩ d0).setCell ⟨g, a1, none⟩ d1).setCell ⟨g, a2, none⟩ d2).setCell ⟨g, a3, none⟩ d3).setCell ⟨g, a4, none⟩ d4) (fun k => k = g) :=
 (((((Fr.refl w (fun k => k = g)).setCell _ (fun _ => rfl) d0).setCell _ (fun _ => rfl) d1).setCell _ (fun _ => rfl) d2).setCell _ (fun _ => rfl) d3).setCell _ (fun _ => rfl) d4
def PatPost (m : Nat) (w : World) (S : Nat → Prop) (r : Option J) (e : Ending) (w' : World) : Prop :=
 (∃ z cs', r = some z ∧ e = .returned (.tuple #[.agg cs'.toArray, .bool true]) ∧ (tJ m).O w' (fun k => w.heap.size ≤ k ∨ S k) z cs' ∧ Fr w w' S) ∨
 (∃ (a b : Int) (s : ByteArray) (A B : Option Addr) (n c n2 d : Nat), r = none ∧ e = .returned (.tuple #[.agg #[.int .i64 a, .int .i64 b, .string s, .slice A n c, .slice B n2 d], .bool false]) ∧ Fr w w' S)
theorem pat_some {m : Nat} {w w' : World} {S : Nat → Prop} {r : Option J} {e : Ending} {z : J} {cs : List Value} (h1 : r = some z) (h2 : e = .returned (.tuple #[.agg cs.toArray, .bool true])) (h3 : (tJ m).O w' (fun k => w.heap.size ≤ k ∨ S k) z cs) (h4 : Fr w w' S) : PatPost m w S r e w' := .inl ⟨z, cs, h1, h2, h3, h4⟩
theorem pat_none {m : Nat} {w w' : World} {S : Nat → Prop} {r : Option J} {e : Ending} {a b : Int} {s : ByteArray} {A B : Option Addr} {n c n2 d : Nat} (h1 : r = none) (h2 : e = .returned (.tuple #[.agg #[.int .i64 a, .int .i64 b, .string s, .slice A n c, .slice B n2 d], .bool false])) (h4 : Fr w w' S) : PatPost m w S r e w' := .inr ⟨a, b, s, A, B, n, c, n2, d, h1, h2, h4⟩
def rowDrop (l : List Row) (n : Int) : List Row := l.eraseIdx (l.findIdx (fun r => r.id == n))
theorem erase_step {α : Type} (l : List α) (k i : Nat) (hi : i < l.length) : (l.take (i + 1)).eraseIdx k = if i = k then (l.take i).eraseIdx k else (l.take i).eraseIdx k ++ [l[i]] := by
 have hl : (l.take i).length = i := by simp; omega
 rw [List.take_succ_eq_append_getElem hi]
 rcases Nat.lt_trichotomy k i with h | h | h
 ·rw [if_neg (by omega), List.eraseIdx_append_of_lt_length (by omega)]
 ·subst h
  rw [if_pos rfl, List.eraseIdx_append_of_length_le (by omega), hl, Nat.sub_self, List.eraseIdx_of_length_le (l := l.take k) (by omega)]
  simp
 ·rw [if_neg (by omega), List.eraseIdx_append_of_length_le (by omega), hl, List.eraseIdx_of_length_le (l := [l[i]]) (by simp; omega), List.eraseIdx_of_length_le (l := l.take i) (by omega)]
theorem idxF_ne {α : Type} (p : α → Bool) (l : List α) (i : Nat) (hi : i < l.length) : ((i : Int) != idxF p l) = !decide (i = l.findIdx p) := by
 unfold idxF
 by_cases h : i = l.findIdx p
 ·rw [if_pos (by omega), ← h]; simp
 ·have e : decide (i = l.findIdx p) = false := by simp [h]
  rw [e]
  split
  ·simp; omega
  ·simp
theorem bulkL_erase {α : Type} (b : α → Nat) (l : List α) (k : Nat) : bulkL b (l.eraseIdx k) ≤ bulkL b l := by
 rw [List.eraseIdx_eq_take_drop_succ, bulkL_append]
 have h1 := bulkL_append b (l.take (k + 1)) (l.drop (k + 1))
 rw [List.take_append_drop] at h1
 rcases Nat.lt_or_ge k l.length with h | h
 ·rw [bulkL_take b l k h] at h1; omega
 ·rw [List.take_of_length_le (Nat.le_succ_of_le h)] at h1
  rw [List.take_of_length_le h]; omega
theorem bulk_rowDrop (l : List Row) (n : Int) : bulkRowS (rowDrop l n) ≤ bulkRowS l := by
 have h1 := bulkL_erase bulkRow l (l.findIdx (fun r => r.id == n))
 have h2 := List.length_eraseIdx_le l (l.findIdx (fun r => r.id == n))
 unfold rowDrop bulkRowS
 omega
theorem idxF_cases {α : Type} (p : α → Bool) (l : List α) : (idxF p l = -1 ∧ l.findIdx p = l.length) ∨ (idxF p l = (l.findIdx p : Int) ∧ l.findIdx p < l.length) := by
 unfold idxF
 by_cases h : l.findIdx p < l.length
 ·exact .inr ⟨if_pos h, h⟩
 ·have := List.findIdx_le_length (xs := l) (p := p)
  exact .inl ⟨if_neg h, by omega⟩
theorem over_get {α : Type} (l : List α) (o : Nat) (vs : List α) (h : o + vs.length ≤ l.length) (k : Nat) : (over l o vs)[k]? = if o ≤ k ∧ k < o + vs.length then vs[k - o]? else l[k]? := by
 unfold over
 have h1 : (l.take o).length = o := by simp; omega
 rcases Nat.lt_or_ge k o with hk | hk
 ·rw [if_neg (by omega), List.append_assoc, List.getElem?_append_left (by omega), List.getElem?_take, if_pos hk]
 ·rw [List.append_assoc, List.getElem?_append_right (by omega), h1]
  rcases Nat.lt_or_ge k (o + vs.length) with hk2 | hk2
  ·rw [if_pos ⟨hk, hk2⟩, List.getElem?_append_left (by omega)]
  ·rw [if_neg (by omega), List.getElem?_append_right (by omega), List.getElem?_drop]
   congr 1
   omega
theorem cut_eq {α : Type} (l m : List α) (a b n : Nat) (h : ∀ k, k < n → l[a + k]? = m[b + k]?) : (l.drop a).take n = (m.drop b).take n := by
 apply List.ext_getElem?
 intro k
 rw [List.getElem?_take, List.getElem?_take]
 split
 ·rw [List.getElem?_drop, List.getElem?_drop]
  exact h k (by assumption)
 ·rfl
theorem block_cell {w : World} {g : Nat} {cur : Array Value} {e : TypeId} {fr : Nat × Nat} (h : w.heap[g]? = some (.cells cur e fr)) (j : Nat) : w.cell? ⟨g, j, none⟩ = cur[j]? := by
 unfold World.cell?
 rw [show w.heap[(⟨g, j, none⟩ : Addr).block]? = some (.cells cur e fr) from h]
 simp
theorem block_frozen {w : World} {g : Nat} {cur : Array Value} {e : TypeId} (h : w.heap[g]? = some (.cells cur e (0, 0))) (j : Nat) : w.frozen? ⟨g, j, none⟩ = false := by
 simp [World.frozen?, h]
theorem parts_one {α : Type} {d : Ty α} {w : World} {cur : Array Value} {T : Nat → Nat → Prop} {xs : List α} (hO : ∀ i x, xs[i]? = some x → d.O w (T i) x ((cur.toList.drop (i * d.sz)).take d.sz)) {k : Nat} (hk : k < xs.length * d.sz) {u : Value} (hu : cur.toList[k]? = some u) : u.oneCell' = true := by
 have hsz : 0 < d.sz := by
  rcases Nat.eq_zero_or_pos d.sz with h | h
  ·rw [h] at hk; omega
  ·exact h
 have hi : k / d.sz < xs.length := Nat.div_lt_of_lt_mul (by rw [Nat.mul_comm]; exact hk)
 have h1 := hO (k / d.sz) xs[k / d.sz] (by simp [hi])
 refine d.K_one (d.O_K h1) u ?_
 rw [List.mem_iff_getElem?]
 refine ⟨k % d.sz, ?_⟩
 rw [List.getElem?_take, if_pos (Nat.mod_lt _ hsz), List.getElem?_drop, Nat.mul_comm, Nat.div_add_mod]
 exact hu
theorem zero1 (a b : Value) : (Builtin.zeroCells #[a, b] 1).toList = [a, b] := by
 simp [Builtin.zeroCells, show Array.range 2 = #[0, 1] from rfl]
end Go.Proofs.YtegcecnjmimbiaaGreatDoor.X
namespace Go.Proofs.YtegcecnjmimbiaaGreatDoor.X
open Go.RowKit Go.Sort Go.Lib
set_option linter.unusedVariables false
set_option linter.unusedSimpArgs false
open Ty
theorem step_copy_runJ {P : Program} {ops : Array Oper} {o : Oper} {a : Act} {w : World} {K : Act → World → Prop} {Q : Exit → Act → World → Prop} {E : Prop}
  (hg : o.guard = none) (d x : Operand) (dT sT : TypeId) (hop : o.op = Op.call { callee := Callee.builtin Builtin.copy, args := #[d, x], argTypes := #[dT, sT] })
  (v u : Value) (hd : a.eval d = v) (hx : a.eval x = u) {v' : Value} {w' : World} (hr : (Builtin.copy_ #[dT, sT] o.type #[v, u]).run P w = .ok v' w') (hK : K (a.put o.dst v') w') :
  if Region.wanted o (yielded ops a.tmps) = true then Oper.wp P o a w K Q else E := by
 have hw : Region.wanted o (yielded ops a.tmps) = true := by simp [Region.wanted, hg]
 rw [if_pos hw]
 unfold Oper.wp
 simp [execOp, hop, resolve, invoke, builtin, hd, hx, hr, Result.andThen]
 exact hK
theorem wpList_copy_runJ {P : Program} (w : World) {ops : Array Oper} {rest : List Oper} {o : Oper} {a : Act} {Q : Exit → Act → World → Prop} (hgd : o.guard = none) (d s : Operand) (t t' : TypeId)
  (ho : o.op = .call { callee := .builtin .copy, args := #[d, s], argTypes := #[t, t'] }) (v u : Value) (hd : a.eval d = v) (hs : a.eval s = u) {v' : Value} {w' : World}
  (hr : (Builtin.copy_ #[t, t'] o.type #[v, u]).run P w = .ok v' w') (h : wpList P ops Q rest (a.put o.dst v') w') : wpList P ops Q (o :: rest) a w :=
 wpList_plain hgd fun K hK => by
  unfold Oper.wp execOp
  simp only [ho, resolve, invoke, builtin, Sem.run_bind, Sem.run_pure, Result.andThen_ok, List.map_toArray, List.map_cons, List.map_nil, hd, hs, hr]
  exact hK _ _ h
theorem zeroA (a : Value) : (Builtin.zeroCells #[a] 1).toList = [a] := by
 simp [Builtin.zeroCells, show Array.range 1 = #[0] from rfl]
theorem zero5 (a b c d e : Value) : (Builtin.zeroCells #[a, b, c, d, e] 1).toList = [a, b, c, d, e] := by
 simp [Builtin.zeroCells, show Array.range 5 = #[0, 1, 2, 3, 4] from rfl]
theorem zero6 (a b c d e f : Value) : (Builtin.zeroCells #[a, b, c, d, e, f] 1).toList = [a, b, c, d, e, f] := by
 simp [Builtin.zeroCells, show Array.range 6 = #[0, 1, 2, 3, 4, 5] from rfl]
set_option maxHeartbeats 4000000 in
set_option maxRecDepth 1000000 in
theorem slices_Delete_json {m : Nat} {S : Nat → Prop} (g c i : Nat) (l : List J) (w : World) (hR : (tJ (m + 1)).R 32 w S (.slice (some ⟨g, 0, none⟩) l.length c) l) (hi : i < l.length) :
  Calls Tryz.prog 68 #[.slice (some ⟨g, 0, none⟩) l.length c, .int .i64 i, .int .i64 (i + 1)] w fun e w' => ∃ v, e = .returned v ∧ (tJ (m + 1)).R 32 w' S v (l.eraseIdx i) ∧ Fr w w' S := by
 obtain ⟨cur, T, hh, hg, _, hn, hm, hsz, hT, hd, hO⟩ := R_parts hR
 have hsz : cur.size = c * 5 := hsz
 have hO : ∀ i x, l[i]? = some x → (tJ (m + 1)).O w (T i) x ((cur.toList.drop (i * 5)).take 5) := hO
 obtain ⟨news, hnews⟩ : ∃ news, news = (cur.toList.drop ((i + 1) * 5)).take ((l.length - (i + 1)) * 5) := ⟨_, rfl⟩
 have hlen : news.length = (l.length - (i + 1)) * 5 := by rw [hnews]; simp; omega
 have hget : ∀ t, t < (l.length - (i + 1)) * 5 → news[t]? = cur.toList[(i + 1) * 5 + t]? := fun t ht => by
  rw [hnews, List.getElem?_take, if_pos ht, List.getElem?_drop]
 have hone : ∀ u ∈ news, u.oneCell' = true := fun u hu => by
  obtain ⟨t, ht⟩ := List.mem_iff_getElem?.1 hu
  have ht1 : t < (l.length - (i + 1)) * 5 := by
   have := (List.getElem?_eq_some_iff.1 ht).1
   omega
  rw [hget t ht1] at ht
  exact parts_one (d := (tJ (m + 1))) (T := T) (xs := l) hO (k := (i + 1) * 5 + t) (by show _ < l.length * 5; omega) ht
 obtain ⟨A, hA, hsrc⟩ : ∃ A : Addr, (if c = i + 1 then some (⟨g, 0, none⟩ : Addr) else some ⟨g, (i + 1) * 5, none⟩) = some A ∧ Hd (∀ t u, news[t]? = some u → w.drew.cell? (A.add t) = some u) := by
  by_cases h : c = i + 1
  ·refine ⟨⟨g, 0, none⟩, by simp [h], ⟨fun t u hu => ?_⟩⟩
   have h0 : news = [] := List.eq_nil_of_length_eq_zero (by rw [hlen]; omega)
   rw [h0] at hu
   simp at hu
  ·refine ⟨⟨g, (i + 1) * 5, none⟩, by simp [h], ⟨fun t u hu => ?_⟩⟩
   have ht1 : t < (l.length - (i + 1)) * 5 := by
    have := (List.getElem?_eq_some_iff.1 hu).1
    omega
   rw [hget t ht1] at hu
   rw [Addr.add_lit]
   show w.cell? _ = _
   rw [block_cell hh]
   simpa using hu
 have s3 : Hd (∀ t, t < news.length → (w.drew.cell? ⟨g, 0 + i * 5 + t, none⟩).isSome = true ∧ w.drew.frozen? ⟨g, 0 + i * 5 + t, none⟩ = false) := ⟨fun t ht => by
  refine ⟨?_, block_frozen hh _⟩
  show (w.cell? _).isSome = true
  rw [block_cell hh, Array.getElem?_eq_getElem (by omega)]
  rfl⟩
 have s1 := Hd.mk hlen
 have s2 := Hd.mk hone
 obtain ⟨W1, hW1⟩ : ∃ W1, W1 = w.drew.setCells g (0 + i * 5) news := ⟨_, rfl⟩
 obtain ⟨cur1, hh1, hl1⟩ := heap_setCells news (0 + i * 5) w.drew cur hh (by omega)
 rw [← hW1] at hh1
 have hs1 : cur1.size = cur.size := by
  have := congrArg List.length hl1
  rw [over_length _ _ _ (by simp; omega)] at this
  simpa using this
 have hcl : ∀ ty, (Builtin.clear_ #[30] ty #[.slice (some ⟨g, (i + (l.length - (i + 1))) * 5, none⟩) (l.length - (i + (l.length - (i + 1)))) (c - (i + (l.length - (i + 1))))]).run Tryz.prog W1 = .ok (.tuple #[]) (W1.setCells g ((i + (l.length - (i + 1))) * 5) [.int .i64 0, .int .i64 0, .string ByteArray.empty, .slice none 0 0, .slice none 0 0]) := fun ty => by
  have h1 : l.length - (i + (l.length - (i + 1))) = 1 := by omega
  rw [h1]
  have hp : ∀ j, j < 5 → (W1.cell? ⟨g, (i + (l.length - (i + 1))) * 5 + j, none⟩).isSome = true := fun j hj => by
   rw [block_cell hh1, Array.getElem?_eq_getElem (by omega)]
   rfl
  have hzc : (Builtin.zeroCells (Value.agg #[.int .i64 0, .int .i64 0, .string ByteArray.empty, .slice none 0 0, .slice none 0 0]).cells 1).toList = [.int .i64 0, .int .i64 0, .string ByteArray.empty, .slice none 0 0, .slice none 0 0] := zero5 _ _ _ _ _
  rw [← hzc]
  exact run_clear_wide (P := Tryz.prog) W1 30 32 ty (.agg #[.int .i64 0, .int .i64 0, .string ByteArray.empty, .slice none 0 0, .slice none 0 0]) (by rw [Tryz.underlying30]) (fun w => by rw [Tryz.zeroValue32]; rfl) (by simp [Value.cells, Value.oneCell']) g ((i + (l.length - (i + 1))) * 5) 1 (c - (i + (l.length - (i + 1)))) (by omega) hp (fun j hj => block_frozen hh1 _)
 obtain ⟨W2, hW2⟩ : ∃ W2, W2 = W1.setCells g ((i + (l.length - (i + 1))) * 5) [.int .i64 0, .int .i64 0, .string ByteArray.empty, .slice none 0 0, .slice none 0 0] := ⟨_, rfl⟩
 obtain ⟨cur2, hh2, hl2⟩ := heap_setCells [.int .i64 0, .int .i64 0, .string ByteArray.empty, .slice none 0 0, .slice none 0 0] ((i + (l.length - (i + 1))) * 5) W1 cur1 hh1 (by simp; omega)
 rw [← hW2] at hh2
 have hs2 : cur2.size = cur.size := by
  have := congrArg List.length hl2
  rw [over_length _ _ _ (by simp; omega)] at this
  simpa [hs1] using this
 have hne : ∀ k, k ≠ g → W2.heap[k]? = w.heap[k]? := fun k hk => by
  rw [hW2, heap_setCells_ne _ _ _ _ hk, hW1, heap_setCells_ne _ _ _ _ hk]; rfl
 have hfr : Fr w W2 S := by
  rw [hW2, hW1]
  exact setCells_fr (fun _ => hg) _ _ _ (setCells_fr (fun _ => hg) _ _ _ (Fr.refl w S).drew)
 have hfin : (tJ (m + 1)).R 32 W2 S (.slice (some ⟨g, 0, none⟩) (l.eraseIdx i).length c) (l.eraseIdx i) := by
  have hel : (l.eraseIdx i).length = l.length - 1 := by rw [List.length_eraseIdx, if_pos hi]
  refine R_of_parts (cur := cur2) hh2 hg (by omega) hm (by rw [hs2]; exact hsz) (fun j => if j < i then T j else T (j + 1)) (fun j b hb => ?_) (fun j k b hj hk => ?_) (fun j x hx => ?_)
  ·have : S b ∧ b ≠ g ∧ b < w.heap.size := by
    by_cases h : j < i
    ·simp only [if_pos h] at hb; exact hT _ _ hb
    ·simp only [if_neg h] at hb; exact hT _ _ hb
   exact ⟨this.1, this.2.1⟩
  ·by_cases h : j < i <;> by_cases h' : k < i
   ·simp only [if_pos h, if_pos h'] at hj hk; exact hd _ _ _ hj hk
   ·simp only [if_pos h, if_neg h'] at hj hk; have := hd _ _ _ hj hk; omega
   ·simp only [if_neg h, if_pos h'] at hj hk; have := hd _ _ _ hj hk; omega
   ·simp only [if_neg h, if_neg h'] at hj hk; have := hd _ _ _ hj hk; omega
  ·have hjl : j < l.length - 1 := by rw [← hel]; exact (List.getElem?_eq_some_iff.1 hx).1
   rw [List.getElem?_eraseIdx] at hx
   by_cases h : j < i
   ·rw [if_pos h] at hx
    simp only [if_pos h]
    have he : (cur2.toList.drop (j * 5)).take 5 = (cur.toList.drop (j * 5)).take 5 := cut_eq _ _ _ _ _ (fun k hk => by
     rw [hl2, over_get _ _ _ (by simp; omega), if_neg (by omega), hl1, over_get _ _ _ (by simp; omega), if_neg (by omega)])
    show (tJ (m + 1)).O W2 (T j) x ((cur2.toList.drop (j * 5)).take 5)
    rw [he]
    exact (tJ (m + 1)).O_move (fun k hk => hne k (hT _ _ hk).2.1) (hO j x hx)
   ·rw [if_neg h] at hx
    simp only [if_neg h]
    have he : (cur2.toList.drop (j * 5)).take 5 = (cur.toList.drop ((j + 1) * 5)).take 5 := cut_eq _ _ _ _ _ (fun k hk => by
     rw [hl2, over_get _ _ _ (by simp; omega), if_neg (by omega), hl1, over_get _ _ _ (by simp; omega), if_pos (by omega), hget _ (by omega)]
     congr 1; omega)
    show (tJ (m + 1)).O W2 (T (j + 1)) x ((cur2.toList.drop (j * 5)).take 5)
    rw [he]
    exact (tJ (m + 1)).O_move (fun k hk => hne k (hT _ _ hk).2.1) (hO (j + 1) x hx)
 have HF := Hd.mk hfin; have HFR := Hd.mk hfr
 have hlenE := Hd.mk (show (l.eraseIdx i).length = i + (l.length - (i + 1)) by rw [List.length_eraseIdx, if_pos hi]; omega)
 have hW := Hd.mk hW1
 rw [← hW2] at hcl
 have hic : i ≤ c := by omega
 have hjc : i + 1 ≤ c := by omega
 have hij : (i : Int) ≤ (i : Int) + 1 := by omega
 have hi0 : (0 : Int) ≤ (i : Int) + 1 := by omega
 have mixed : Tryz.prog.follows .mixedOrders = true := by kernel_rfl
 have hil : (i : Int) + 1 ≤ (l.length : Int) := by omega
 clear hfin hfr hW1 hW2 hh1 hh2 hl1 hl2 hs1 hs2 hne hnews hlen hget hone hT hd hO hh hR
 go_enter Tryz.func68, Tryz.ntmps68
 go_wp2_with fail
 obtain ⟨i0, hif, hzz⟩ := Option.map_eq_some_iff.1 info_JsonS
 simp only [Prod.mk.injEq] at hzz
 obtain ⟨hz0, hz1, hz2⟩ := hzz
 go_region_law_o (refine step_append_room rfl (.tmp 22) (.tmp 25) 30 rfl 32 i0 5 (by rw [Tryz.underlying30]) hif hz1 g 0 i c (by simp [Act.eval, Act.put]) A (l.length - (i + 1)) (c - (i + 1)) news (by simp [Act.eval, Act.put]) s1.out hsrc.out s2.out (by omega) s3.out ?_; rw [← hW.out])
 go_wp2
 go_ret
 have e := hlenE.out
 have h := HF.out
 rw [e] at h
 exact ⟨_, rfl, h, HFR.out⟩
set_option maxHeartbeats 4000000 in
set_option maxRecDepth 1000000 in
theorem slices_Delete_str {S : Nat → Prop} (g c i : Nat) (l : List ByteArray) (w : World) (hR : str.R 9 w S (.slice (some ⟨g, 0, none⟩) l.length c) l) (hi : i < l.length) :
  Calls Tryz.prog 69 #[.slice (some ⟨g, 0, none⟩) l.length c, .int .i64 i, .int .i64 (i + 1)] w fun e w' => ∃ v, e = .returned v ∧ str.R 9 w' S v (l.eraseIdx i) ∧ Fr w w' S := by
 obtain ⟨cur, T, hh, hg, _, hn, hm, hsz, hT, hd, hO⟩ := R_parts hR
 have hsz : cur.size = c * 1 := hsz
 have hO : ∀ i x, l[i]? = some x → str.O w (T i) x ((cur.toList.drop (i * 1)).take 1) := hO
 obtain ⟨news, hnews⟩ : ∃ news, news = (cur.toList.drop ((i + 1) * 1)).take ((l.length - (i + 1)) * 1) := ⟨_, rfl⟩
 have hlen : news.length = (l.length - (i + 1)) * 1 := by rw [hnews]; simp; omega
 have hget : ∀ t, t < (l.length - (i + 1)) * 1 → news[t]? = cur.toList[(i + 1) * 1 + t]? := fun t ht => by
  rw [hnews, List.getElem?_take, if_pos ht, List.getElem?_drop]
 have hone : ∀ u ∈ news, u.oneCell' = true := fun u hu => by
  obtain ⟨t, ht⟩ := List.mem_iff_getElem?.1 hu
  have ht1 : t < (l.length - (i + 1)) * 1 := by
   have := (List.getElem?_eq_some_iff.1 ht).1
   omega
  rw [hget t ht1] at ht
  exact parts_one (d := str) (T := T) (xs := l) hO (k := (i + 1) * 1 + t) (by show _ < l.length * 1; omega) ht
 obtain ⟨A, hA, hsrc⟩ : ∃ A : Addr, (if c = i + 1 then some (⟨g, 0, none⟩ : Addr) else some ⟨g, (i + 1) * 1, none⟩) = some A ∧ Hd (∀ t u, news[t]? = some u → w.drew.cell? (A.add t) = some u) := by
  by_cases h : c = i + 1
  ·refine ⟨⟨g, 0, none⟩, by simp [h], ⟨fun t u hu => ?_⟩⟩
   have h0 : news = [] := List.eq_nil_of_length_eq_zero (by rw [hlen]; omega)
   rw [h0] at hu
   simp at hu
  ·refine ⟨⟨g, (i + 1) * 1, none⟩, by simp [h], ⟨fun t u hu => ?_⟩⟩
   have ht1 : t < (l.length - (i + 1)) * 1 := by
    have := (List.getElem?_eq_some_iff.1 hu).1
    omega
   rw [hget t ht1] at hu
   rw [Addr.add_lit]
   show w.cell? _ = _
   rw [block_cell hh]
   simpa using hu
 have s3 : Hd (∀ t, t < news.length → (w.drew.cell? ⟨g, 0 + i * 1 + t, none⟩).isSome = true ∧ w.drew.frozen? ⟨g, 0 + i * 1 + t, none⟩ = false) := ⟨fun t ht => by
  refine ⟨?_, block_frozen hh _⟩
  show (w.cell? _).isSome = true
  rw [block_cell hh, Array.getElem?_eq_getElem (by omega)]
  rfl⟩
 have s1 := Hd.mk hlen
 have s2 := Hd.mk hone
 obtain ⟨W1, hW1⟩ : ∃ W1, W1 = w.drew.setCells g (0 + i * 1) news := ⟨_, rfl⟩
 obtain ⟨cur1, hh1, hl1⟩ := heap_setCells news (0 + i * 1) w.drew cur hh (by omega)
 rw [← hW1] at hh1
 have hs1 : cur1.size = cur.size := by
  have := congrArg List.length hl1
  rw [over_length _ _ _ (by simp; omega)] at this
  simpa using this
 have hcl : ∀ ty, (Builtin.clear_ #[23] ty #[.slice (some ⟨g, (i + (l.length - (i + 1))) * 1, none⟩) (l.length - (i + (l.length - (i + 1)))) (c - (i + (l.length - (i + 1))))]).run Tryz.prog W1 = .ok (.tuple #[]) (W1.setCells g ((i + (l.length - (i + 1))) * 1) [.string ByteArray.empty]) := fun ty => by
  have h1 : l.length - (i + (l.length - (i + 1))) = 1 := by omega
  rw [h1]
  have hp : ∀ j, j < 1 → (W1.cell? ⟨g, (i + (l.length - (i + 1))) * 1 + j, none⟩).isSome = true := fun j hj => by
   rw [block_cell hh1, Array.getElem?_eq_getElem (by omega)]
   rfl
  have hzc : (Builtin.zeroCells (Value.string ByteArray.empty).cells 1).toList = [.string ByteArray.empty] := zeroA _
  rw [← hzc]
  exact run_clear_wide (P := Tryz.prog) W1 23 9 ty (.string ByteArray.empty) (by rw [Tryz.underlying23]) (fun w => by rw [Tryz.zeroValue9]; rfl) (by simp [Value.cells, Value.oneCell']) g ((i + (l.length - (i + 1))) * 1) 1 (c - (i + (l.length - (i + 1)))) (by omega) hp (fun j hj => block_frozen hh1 _)
 obtain ⟨W2, hW2⟩ : ∃ W2, W2 = W1.setCells g ((i + (l.length - (i + 1))) * 1) [.string ByteArray.empty] := ⟨_, rfl⟩
 obtain ⟨cur2, hh2, hl2⟩ := heap_setCells [.string ByteArray.empty] ((i + (l.length - (i + 1))) * 1) W1 cur1 hh1 (by simp; omega)
 rw [← hW2] at hh2
 have hs2 : cur2.size = cur.size := by
  have := congrArg List.length hl2
  rw [over_length _ _ _ (by simp; omega)] at this
  simpa [hs1] using this
 have hne : ∀ k, k ≠ g → W2.heap[k]? = w.heap[k]? := fun k hk => by
  rw [hW2, heap_setCells_ne _ _ _ _ hk, hW1, heap_setCells_ne _ _ _ _ hk]; rfl
 have hfr : Fr w W2 S := by
  rw [hW2, hW1]
  exact setCells_fr (fun _ => hg) _ _ _ (setCells_fr (fun _ => hg) _ _ _ (Fr.refl w S).drew)
 have hfin : str.R 9 W2 S (.slice (some ⟨g, 0, none⟩) (l.eraseIdx i).length c) (l.eraseIdx i) := by
  have hel : (l.eraseIdx i).length = l.length - 1 := by rw [List.length_eraseIdx, if_pos hi]
  refine R_of_parts (cur := cur2) hh2 hg (by omega) hm (by rw [hs2]; exact hsz) (fun j => if j < i then T j else T (j + 1)) (fun j b hb => ?_) (fun j k b hj hk => ?_) (fun j x hx => ?_)
  ·have : S b ∧ b ≠ g ∧ b < w.heap.size := by
    by_cases h : j < i
    ·simp only [if_pos h] at hb; exact hT _ _ hb
    ·simp only [if_neg h] at hb; exact hT _ _ hb
   exact ⟨this.1, this.2.1⟩
  ·by_cases h : j < i <;> by_cases h' : k < i
   ·simp only [if_pos h, if_pos h'] at hj hk; exact hd _ _ _ hj hk
   ·simp only [if_pos h, if_neg h'] at hj hk; have := hd _ _ _ hj hk; omega
   ·simp only [if_neg h, if_pos h'] at hj hk; have := hd _ _ _ hj hk; omega
   ·simp only [if_neg h, if_neg h'] at hj hk; have := hd _ _ _ hj hk; omega
  ·have hjl : j < l.length - 1 := by rw [← hel]; exact (List.getElem?_eq_some_iff.1 hx).1
   rw [List.getElem?_eraseIdx] at hx
   by_cases h : j < i
   ·rw [if_pos h] at hx
    simp only [if_pos h]
    have he : (cur2.toList.drop (j * 1)).take 1 = (cur.toList.drop (j * 1)).take 1 := cut_eq _ _ _ _ _ (fun k hk => by
     rw [hl2, over_get _ _ _ (by simp; omega), if_neg (by omega), hl1, over_get _ _ _ (by simp; omega), if_neg (by omega)])
    show str.O W2 (T j) x ((cur2.toList.drop (j * 1)).take 1)
    rw [he]
    exact str.O_move (fun k hk => hne k (hT _ _ hk).2.1) (hO j x hx)
   ·rw [if_neg h] at hx
    simp only [if_neg h]
    have he : (cur2.toList.drop (j * 1)).take 1 = (cur.toList.drop ((j + 1) * 1)).take 1 := cut_eq _ _ _ _ _ (fun k hk => by
     rw [hl2, over_get _ _ _ (by simp; omega), if_neg (by omega), hl1, over_get _ _ _ (by simp; omega), if_pos (by omega), hget _ (by omega)]
     congr 1; omega)
    show str.O W2 (T (j + 1)) x ((cur2.toList.drop (j * 1)).take 1)
    rw [he]
    exact str.O_move (fun k hk => hne k (hT _ _ hk).2.1) (hO (j + 1) x hx)
 have HF := Hd.mk hfin; have HFR := Hd.mk hfr
 have hlenE := Hd.mk (show (l.eraseIdx i).length = i + (l.length - (i + 1)) by rw [List.length_eraseIdx, if_pos hi]; omega)
 have hW := Hd.mk hW1
 rw [← hW2] at hcl
 have hic : i ≤ c := by omega
 have hjc : i + 1 ≤ c := by omega
 have hij : (i : Int) ≤ (i : Int) + 1 := by omega
 have hi0 : (0 : Int) ≤ (i : Int) + 1 := by omega
 have mixed : Tryz.prog.follows .mixedOrders = true := by kernel_rfl
 have hil : (i : Int) + 1 ≤ (l.length : Int) := by omega
 clear hfin hfr hW1 hW2 hh1 hh2 hl1 hl2 hs1 hs2 hne hnews hlen hget hone hT hd hO hh hR
 simp only [Nat.mul_one] at hA hcl
 go_enter Tryz.func69, Tryz.ntmps69
 go_wp2_with fail
 obtain ⟨i0, hif, hzz⟩ := Option.map_eq_some_iff.1 info_str
 simp only [Prod.mk.injEq] at hzz
 obtain ⟨hz0, hz1, hz2⟩ := hzz
 go_region_law_o (refine step_append_room rfl (.tmp 22) (.tmp 25) 23 rfl 9 i0 1 (by rw [Tryz.underlying23]) hif hz1 g 0 i c (by simp [Act.eval, Act.put]) A (l.length - (i + 1)) (c - (i + 1)) news (by simp [Act.eval, Act.put]) s1.out hsrc.out s2.out (by omega) s3.out ?_; rw [← hW.out])
 go_wp2
 go_ret
 have e := hlenE.out
 have h := HF.out
 rw [e] at h
 exact ⟨_, rfl, h, HFR.out⟩
theorem sizeJson : ∀ w, (Go.sizeOf 32).run Tryz.prog w = .ok 5 w := fun w => by
 obtain ⟨i0, hi, hzz⟩ := Option.map_eq_some_iff.1 info_JsonS
 simp only [Prod.mk.injEq] at hzz
 simp [Go.sizeOf, typeInfo, hi, hzz.2.1]
theorem infoJson2 : (Tryz.prog.info? 32).map (·.size) = some 5 := by kernel_rfl
set_option maxHeartbeats 4000000 in
set_option maxRecDepth 100000 in
theorem slices_Insert_json_shift (g c n p vb : Nat) (cur : Array Value) (vs : List Value) (w : World) (hp : p < n) (hroom : n + 1 ≤ c) (hc63 : c ≤ 9223372036854775807) (hvb : vb ≠ g)
  (hg : w.heap[g]? = some (.cells cur 32 (0, 0))) (hcs : cur.size = c * 5) (hv : w.heap[vb]? = some (.cells vs.toArray 32 (0, 0))) (hvl : vs.length = 5)
  (h1c : ∀ k u, k < n * 5 → cur.toList[k]? = some u → u.oneCell' = true) (h1v : ∀ v ∈ vs, v.oneCell' = true) :
  Calls Tryz.prog 65 #[.slice (some ⟨g, 0, none⟩) n c, .int .i64 p, .slice (some ⟨vb, 0, none⟩) 1 1] w fun e w' =>
   e = .returned (.slice (some ⟨g, 0, none⟩) (n + 1) c) ∧ w' = (w.drew.setCells g ((p + 1) * 5) ((cur.toList.drop (p * 5)).take ((n - p) * 5))).setCells g (p * 5) vs := by
 obtain ⟨cs, hcsd⟩ : ∃ cs, cs = (cur.toList.drop (p * 5)).take ((n - p) * 5) := ⟨_, rfl⟩
 have hcl : cs.length = (n - p) * 5 := by rw [hcsd]; simp; omega
 have hget : ∀ t, t < (n - p) * 5 → cs[t]? = cur.toList[p * 5 + t]? := fun t ht => by rw [hcsd, List.getElem?_take, if_pos ht, List.getElem?_drop]
 have h1s : ∀ u ∈ cs, u.oneCell' = true := fun u hu => by
  obtain ⟨t, ht⟩ := List.mem_iff_getElem?.1 hu
  have ht1 : t < (n - p) * 5 := by
   have := (List.getElem?_eq_some_iff.1 ht).1
   omega
  rw [hget t ht1] at ht
  exact h1c (p * 5 + t) u (by omega) ht
 have hov : ∀ lb cb, (callFunc 80 #[.slice (some ⟨vb, 0, none⟩) 1 1, .slice (some ⟨g, (p + 1) * 5, none⟩) lb cb]).run Tryz.prog w = .ok (.value (.bool false)) w := fun lb cb => by
  rw [run_callFunc_extern Tryz.func80 (by kernel_rfl) (by kernel_rfl) (by kernel_rfl) (e := Extern.SlicesOverlaps.overlaps #[30, 30] #[4]) (by kernel_rfl),
   Lib.run_overlaps_apart w 30 4 32 (by rw [Tryz.underlying30]) 5 sizeJson ⟨vb, 0, none⟩ ⟨g, (p + 1) * 5, none⟩ 1 1 lb cb hvb 32 32 vs.toArray.size cur.size (by simp [World.shape?, hv]) (by simp [World.shape?, hg]) (by omega) (by simp [World.frozen?, hv]) (by simp [World.frozen?, hv])]
  rfl
 have hcp1 : ∀ ty dc sc, (Builtin.copy_ #[30, 30] ty #[.slice (some ⟨g, (p + 1) * 5, none⟩) (n - p) dc, .slice (some ⟨g, p * 5, none⟩) (n + 1 - p) sc]).run Tryz.prog w.drew = .ok (goInt (Nat.min (n + 1 - p) (n - p))) (w.drew.setCells g ((p + 1) * 5) cs) := fun ty dc sc =>
  run_copy_wide w.drew _ _ ty 32 5 g ((p + 1) * 5) (n - p) dc ⟨g, p * 5, none⟩ (n + 1 - p) sc cs (by rw [Tryz.underlying30]) infoJson2 (by rw [hcl]; simp only [Nat.min_def]; split <;> omega)
   (fun j v hj => by
    have hj1 : j < (n - p) * 5 := by
     have := (List.getElem?_eq_some_iff.1 hj).1
     omega
    rw [Addr.add_lit]
    show w.cell? _ = _
    rw [block_cell hg]
    rw [hget j hj1] at hj
    simpa using hj)
   (fun j hj => by
    show (w.cell? _).isSome = true
    rw [block_cell hg, Array.getElem?_eq_getElem (by omega)]; rfl) (fun j hj => block_frozen hg _) h1s
 obtain ⟨W1, hW1⟩ : ∃ W1, W1 = w.drew.setCells g ((p + 1) * 5) cs := ⟨_, rfl⟩
 obtain ⟨cur1, hg1, hl1⟩ := heap_setCells cs ((p + 1) * 5) w.drew cur hg (by omega)
 rw [← hW1] at hg1
 have hs1 : cur1.size = cur.size := by
  have := congrArg List.length hl1
  rw [over_length _ _ _ (by simp; omega)] at this
  simpa using this
 have hv1 : W1.heap[vb]? = some (.cells vs.toArray 32 (0, 0)) := by rw [hW1, heap_setCells_ne _ _ _ _ hvb]; exact hv
 have hcp2 : ∀ (W : World), (∀ x, W.cell? x = W1.cell? x) → (∀ x, W.frozen? x = W1.frozen? x) → ∀ ty dc, (Builtin.copy_ #[30, 30] ty #[.slice (some ⟨g, p * 5, none⟩) (n + 1 - p) dc, .slice (some ⟨vb, 0, none⟩) 1 1]).run Tryz.prog W = .ok (goInt (Nat.min 1 (n + 1 - p))) (W.setCells g (p * 5) vs) := fun W hWc hWf ty dc =>
  run_copy_wide W _ _ ty 32 5 g (p * 5) (n + 1 - p) dc ⟨vb, 0, none⟩ 1 1 vs (by rw [Tryz.underlying30]) infoJson2 (by rw [hvl]; simp only [Nat.min_def]; split <;> omega)
   (fun j v hj => by rw [add0, hWc, block_cell hv1]; simpa using hj)
   (fun j hj => by rw [hWc, block_cell hg1, Array.getElem?_eq_getElem (by omega)]; rfl) (fun j hj => by rw [hWf]; exact block_frozen hg1 _) h1v
 have hcp1' := Hd.mk hcp1; have hcp2' := Hd.mk hcp2
 rw [← hW1] at hcp1
 have HW1 := Hd.mk hW1; have HCS := Hd.mk hcsd
 have hz2 : ¬ ((p : Int) = (n : Int)) := by omega
 have mixed : Tryz.prog.follows .mixedOrders = true := by kernel_rfl
 have hb1 : (0 : Int) ≤ (p : Int) + 1 := by omega
 have hin : p ≤ n := by omega
 have hpc : p ≤ c := by omega
 have hb3 : (p : Int) ≤ (n : Int) + 1 := by omega
 have hb2 : ¬ (c = p + 1) := by omega
 have hw1 : IntKind.i64.wrap ((p : Int) + 1) = (p : Int) + 1 := by rw [IntKind.wrap_i64]; omega
 have htn : ((p : Int) + 1).toNat = p + 1 := by omega
 have hb5 : (p : Int) + 1 ≤ (n : Int) + 1 := by omega
 have hb4 : ¬ (c = p) := by omega
 clear hW1 hcsd hg1 hl1 hs1 hv1 hget h1s hcl hg hv hcp1' h1c h1v hcs hvl
 go_enter Tryz.func65, Tryz.ntmps65
 go_wp2_with (simp only [hov])
 go_region_law_o (refine step_copy_runJ rfl _ _ 30 30 rfl _ _ (by simp [Act.eval, Act.put]) (by simp [Act.eval, Act.put]) (hcp1 _ _ _) ?_)
 go_wp2_with (at_builtin; refine wpList_copy_runJ _ rfl _ _ 30 30 rfl _ _ rfl rfl (hcp2'.out _ (fun _ => rfl) (fun _ => rfl) _ _) ?_)
 go_ret
 first | exact ⟨rfl, by rw [HW1.out, HCS.out]⟩ | exact ⟨rfl, by rw [← HCS.out, ← HW1.out]⟩
set_option maxHeartbeats 4000000 in
set_option maxRecDepth 100000 in
theorem slices_Insert_json_end {m : Nat} {S S' T : Nat → Prop} (v : Value) (l : List J) (x : J) (cs : List Value) (vb : Nat) (w : World) (hR : (tJ (m + 1)).R 32 w S v l) (hv : w.heap[vb]? = some (.cells cs.toArray 32 (0, 0))) (hO : (tJ (m + 1)).O w T x cs)
  (hST : ∀ k, T k → ¬ S k) (hS : ∀ k, S k → S' k) (hT : ∀ k, T k → S' k) (hnew : ∀ k, w.heap.size ≤ k → S' k) (hlen : l.length ≤ 4194304) :
  Calls Tryz.prog 65 #[v, .int .i64 l.length, .slice (some ⟨vb, 0, none⟩) 1 1] w fun e w' => ∃ v', e = .returned v' ∧ (tJ (m + 1)).R 32 w' S' v' (l ++ [x]) ∧ Fr w w' S := by
 have hcl : cs.length = 5 := (tJ (m + 1)).K_len ((tJ (m + 1)).O_K hO)
 have HR := Hd.mk hR
 have HO := Hd.mk hO; have HST := Hd.mk hST
 have hc : Hd (∀ j u, cs[j]? = some u → ∃ ad, (some (⟨vb, 0, none⟩ : Addr)) = some ad ∧ w.cell? (ad.add j) = some u) := ⟨fun j u hu => ⟨_, rfl, by rw [add0, block_cell hv]; simpa using hu⟩⟩
 have H1 := Hd.mk ((tJ (m + 1)).K_one ((tJ (m + 1)).O_K hO))
 have HOO : Hd (∀ i y, [x][i]? = some y → (tJ (m + 1)).O w ((fun i k => i = 0 ∧ T k) i) y ((cs.drop (i * (tJ (m + 1)).sz)).take (tJ (m + 1)).sz)) := ⟨fun i y hi => by
  rcases i with _ | i
  ·simp at hi
   subst hi
   have he : (cs.drop (0 * (tJ (m + 1)).sz)).take (tJ (m + 1)).sz = cs := by rw [Nat.zero_mul, List.drop_zero, List.take_of_length_le (by rw [hcl]; exact Nat.le_refl 5)]
   rw [he]
   exact (tJ (m + 1)).O_mono (fun k hk => ⟨rfl, hk⟩) hO
  ·simp at hi⟩
 have HL := Hd.mk (show cs.length = 1 * (tJ (m + 1)).sz from hcl)
 have hform : (v = .slice none 0 0 ∧ l.length = 0) ∨ ∃ g c, v = .slice (some ⟨g, 0, none⟩) l.length c ∧ l.length ≤ c ∧ c ≤ 9223372036854775807 := by
  obtain ⟨inner, f, ⟨_, ho⟩, _, _⟩ := hR
  rcases ho with ⟨h1, h2⟩ | ⟨g, cap, cur, h1, _, _, h2, h3, _⟩
  ·exact .inl ⟨h1, h2⟩
  ·simp only [maxLen] at h3
   exact .inr ⟨g, cap, h1, h2, by omega⟩
 clear hR hv hO hcl
 rcases hform with ⟨rfl, h0⟩ | ⟨g, c, rfl, h1, h2⟩
 ·obtain rfl : l = [] := List.eq_nil_of_length_eq_zero h0
  go_enter Tryz.func65, Tryz.ntmps65
  go_wp2_with (at_builtin; refine append_gen (tJ (m + 1)) rfl _ _ 30 32 (.agg #[.int .i64 0, .int .i64 0, .string ByteArray.empty, .slice none 0 0, .slice none 0 0]) 80 rfl Tryz.underlying30 info_JsonS rfl (show 0 < 5 by decide) (by decide) (S := S) (S' := S') (v := .slice none 0 0) (xs := []) (ys := [x]) (fun i k => i = 0 ∧ T k) (some ⟨vb, 0, none⟩) 1 1 cs rfl rfl HR.out rfl HL.out hc.out H1.out HOO.out (fun i j k h1 h2 => by rw [h1.1, h2.1]) (fun i k h => HST.out k h.2) hS (fun i k h => hT k h.2) hnew (by simp) (fun v1 w1 hv1 hf1 => ?_))
  go_wp2_with fail
  go_ret
  exact ⟨_, rfl, hv1, hf1⟩
 ·go_enter Tryz.func65, Tryz.ntmps65
  go_wp2_with (at_builtin; refine append_gen (tJ (m + 1)) rfl _ _ 30 32 (.agg #[.int .i64 0, .int .i64 0, .string ByteArray.empty, .slice none 0 0, .slice none 0 0]) 80 rfl Tryz.underlying30 info_JsonS rfl (show 0 < 5 by decide) (by decide) (S := S) (S' := S') (v := .slice (some ⟨g, 0, none⟩) l.length c) (xs := l) (ys := [x]) (fun i k => i = 0 ∧ T k) (some ⟨vb, 0, none⟩) 1 1 cs rfl rfl HR.out rfl HL.out hc.out H1.out HOO.out (fun i j k h1 h2 => by rw [h1.1, h2.1]) (fun i k h => HST.out k h.2) hS (fun i k h => hT k h.2) hnew (by omega) (fun v1 w1 hv1 hf1 => ?_))
  all_goals (try go_wp2_with fail)
  all_goals (go_ret; exact ⟨_, rfl, hv1, hf1⟩)
set_option maxHeartbeats 4000000 in
set_option maxRecDepth 100000 in
theorem slices_Insert_json_grow (g c n p vb : Nat) (cur : Array Value) (vs : List Value) (w : World) (hp : p < n) (hnc : n ≤ c) (hroom : c < n + 1) (hbig : n ≤ 4194304)
  (hg : w.heap[g]? = some (.cells cur 32 (0, 0))) (hcs : cur.size = c * 5) (hv : w.heap[vb]? = some (.cells vs.toArray 32 (0, 0))) (hvl : vs.length = 5)
  (h1c : ∀ k u, k < n * 5 → cur.toList[k]? = some u → u.oneCell' = true) (h1v : ∀ v ∈ vs, v.oneCell' = true) :
  Calls Tryz.prog 65 #[.slice (some ⟨g, 0, none⟩) n c, .int .i64 p, .slice (some ⟨vb, 0, none⟩) 1 1] w fun e w' =>
   ∃ (G : Nat) (ROW : Array Value), n + 1 ≤ G ∧ G ≤ 9223372036854775807 ∧ ROW.size = G * 5 ∧ ROW.toList.take (p * 5) = cur.toList.take (p * 5) ∧
   e = .returned (.slice (some ⟨w.heap.size, 0, none⟩) (n + 1) G) ∧ w' = (((w.alloc (.cells ROW 32)).drew.setCells w.heap.size (p * 5) vs).drew).setCells w.heap.size ((p + 1) * 5) ((cur.toList.drop (p * 5)).take ((n - p) * 5)) := by
 obtain ⟨cs, hcsd⟩ : ∃ cs, cs = (cur.toList.drop (p * 5)).take ((n - p) * 5) := ⟨_, rfl⟩
 have hcl : cs.length = (n - p) * 5 := by rw [hcsd]; simp; omega
 have hget : ∀ t, t < (n - p) * 5 → cs[t]? = cur.toList[p * 5 + t]? := fun t ht => by rw [hcsd, List.getElem?_take, if_pos ht, List.getElem?_drop]
 have h1s : ∀ u ∈ cs, u.oneCell' = true := fun u hu => by
  obtain ⟨t, ht⟩ := List.mem_iff_getElem?.1 hu
  have ht1 : t < (n - p) * 5 := by
   have := (List.getElem?_eq_some_iff.1 ht).1
   omega
  rw [hget t ht1] at ht
  exact h1c (p * 5 + t) u (by omega) ht
 have hgw : g < w.heap.size := (Array.getElem?_eq_some_iff.1 hg).1
 have hvw : vb < w.heap.size := (Array.getElem?_eq_some_iff.1 hv).1
 obtain ⟨i0, hif, hzz⟩ := Option.map_eq_some_iff.1 info_JsonS
 simp only [Prod.mk.injEq] at hzz
 obtain ⟨hz0, hz1, hz2⟩ := hzz
 have hold : (Builtin.firstCells i0.size p (.slice (some ⟨g, 0, none⟩) p c)).run Tryz.prog w.drew = .ok (cur.toList.take (p * 5)).toArray w.drew := by
  rw [hz1]
  exact run_firstCells_some w.drew 5 p ⟨g, 0, none⟩ p c (cur.toList.take (p * 5)) (by simp; omega) (fun j v hj => by
   rw [add0]
   show w.cell? _ = _
   rw [block_cell hg]
   rw [List.getElem?_take] at hj
   split at hj
   ·simpa using hj
   ·cases hj)
 obtain ⟨G, hG⟩ : ∃ G, G = grownCap w (n + 1) c 32 := ⟨_, rfl⟩
 obtain ⟨ROW, hROW⟩ : ∃ ROW : Array Value, ROW = (cur.toList.take (p * 5)).toArray ++ Builtin.zeroCells (Value.agg #[.int .i64 0, .int .i64 0, .string ByteArray.empty, .slice none 0 0, .slice none 0 0]).cells (n + 1 - p) ++ Builtin.zeroCells (Value.agg #[.int .i64 0, .int .i64 0, .string ByteArray.empty, .slice none 0 0, .slice none 0 0]).cells (G - (n + 1)) := ⟨_, rfl⟩
 have hGn : n + 1 ≤ G := by rw [hG]; exact grownCap_ge w _ _ _
 have hG63 : G ≤ 9223372036854775807 := by
  have := grownCap_le_maxLen w (n + 1) c 32 (by unfold maxLen; omega)
  rw [← hG] at this
  unfold maxLen at this
  omega
 have hRsz : ROW.size = G * 5 := by
  rw [hROW]
  simp [Builtin.zeroCells, Value.cells]
  omega
 have hRtk : ROW.toList.take (p * 5) = cur.toList.take (p * 5) := by
  rw [hROW]
  simp only [Array.toList_append, List.append_assoc]
  rw [List.take_append_of_le_length (by simp; omega), List.take_of_length_le (by simp; omega)]
 have hrz : ∀ ty, (Builtin.append_ #[30, 3] ty #[.slice (some ⟨g, 0, none⟩) p c, .int .i64 ((n : Int) + 1 - (p : Int))]).run Tryz.prog w =
   .ok (.slice (some ⟨w.heap.size, 0, none⟩) (n + 1) G) (w.drew.alloc (.cells ROW 32)) := fun ty => by
  have h := Lib.run_append_grow_zeros (P := Tryz.prog) w 30 3 ty 32 i0 _ .i64 .i64 (by rw [Tryz.underlying30]) (by rw [Tryz.underlying3]) hif hz0 (some ⟨g, 0, none⟩) p c (cur.toList.take (p * 5)) hold (n + 1 - p) (by omega) (by omega) (by omega) (by omega) (by rw [hz2]; omega) (by rw [hz2, show p + (n + 1 - p) = n + 1 by omega]; exact growslice_fits hroom (by omega))
  rw [show p + (n + 1 - p) = n + 1 by omega, ← hG, ← hROW] at h
  rw [show (n : Int) + 1 - (p : Int) = ((n + 1 - p : Nat) : Int) by omega]
  exact h
 obtain ⟨W1, hW1⟩ : ∃ W1, W1 = w.drew.alloc (.cells ROW 32) := ⟨_, rfl⟩
 have hN : W1.heap[w.heap.size]? = some (.cells ROW 32 (0, 0)) := by rw [hW1]; exact heap_alloc_new w.drew _
 have hOb : ∀ k, k < w.heap.size → W1.heap[k]? = w.heap[k]? := fun k hk => by rw [hW1]; exact (below_alloc (Below.refl w.drew.heap.size w.drew) _).block k hk
 rw [← hW1] at hrz
 have hcpA : ∀ (W : World), (∀ x, W.cell? x = W1.cell? x) → (∀ x, W.frozen? x = W1.frozen? x) → ∀ ty dc, (Builtin.copy_ #[30, 30] ty #[.slice (some ⟨w.heap.size, p * 5, none⟩) (n + 1 - p) dc, .slice (some ⟨vb, 0, none⟩) 1 1]).run Tryz.prog W = .ok (goInt (Nat.min 1 (n + 1 - p))) (W.setCells w.heap.size (p * 5) vs) := fun W hWc hWf ty dc =>
  run_copy_wide W _ _ ty 32 5 w.heap.size (p * 5) (n + 1 - p) dc ⟨vb, 0, none⟩ 1 1 vs (by rw [Tryz.underlying30]) infoJson2 (by rw [hvl]; simp only [Nat.min_def]; split <;> omega)
   (fun j v hj => by rw [add0, hWc, block_cell (by rw [hOb vb hvw]; exact hv)]; simpa using hj)
   (fun j hj => by rw [hWc, block_cell hN, Array.getElem?_eq_getElem (by omega)]; rfl) (fun j hj => by rw [hWf]; exact block_frozen hN _) h1v
 obtain ⟨W2, hW2⟩ : ∃ W2, W2 = W1.setCells w.heap.size (p * 5) vs := ⟨_, rfl⟩
 obtain ⟨ROW2, hN2, hl2⟩ := heap_setCells vs (p * 5) W1 ROW hN (by omega)
 rw [← hW2] at hN2
 have hsz2 : ROW2.size = ROW.size := by
  have := congrArg List.length hl2
  rw [over_length _ _ _ (by simp; omega)] at this
  simpa using this
 have hOb2 : W2.heap[g]? = some (.cells cur 32 (0, 0)) := by rw [hW2, heap_setCells_ne _ _ _ _ (by omega), hOb g hgw]; exact hg
 have hcpB : ∀ (W : World), (∀ x, W.cell? x = W2.cell? x) → (∀ x, W.frozen? x = W2.frozen? x) → ∀ ty dc sc, (Builtin.copy_ #[30, 30] ty #[.slice (some ⟨w.heap.size, (p + 1) * 5, none⟩) (n - p) dc, .slice (some ⟨g, p * 5, none⟩) (n - p) sc]).run Tryz.prog W = .ok (goInt (Nat.min (n - p) (n - p))) (W.setCells w.heap.size ((p + 1) * 5) cs) := fun W hWc hWf ty dc sc =>
  run_copy_wide W _ _ ty 32 5 w.heap.size ((p + 1) * 5) (n - p) dc ⟨g, p * 5, none⟩ (n - p) sc cs (by rw [Tryz.underlying30]) infoJson2 (by rw [hcl]; simp only [Nat.min_def]; split <;> omega)
   (fun j v hj => by
    have hj1 : j < (n - p) * 5 := by
     have := (List.getElem?_eq_some_iff.1 hj).1
     omega
    rw [Addr.add_lit, hWc, block_cell hOb2]
    rw [hget j hj1] at hj
    simpa using hj)
   (fun j hj => by rw [hWc, block_cell hN2, Array.getElem?_eq_getElem (by omega)]; rfl) (fun j hj => by rw [hWf]; exact block_frozen hN2 _) h1s
 have HA := Hd.mk hcpA; have HB := Hd.mk hcpB; have HZ := Hd.mk hrz; have HW1 := Hd.mk hW1; have HW2 := Hd.mk hW2; have HCS := Hd.mk hcsd
 have HRs := Hd.mk hRsz; have HRt := Hd.mk hRtk; have HGn := Hd.mk hGn; have HG63 := Hd.mk hG63
 have hz2' : ¬ ((p : Int) = (n : Int)) := by omega
 have hz3 : (c : Int) < (n : Int) + 1 := by omega
 have mixed : Tryz.prog.follows .mixedOrders = true := by kernel_rfl
 have hb1 : (0 : Int) ≤ (p : Int) + 1 := by omega
 have hin : p ≤ n := by omega
 have hpc : p ≤ c := by omega
 have hb3 : (p : Int) ≤ (n : Int) := by omega
 have hb2 : ¬ (G = p + 1) := by omega
 have hb4 : ¬ (c = p) := by omega
 have hb6 : ¬ (G = p) := by omega
 have hw1 : IntKind.i64.wrap ((p : Int) + 1) = (p : Int) + 1 := by rw [IntKind.wrap_i64]; omega
 have htn : ((p : Int) + 1).toNat = p + 1 := by omega
 have hb5 : (p : Int) + 1 ≤ (n : Int) + 1 := by omega
 have hE1 : ∀ x, ((w.alloc (.cells ROW 32)).drew).cell? x = W1.cell? x := fun x => by rw [hW1]; rfl
 have hE2 : ∀ x, ((w.alloc (.cells ROW 32)).drew).frozen? x = W1.frozen? x := fun x => by rw [hW1]; rfl
 clear hW1 hW2 hcsd hget h1s hcl hg hv h1c h1v hcs hvl hif hz0 hz1 hz2 hold hG hROW hRsz hRtk hN hOb hrz hcpA hcpB hN2 hl2 hsz2 hOb2 hgw hvw
 go_enter Tryz.func65, Tryz.ntmps65
 have hA : ∀ ty dc, (Builtin.copy_ #[30, 30] ty #[.slice (some ⟨w.heap.size, p * 5, none⟩) (n + 1 - p) dc, .slice (some ⟨vb, 0, none⟩) 1 1]).run Tryz.prog W1 = .ok (goInt (Nat.min 1 (n + 1 - p))) W2 := fun ty dc => by rw [HW2.out]; exact HA.out W1 (fun _ => rfl) (fun _ => rfl) ty dc
 go_wp2_with (at_builtin; refine Lib.wpList_append_run _ rfl _ _ _ _ rfl _ _ rfl rfl _ _ (HZ.out _) ?_)
 have hB2 := HB.out W2.drew (fun _ => rfl) (fun _ => rfl)
 go_region
 go_wp2
 go_ret
 refine ⟨G, ROW, HGn.out, HG63.out, HRs.out, HRt.out, rfl, ?_⟩
 rw [HW2.out, HW1.out, HCS.out]
 rfl
theorem ins_get_json {α : Type} (l : List α) (x : α) (p i : Nat) (hp : p ≤ l.length) : (l.take p ++ x :: l.drop p)[i]? = if i < p then l[i]? else if i = p then some x else l[i - 1]? := by
 have h1 : (l.take p).length = p := by simp; omega
 by_cases h : i < p
 ·rw [if_pos h, List.getElem?_append_left (by omega), List.getElem?_take, if_pos h]
 ·rw [if_neg h, List.getElem?_append_right (by omega), h1]
  by_cases h2 : i = p
  ·subst h2
   rw [if_pos rfl, Nat.sub_self]; rfl
  ·rw [if_neg h2, show i - p = (i - p - 1) + 1 by omega, List.getElem?_cons_succ, List.getElem?_drop]
   congr 1; omega
theorem R_inserted_json {m : Nat} {S S' T : Nat → Prop} {w W : World} {g0 g c c' p : Nat} {l : List J} {x : J} {cs : List Value} {cur cur2 : Array Value} {Tp : Nat → Nat → Prop} (hp : p < l.length) (hcl : cs.length = 5)
  (hb : W.heap[g]? = some (.cells cur2 32 (0, 0))) (hg : S' g) (hn : l.length + 1 ≤ c') (hm : c' ≤ 9223372036854775807) (hc : cur2.size = c' * 5)
  (hT : ∀ i b, Tp i b → S b ∧ b ≠ g ∧ b < w.heap.size) (hd : ∀ i j b, Tp i b → Tp j b → i = j) (hO : ∀ i x, l[i]? = some x → (tJ (m + 1)).O w (Tp i) x ((cur.toList.drop (i * 5)).take 5))
  (hx : (tJ (m + 1)).O w T x cs) (hST : ∀ k, T k → ¬ S k) (hTg : ∀ k, T k → k ≠ g) (hS : ∀ k, S k → S' k) (hTS : ∀ k, T k → S' k) (hmv : ∀ k, k < w.heap.size → k ≠ g → W.heap[k]? = w.heap[k]?)
  (h1 : ∀ k, k < p * 5 → cur2.toList[k]? = cur.toList[k]?) (h2 : ∀ k, k < 5 → cur2.toList[p * 5 + k]? = cs[k]?) (h3 : ∀ k, k < (l.length - p) * 5 → cur2.toList[(p + 1) * 5 + k]? = cur.toList[p * 5 + k]?) :
  (tJ (m + 1)).R 32 W S' (.slice (some ⟨g, 0, none⟩) (l.length + 1) c') (l.take p ++ x :: l.drop p) := by
 have hlen : (l.take p ++ x :: l.drop p).length = l.length + 1 := by simp; omega
 have h := R_of_parts (d := (tJ (m + 1))) (e := 32) (w := W) (S := S') (xs := l.take p ++ x :: l.drop p) (cap := c') hb hg (by omega) hm hc (fun i => if i < p then Tp i else if i = p then (fun k => T k ∧ k < w.heap.size) else Tp (i - 1)) (fun i b hi => ?_) (fun i j b hi hj => ?_) (fun i y hy => ?_)
 ·rw [hlen] at h; exact h
 ·by_cases c1 : i < p
  ·simp only [if_pos c1] at hi; exact ⟨hS _ (hT _ _ hi).1, (hT _ _ hi).2.1⟩
  ·by_cases c2 : i = p
   ·simp only [if_neg c1, if_pos c2] at hi; exact ⟨hTS _ hi.1, hTg _ hi.1⟩
   ·simp only [if_neg c1, if_neg c2] at hi; exact ⟨hS _ (hT _ _ hi).1, (hT _ _ hi).2.1⟩
 ·by_cases c1 : i < p <;> by_cases d1 : j < p
  ·simp only [if_pos c1, if_pos d1] at hi hj; exact hd _ _ _ hi hj
  ·by_cases d2 : j = p
   ·simp only [if_pos c1, if_neg d1, if_pos d2] at hi hj; exact absurd (hT _ _ hi).1 (hST _ hj.1)
   ·simp only [if_pos c1, if_neg d1, if_neg d2] at hi hj; have := hd _ _ _ hi hj; omega
  ·by_cases c2 : i = p
   ·simp only [if_neg c1, if_pos c2, if_pos d1] at hi hj; exact absurd (hT _ _ hj).1 (hST _ hi.1)
   ·simp only [if_neg c1, if_neg c2, if_pos d1] at hi hj; have := hd _ _ _ hi hj; omega
  ·by_cases c2 : i = p <;> by_cases d2 : j = p
   ·omega
   ·simp only [if_neg c1, if_pos c2, if_neg d1, if_neg d2] at hi hj; exact absurd (hT _ _ hj).1 (hST _ hi.1)
   ·simp only [if_neg c1, if_neg c2, if_neg d1, if_pos d2] at hi hj; exact absurd (hT _ _ hi).1 (hST _ hj.1)
   ·simp only [if_neg c1, if_neg c2, if_neg d1, if_neg d2] at hi hj; have := hd _ _ _ hi hj; omega
 ·have hil : i < l.length + 1 := by rw [← hlen]; exact (List.getElem?_eq_some_iff.1 hy).1
  rw [ins_get_json _ _ _ _ (by omega)] at hy
  show (tJ (m + 1)).O W _ y ((cur2.toList.drop (i * 5)).take 5)
  by_cases c1 : i < p
  ·rw [if_pos c1] at hy
   simp only [if_pos c1]
   rw [cut_eq cur2.toList cur.toList (i * 5) (i * 5) 5 (fun k hk => h1 _ (by omega))]
   exact (tJ (m + 1)).O_move (fun k hk => hmv k (hT _ _ hk).2.2 (hT _ _ hk).2.1) (hO i y hy)
  ·by_cases c2 : i = p
   ·rw [if_neg c1, if_pos c2] at hy
    injection hy with hy
    subst hy
    simp only [if_neg c1, if_pos c2]
    rw [cut_eq cur2.toList cs (i * 5) 0 5 (fun k hk => by rw [c2, h2 k hk, Nat.zero_add]), List.drop_zero, List.take_of_length_le (by omega)]
    exact (tJ (m + 1)).O_move (fun k hk => hmv k hk.2 (hTg _ hk.1)) ((tJ (m + 1)).O_bound hx)
   ·rw [if_neg c1, if_neg c2] at hy
    simp only [if_neg c1, if_neg c2]
    rw [cut_eq cur2.toList cur.toList (i * 5) ((i - 1) * 5) 5 (fun k hk => by
     have := h3 ((i - 1 - p) * 5 + k) (by omega)
     rw [show (p + 1) * 5 + ((i - 1 - p) * 5 + k) = i * 5 + k by omega, show p * 5 + ((i - 1 - p) * 5 + k) = (i - 1) * 5 + k by omega] at this
     exact this)]
    exact (tJ (m + 1)).O_move (fun k hk => hmv k (hT _ _ hk).2.2 (hT _ _ hk).2.1) (hO (i - 1) y hy)
theorem slices_Insert_json {m : Nat} {S S' T : Nat → Prop} (v : Value) (l : List J) (x : J) (cs : List Value) (vb p : Nat) (w : World) (hR : (tJ (m + 1)).R 32 w S v l) (hp : p ≤ l.length) (hv : w.heap[vb]? = some (.cells cs.toArray 32 (0, 0))) (hO : (tJ (m + 1)).O w T x cs)
  (hST : ∀ k, T k → ¬ S k) (hvS : ¬ S vb) (hS : ∀ k, S k → S' k) (hT : ∀ k, T k → k < w.heap.size ∧ S' k) (hnew : ∀ k, w.heap.size ≤ k → S' k) (hlen : l.length ≤ 4194304) :
  Calls Tryz.prog 65 #[v, .int .i64 p, .slice (some ⟨vb, 0, none⟩) 1 1] w fun e w' => ∃ v', e = .returned v' ∧ (tJ (m + 1)).R 32 w' S' v' (l.take p ++ x :: l.drop p) ∧ Fr w w' S := by
 rcases Nat.lt_or_ge p l.length with hp1 | hp1
 ·obtain ⟨g, c, rfl, _, _⟩ := R_form hR (by omega)
  obtain ⟨cur, Tp, hh, hg, _, hn, hm, hsz, hTp, hd, hE⟩ := R_parts hR
  have hsz : cur.size = c * 5 := hsz
  have hE : ∀ i x, l[i]? = some x → (tJ (m + 1)).O w (Tp i) x ((cur.toList.drop (i * 5)).take 5) := hE
  have hcl : cs.length = 5 := (tJ (m + 1)).K_len ((tJ (m + 1)).O_K hO)
  have hgw : g < w.heap.size := (Array.getElem?_eq_some_iff.1 hh).1
  have hvg : vb ≠ g := fun e => hvS (e ▸ hg)
  have h1c : ∀ k u, k < l.length * 5 → cur.toList[k]? = some u → u.oneCell' = true := fun k u hk hu => parts_one (d := (tJ (m + 1))) (T := Tp) (xs := l) hE hk hu
  have h1v := (tJ (m + 1)).K_one ((tJ (m + 1)).O_K hO)
  have hTg : ∀ k, T k → k ≠ g := fun k hk e => hST k hk (e ▸ hg)
  have hAl : ((cur.toList.drop (p * 5)).take ((l.length - p) * 5)).length = (l.length - p) * 5 := by simp; omega
  by_cases hroom : l.length + 1 ≤ c
  ·refine (slices_Insert_json_shift g c l.length p vb cur cs w hp1 hroom hm hvg hh hsz hv hcl h1c h1v).mono ?_
   rintro e w' ⟨rfl, rfl⟩
   obtain ⟨cur1, hb1, hl1⟩ := heap_setCells ((cur.toList.drop (p * 5)).take ((l.length - p) * 5)) ((p + 1) * 5) w.drew cur hh (by rw [hAl]; omega)
   have hz1 : cur1.size = cur.size := by
    have := congrArg List.length hl1
    rw [over_length _ _ _ (by rw [hAl]; simp; omega)] at this
    simpa using this
   obtain ⟨cur2, hb2, hl2⟩ := heap_setCells cs (p * 5) _ cur1 hb1 (by omega)
   have hz2 : cur2.size = cur1.size := by
    have := congrArg List.length hl2
    rw [over_length _ _ _ (by simp; omega)] at this
    simpa using this
   refine ⟨_, rfl, R_inserted_json (cur := cur) (w := w) (S := S) (T := T) (g0 := g) (c := c) hp1 hcl hb2 (hS _ hg) hroom hm (by omega) hTp hd hE hO hST hTg hS (fun k hk => (hT k hk).2) (fun k hk hne => ?_) (fun k hk => ?_) (fun k hk => ?_) (fun k hk => ?_), ?_⟩
   ·rw [heap_setCells_ne _ _ _ _ hne, heap_setCells_ne _ _ _ _ hne]; rfl
   ·rw [hl2, over_get _ _ _ (by simp; omega), if_neg (by omega), hl1, over_get _ _ _ (by rw [hAl]; simp; omega), if_neg (by omega)]
   ·rw [hl2, over_get _ _ _ (by simp; omega), if_pos (by omega)]; congr 1; omega
   ·rw [hl2, over_get _ _ _ (by simp; omega), if_neg (by omega), hl1, over_get _ _ _ (by rw [hAl]; simp; omega), if_pos (by rw [hAl]; omega), List.getElem?_take, if_pos (by omega), List.getElem?_drop]
    congr 1; omega
   ·exact setCells_fr (fun _ => hg) _ _ _ (setCells_fr (fun _ => hg) _ _ _ (Fr.refl w S).drew)
  ·refine (slices_Insert_json_grow g c l.length p vb cur cs w hp1 hn (by omega) hlen hh hsz hv hcl h1c h1v).mono ?_
   rintro e w' ⟨G, ROW, hG, hG63, hRs, hRt, rfl, rfl⟩
   have hbA : ((w.alloc (.cells ROW 32)).drew).heap[w.heap.size]? = some (.cells ROW 32 (0, 0)) := heap_alloc_new w _
   obtain ⟨cur1, hb1, hl1⟩ := heap_setCells cs (p * 5) _ ROW hbA (by omega)
   have hz1 : cur1.size = ROW.size := by
    have := congrArg List.length hl1
    rw [over_length _ _ _ (by simp; omega)] at this
    simpa using this
   obtain ⟨cur2, hb2, hl2⟩ := heap_setCells ((cur.toList.drop (p * 5)).take ((l.length - p) * 5)) ((p + 1) * 5) (((w.alloc (.cells ROW 32)).drew.setCells w.heap.size (p * 5) cs).drew) cur1 hb1 (by rw [hAl]; omega)
   have hz2 : cur2.size = cur1.size := by
    have := congrArg List.length hl2
    rw [over_length _ _ _ (by rw [hAl]; simp; omega)] at this
    simpa using this
   refine ⟨_, rfl, R_inserted_json (cur := cur) (w := w) (S := S) (T := T) (g0 := g) (c := c) hp1 hcl hb2 (hnew _ (Nat.le_refl _)) hG hG63 (by omega) (fun i b hb => ⟨(hTp i b hb).1, by have := (hTp i b hb).2.2; omega, (hTp i b hb).2.2⟩) hd hE hO hST (fun k hk => by have := (hT k hk).1; omega) hS (fun k hk => (hT k hk).2) (fun k hk hne => ?_) (fun k hk => ?_) (fun k hk => ?_) (fun k hk => ?_), ?_⟩
   ·rw [heap_setCells_ne _ _ _ _ hne]
    show ((w.alloc (.cells ROW 32)).drew.setCells w.heap.size (p * 5) cs).heap[k]? = _
    rw [heap_setCells_ne _ _ _ _ hne]
    exact (below_alloc (Below.refl w.heap.size w) _).block k hk
   ·rw [hl2, over_get _ _ _ (by rw [hAl]; simp; omega), if_neg (by omega), hl1, over_get _ _ _ (by simp; omega), if_neg (by omega)]
    have := congrArg (fun z : List Value => z[k]?) hRt
    simpa [List.getElem?_take, hk] using this
   ·rw [hl2, over_get _ _ _ (by rw [hAl]; simp; omega), if_neg (by omega), hl1, over_get _ _ _ (by simp; omega), if_pos (by omega)]; congr 1; omega
   ·rw [hl2, over_get _ _ _ (by rw [hAl]; simp; omega), if_pos (by rw [hAl]; omega), List.getElem?_take, if_pos (by omega), List.getElem?_drop]
    congr 1; omega
   ·refine setCells_fr (fun h => absurd h (Nat.lt_irrefl _)) _ _ _ (Fr.drew (setCells_fr (fun h => absurd h (Nat.lt_irrefl _)) _ _ _ (((Fr.refl w S).alloc _).drew)))
 ·obtain rfl : p = l.length := by omega
  refine (slices_Insert_json_end (S' := S') v l x cs vb w hR hv hO hST hS (fun k hk => (hT k hk).2) hnew hlen).mono ?_
  rintro e w' ⟨v', rfl, h1, h2⟩
  exact ⟨v', rfl, by rw [List.take_length, List.drop_length]; exact h1, h2⟩
theorem sizeStr : ∀ w, (Go.sizeOf 9).run Tryz.prog w = .ok 1 w := fun w => by
 obtain ⟨i0, hi, hzz⟩ := Option.map_eq_some_iff.1 info_str
 simp only [Prod.mk.injEq] at hzz
 simp [Go.sizeOf, typeInfo, hi, hzz.2.1]
theorem infoStr2 : (Tryz.prog.info? 9).map (·.size) = some 1 := by kernel_rfl
set_option maxHeartbeats 4000000 in
set_option maxRecDepth 100000 in
theorem slices_Insert_str_shift (g c n p vb : Nat) (cur : Array Value) (vs : List Value) (w : World) (hp : p < n) (hroom : n + 1 ≤ c) (hc63 : c ≤ 9223372036854775807) (hvb : vb ≠ g)
  (hg : w.heap[g]? = some (.cells cur 9 (0, 0))) (hcs : cur.size = c * 1) (hv : w.heap[vb]? = some (.cells vs.toArray 9 (0, 0))) (hvl : vs.length = 1)
  (h1c : ∀ k u, k < n * 1 → cur.toList[k]? = some u → u.oneCell' = true) (h1v : ∀ v ∈ vs, v.oneCell' = true) :
  Calls Tryz.prog 64 #[.slice (some ⟨g, 0, none⟩) n c, .int .i64 p, .slice (some ⟨vb, 0, none⟩) 1 1] w fun e w' =>
   e = .returned (.slice (some ⟨g, 0, none⟩) (n + 1) c) ∧ w' = (w.drew.setCells g ((p + 1) * 1) ((cur.toList.drop (p * 1)).take ((n - p) * 1))).setCells g (p * 1) vs := by
 obtain ⟨cs, hcsd⟩ : ∃ cs, cs = (cur.toList.drop (p * 1)).take ((n - p) * 1) := ⟨_, rfl⟩
 have hcl : cs.length = (n - p) * 1 := by rw [hcsd]; simp; omega
 have hget : ∀ t, t < (n - p) * 1 → cs[t]? = cur.toList[p * 1 + t]? := fun t ht => by rw [hcsd, List.getElem?_take, if_pos ht, List.getElem?_drop]
 have h1s : ∀ u ∈ cs, u.oneCell' = true := fun u hu => by
  obtain ⟨t, ht⟩ := List.mem_iff_getElem?.1 hu
  have ht1 : t < (n - p) * 1 := by
   have := (List.getElem?_eq_some_iff.1 ht).1
   omega
  rw [hget t ht1] at ht
  exact h1c (p * 1 + t) u (by omega) ht
 have hov : ∀ lb cb, (callFunc 78 #[.slice (some ⟨vb, 0, none⟩) 1 1, .slice (some ⟨g, (p + 1) * 1, none⟩) lb cb]).run Tryz.prog w = .ok (.value (.bool false)) w := fun lb cb => by
  rw [run_callFunc_extern Tryz.func78 (by kernel_rfl) (by kernel_rfl) (by kernel_rfl) (e := Extern.SlicesOverlaps.overlaps #[23, 23] #[4]) (by kernel_rfl),
   Lib.run_overlaps_apart w 23 4 9 (by rw [Tryz.underlying23]) 1 sizeStr ⟨vb, 0, none⟩ ⟨g, (p + 1) * 1, none⟩ 1 1 lb cb hvb 9 9 vs.toArray.size cur.size (by simp [World.shape?, hv]) (by simp [World.shape?, hg]) (by omega) (by simp [World.frozen?, hv]) (by simp [World.frozen?, hv])]
  rfl
 have hcp1 : ∀ ty dc sc, (Builtin.copy_ #[23, 23] ty #[.slice (some ⟨g, (p + 1) * 1, none⟩) (n - p) dc, .slice (some ⟨g, p * 1, none⟩) (n + 1 - p) sc]).run Tryz.prog w.drew = .ok (goInt (Nat.min (n + 1 - p) (n - p))) (w.drew.setCells g ((p + 1) * 1) cs) := fun ty dc sc =>
  run_copy_wide w.drew _ _ ty 9 1 g ((p + 1) * 1) (n - p) dc ⟨g, p * 1, none⟩ (n + 1 - p) sc cs (by rw [Tryz.underlying23]) infoStr2 (by rw [hcl]; simp only [Nat.min_def]; split <;> omega)
   (fun j v hj => by
    have hj1 : j < (n - p) * 1 := by
     have := (List.getElem?_eq_some_iff.1 hj).1
     omega
    rw [Addr.add_lit]
    show w.cell? _ = _
    rw [block_cell hg]
    rw [hget j hj1] at hj
    simpa using hj)
   (fun j hj => by
    show (w.cell? _).isSome = true
    rw [block_cell hg, Array.getElem?_eq_getElem (by omega)]; rfl) (fun j hj => block_frozen hg _) h1s
 obtain ⟨W1, hW1⟩ : ∃ W1, W1 = w.drew.setCells g ((p + 1) * 1) cs := ⟨_, rfl⟩
 obtain ⟨cur1, hg1, hl1⟩ := heap_setCells cs ((p + 1) * 1) w.drew cur hg (by omega)
 rw [← hW1] at hg1
 have hs1 : cur1.size = cur.size := by
  have := congrArg List.length hl1
  rw [over_length _ _ _ (by simp; omega)] at this
  simpa using this
 have hv1 : W1.heap[vb]? = some (.cells vs.toArray 9 (0, 0)) := by rw [hW1, heap_setCells_ne _ _ _ _ hvb]; exact hv
 have hcp2 : ∀ (W : World), (∀ x, W.cell? x = W1.cell? x) → (∀ x, W.frozen? x = W1.frozen? x) → ∀ ty dc, (Builtin.copy_ #[23, 23] ty #[.slice (some ⟨g, p * 1, none⟩) (n + 1 - p) dc, .slice (some ⟨vb, 0, none⟩) 1 1]).run Tryz.prog W = .ok (goInt (Nat.min 1 (n + 1 - p))) (W.setCells g (p * 1) vs) := fun W hWc hWf ty dc =>
  run_copy_wide W _ _ ty 9 1 g (p * 1) (n + 1 - p) dc ⟨vb, 0, none⟩ 1 1 vs (by rw [Tryz.underlying23]) infoStr2 (by rw [hvl]; simp only [Nat.min_def]; split <;> omega)
   (fun j v hj => by rw [add0, hWc, block_cell hv1]; simpa using hj)
   (fun j hj => by rw [hWc, block_cell hg1, Array.getElem?_eq_getElem (by omega)]; rfl) (fun j hj => by rw [hWf]; exact block_frozen hg1 _) h1v
 simp only [Nat.mul_one] at hcp2
 have hcp1' := Hd.mk hcp1; have hcp2' := Hd.mk hcp2
 rw [← hW1] at hcp1
 simp only [Nat.mul_one] at hcp1 hov
 have HW1 := Hd.mk hW1; have HCS := Hd.mk hcsd
 have hz2 : ¬ ((p : Int) = (n : Int)) := by omega
 have mixed : Tryz.prog.follows .mixedOrders = true := by kernel_rfl
 have hb1 : (0 : Int) ≤ (p : Int) + 1 := by omega
 have hin : p ≤ n := by omega
 have hpc : p ≤ c := by omega
 have hb3 : (p : Int) ≤ (n : Int) + 1 := by omega
 have hb2 : ¬ (c = p + 1) := by omega
 have hw1 : IntKind.i64.wrap ((p : Int) + 1) = (p : Int) + 1 := by rw [IntKind.wrap_i64]; omega
 have htn : ((p : Int) + 1).toNat = p + 1 := by omega
 have hb5 : (p : Int) + 1 ≤ (n : Int) + 1 := by omega
 have hb4 : ¬ (c = p) := by omega
 clear hW1 hcsd hg1 hl1 hs1 hv1 hget h1s hcl hg hv hcp1' h1c h1v hcs hvl
 go_enter Tryz.func64, Tryz.ntmps64
 go_wp2_with (simp only [hov])
 go_region_law_o (refine step_copy_runJ rfl _ _ 23 23 rfl _ _ (by simp [Act.eval, Act.put]) (by simp [Act.eval, Act.put]) (hcp1 _ _ _) ?_)
 go_wp2_with (at_builtin; refine wpList_copy_runJ _ rfl _ _ 23 23 rfl _ _ rfl rfl (hcp2'.out _ (fun _ => rfl) (fun _ => rfl) _ _) ?_)
 go_ret
 first | exact ⟨rfl, by rw [HW1.out, HCS.out, Nat.mul_one p]⟩ | exact ⟨rfl, by rw [← HCS.out, ← HW1.out, Nat.mul_one p]⟩
set_option maxHeartbeats 4000000 in
set_option maxRecDepth 100000 in
theorem slices_Insert_str_end {S S' T : Nat → Prop} (v : Value) (l : List ByteArray) (x : ByteArray) (cs : List Value) (vb : Nat) (w : World) (hR : str.R 9 w S v l) (hv : w.heap[vb]? = some (.cells cs.toArray 9 (0, 0))) (hO : str.O w T x cs)
  (hST : ∀ k, T k → ¬ S k) (hS : ∀ k, S k → S' k) (hT : ∀ k, T k → S' k) (hnew : ∀ k, w.heap.size ≤ k → S' k) (hlen : l.length ≤ 4194304) :
  Calls Tryz.prog 64 #[v, .int .i64 l.length, .slice (some ⟨vb, 0, none⟩) 1 1] w fun e w' => ∃ v', e = .returned v' ∧ str.R 9 w' S' v' (l ++ [x]) ∧ Fr w w' S := by
 have hcl : cs.length = 1 := str.K_len (str.O_K hO)
 have HR := Hd.mk hR
 have HO := Hd.mk hO; have HST := Hd.mk hST
 have hc : Hd (∀ j u, cs[j]? = some u → ∃ ad, (some (⟨vb, 0, none⟩ : Addr)) = some ad ∧ w.cell? (ad.add j) = some u) := ⟨fun j u hu => ⟨_, rfl, by rw [add0, block_cell hv]; simpa using hu⟩⟩
 have H1 := Hd.mk (str.K_one (str.O_K hO))
 have HOO : Hd (∀ i y, [x][i]? = some y → str.O w ((fun i k => i = 0 ∧ T k) i) y ((cs.drop (i * str.sz)).take str.sz)) := ⟨fun i y hi => by
  rcases i with _ | i
  ·simp at hi
   subst hi
   have he : (cs.drop (0 * str.sz)).take str.sz = cs := by rw [Nat.zero_mul, List.drop_zero, List.take_of_length_le (by rw [hcl]; exact Nat.le_refl 1)]
   rw [he]
   exact str.O_mono (fun k hk => ⟨rfl, hk⟩) hO
  ·simp at hi⟩
 have HL := Hd.mk (show cs.length = 1 * str.sz from hcl)
 have hform : (v = .slice none 0 0 ∧ l.length = 0) ∨ ∃ g c, v = .slice (some ⟨g, 0, none⟩) l.length c ∧ l.length ≤ c ∧ c ≤ 9223372036854775807 := by
  obtain ⟨inner, f, ⟨_, ho⟩, _, _⟩ := hR
  rcases ho with ⟨h1, h2⟩ | ⟨g, cap, cur, h1, _, _, h2, h3, _⟩
  ·exact .inl ⟨h1, h2⟩
  ·simp only [maxLen] at h3
   exact .inr ⟨g, cap, h1, h2, by omega⟩
 clear hR hv hO hcl
 rcases hform with ⟨rfl, h0⟩ | ⟨g, c, rfl, h1, h2⟩
 ·obtain rfl : l = [] := List.eq_nil_of_length_eq_zero h0
  go_enter Tryz.func64, Tryz.ntmps64
  go_wp2_with (at_builtin; refine append_gen str rfl _ _ 23 9 (.string ByteArray.empty) 16 rfl Tryz.underlying23 info_str rfl (show 0 < 1 by decide) (by decide) (S := S) (S' := S') (v := .slice none 0 0) (xs := []) (ys := [x]) (fun i k => i = 0 ∧ T k) (some ⟨vb, 0, none⟩) 1 1 cs rfl rfl HR.out rfl HL.out hc.out H1.out HOO.out (fun i j k h1 h2 => by rw [h1.1, h2.1]) (fun i k h => HST.out k h.2) hS (fun i k h => hT k h.2) hnew (by simp) (fun v1 w1 hv1 hf1 => ?_))
  go_wp2_with fail
  go_ret
  exact ⟨_, rfl, hv1, hf1⟩
 ·go_enter Tryz.func64, Tryz.ntmps64
  go_wp2_with (at_builtin; refine append_gen str rfl _ _ 23 9 (.string ByteArray.empty) 16 rfl Tryz.underlying23 info_str rfl (show 0 < 1 by decide) (by decide) (S := S) (S' := S') (v := .slice (some ⟨g, 0, none⟩) l.length c) (xs := l) (ys := [x]) (fun i k => i = 0 ∧ T k) (some ⟨vb, 0, none⟩) 1 1 cs rfl rfl HR.out rfl HL.out hc.out H1.out HOO.out (fun i j k h1 h2 => by rw [h1.1, h2.1]) (fun i k h => HST.out k h.2) hS (fun i k h => hT k h.2) hnew (by omega) (fun v1 w1 hv1 hf1 => ?_))
  all_goals (try go_wp2_with fail)
  all_goals (go_ret; exact ⟨_, rfl, hv1, hf1⟩)
set_option maxHeartbeats 4000000 in
set_option maxRecDepth 100000 in
theorem slices_Insert_str_grow (g c n p vb : Nat) (cur : Array Value) (vs : List Value) (w : World) (hp : p < n) (hnc : n ≤ c) (hroom : c < n + 1) (hbig : n ≤ 4194304)
  (hg : w.heap[g]? = some (.cells cur 9 (0, 0))) (hcs : cur.size = c * 1) (hv : w.heap[vb]? = some (.cells vs.toArray 9 (0, 0))) (hvl : vs.length = 1)
  (h1c : ∀ k u, k < n * 1 → cur.toList[k]? = some u → u.oneCell' = true) (h1v : ∀ v ∈ vs, v.oneCell' = true) :
  Calls Tryz.prog 64 #[.slice (some ⟨g, 0, none⟩) n c, .int .i64 p, .slice (some ⟨vb, 0, none⟩) 1 1] w fun e w' =>
   ∃ (G : Nat) (ROW : Array Value), n + 1 ≤ G ∧ G ≤ 9223372036854775807 ∧ ROW.size = G * 1 ∧ ROW.toList.take (p * 1) = cur.toList.take (p * 1) ∧
   e = .returned (.slice (some ⟨w.heap.size, 0, none⟩) (n + 1) G) ∧ w' = (((w.alloc (.cells ROW 9)).drew.setCells w.heap.size (p * 1) vs).drew).setCells w.heap.size ((p + 1) * 1) ((cur.toList.drop (p * 1)).take ((n - p) * 1)) := by
 obtain ⟨cs, hcsd⟩ : ∃ cs, cs = (cur.toList.drop (p * 1)).take ((n - p) * 1) := ⟨_, rfl⟩
 have hcl : cs.length = (n - p) * 1 := by rw [hcsd]; simp; omega
 have hget : ∀ t, t < (n - p) * 1 → cs[t]? = cur.toList[p * 1 + t]? := fun t ht => by rw [hcsd, List.getElem?_take, if_pos ht, List.getElem?_drop]
 have h1s : ∀ u ∈ cs, u.oneCell' = true := fun u hu => by
  obtain ⟨t, ht⟩ := List.mem_iff_getElem?.1 hu
  have ht1 : t < (n - p) * 1 := by
   have := (List.getElem?_eq_some_iff.1 ht).1
   omega
  rw [hget t ht1] at ht
  exact h1c (p * 1 + t) u (by omega) ht
 have hgw : g < w.heap.size := (Array.getElem?_eq_some_iff.1 hg).1
 have hvw : vb < w.heap.size := (Array.getElem?_eq_some_iff.1 hv).1
 obtain ⟨i0, hif, hzz⟩ := Option.map_eq_some_iff.1 info_str
 simp only [Prod.mk.injEq] at hzz
 obtain ⟨hz0, hz1, hz2⟩ := hzz
 have hold : (Builtin.firstCells i0.size p (.slice (some ⟨g, 0, none⟩) p c)).run Tryz.prog w.drew = .ok (cur.toList.take (p * 1)).toArray w.drew := by
  rw [hz1]
  exact run_firstCells_some w.drew 1 p ⟨g, 0, none⟩ p c (cur.toList.take (p * 1)) (by simp; omega) (fun j v hj => by
   rw [add0]
   show w.cell? _ = _
   rw [block_cell hg]
   rw [List.getElem?_take] at hj
   split at hj
   ·simpa using hj
   ·cases hj)
 obtain ⟨G, hG⟩ : ∃ G, G = grownCap w (n + 1) c 9 := ⟨_, rfl⟩
 obtain ⟨ROW, hROW⟩ : ∃ ROW : Array Value, ROW = (cur.toList.take (p * 1)).toArray ++ Builtin.zeroCells (Value.string ByteArray.empty).cells (n + 1 - p) ++ Builtin.zeroCells (Value.string ByteArray.empty).cells (G - (n + 1)) := ⟨_, rfl⟩
 have hGn : n + 1 ≤ G := by rw [hG]; exact grownCap_ge w _ _ _
 have hG63 : G ≤ 9223372036854775807 := by
  have := grownCap_le_maxLen w (n + 1) c 9 (by unfold maxLen; omega)
  rw [← hG] at this
  unfold maxLen at this
  omega
 have hRsz : ROW.size = G * 1 := by
  rw [hROW]
  simp [Builtin.zeroCells, Value.cells]
  omega
 have hRtk : ROW.toList.take (p * 1) = cur.toList.take (p * 1) := by
  rw [hROW]
  simp only [Array.toList_append, List.append_assoc]
  rw [List.take_append_of_le_length (by simp; omega), List.take_of_length_le (by simp; omega)]
 have hrz : ∀ ty, (Builtin.append_ #[23, 3] ty #[.slice (some ⟨g, 0, none⟩) p c, .int .i64 ((n : Int) + 1 - (p : Int))]).run Tryz.prog w =
   .ok (.slice (some ⟨w.heap.size, 0, none⟩) (n + 1) G) (w.drew.alloc (.cells ROW 9)) := fun ty => by
  have h := Lib.run_append_grow_zeros (P := Tryz.prog) w 23 3 ty 9 i0 _ .i64 .i64 (by rw [Tryz.underlying23]) (by rw [Tryz.underlying3]) hif hz0 (some ⟨g, 0, none⟩) p c (cur.toList.take (p * 1)) hold (n + 1 - p) (by omega) (by omega) (by omega) (by omega) (by rw [hz2]; omega) (by rw [hz2, show p + (n + 1 - p) = n + 1 by omega]; exact growslice_fits hroom (by omega))
  rw [show p + (n + 1 - p) = n + 1 by omega, ← hG, ← hROW] at h
  rw [show (n : Int) + 1 - (p : Int) = ((n + 1 - p : Nat) : Int) by omega]
  exact h
 obtain ⟨W1, hW1⟩ : ∃ W1, W1 = w.drew.alloc (.cells ROW 9) := ⟨_, rfl⟩
 have hN : W1.heap[w.heap.size]? = some (.cells ROW 9 (0, 0)) := by rw [hW1]; exact heap_alloc_new w.drew _
 have hOb : ∀ k, k < w.heap.size → W1.heap[k]? = w.heap[k]? := fun k hk => by rw [hW1]; exact (below_alloc (Below.refl w.drew.heap.size w.drew) _).block k hk
 rw [← hW1] at hrz
 have hcpA : ∀ (W : World), (∀ x, W.cell? x = W1.cell? x) → (∀ x, W.frozen? x = W1.frozen? x) → ∀ ty dc, (Builtin.copy_ #[23, 23] ty #[.slice (some ⟨w.heap.size, p * 1, none⟩) (n + 1 - p) dc, .slice (some ⟨vb, 0, none⟩) 1 1]).run Tryz.prog W = .ok (goInt (Nat.min 1 (n + 1 - p))) (W.setCells w.heap.size (p * 1) vs) := fun W hWc hWf ty dc =>
  run_copy_wide W _ _ ty 9 1 w.heap.size (p * 1) (n + 1 - p) dc ⟨vb, 0, none⟩ 1 1 vs (by rw [Tryz.underlying23]) infoStr2 (by rw [hvl]; simp only [Nat.min_def]; split <;> omega)
   (fun j v hj => by rw [add0, hWc, block_cell (by rw [hOb vb hvw]; exact hv)]; simpa using hj)
   (fun j hj => by rw [hWc, block_cell hN, Array.getElem?_eq_getElem (by omega)]; rfl) (fun j hj => by rw [hWf]; exact block_frozen hN _) h1v
 obtain ⟨W2, hW2⟩ : ∃ W2, W2 = W1.setCells w.heap.size (p * 1) vs := ⟨_, rfl⟩
 obtain ⟨ROW2, hN2, hl2⟩ := heap_setCells vs (p * 1) W1 ROW hN (by omega)
 rw [← hW2] at hN2
 have hsz2 : ROW2.size = ROW.size := by
  have := congrArg List.length hl2
  rw [over_length _ _ _ (by simp; omega)] at this
  simpa using this
 have hOb2 : W2.heap[g]? = some (.cells cur 9 (0, 0)) := by rw [hW2, heap_setCells_ne _ _ _ _ (by omega), hOb g hgw]; exact hg
 have hcpB : ∀ (W : World), (∀ x, W.cell? x = W2.cell? x) → (∀ x, W.frozen? x = W2.frozen? x) → ∀ ty dc sc, (Builtin.copy_ #[23, 23] ty #[.slice (some ⟨w.heap.size, (p + 1) * 1, none⟩) (n - p) dc, .slice (some ⟨g, p * 1, none⟩) (n - p) sc]).run Tryz.prog W = .ok (goInt (Nat.min (n - p) (n - p))) (W.setCells w.heap.size ((p + 1) * 1) cs) := fun W hWc hWf ty dc sc =>
  run_copy_wide W _ _ ty 9 1 w.heap.size ((p + 1) * 1) (n - p) dc ⟨g, p * 1, none⟩ (n - p) sc cs (by rw [Tryz.underlying23]) infoStr2 (by rw [hcl]; simp only [Nat.min_def]; split <;> omega)
   (fun j v hj => by
    have hj1 : j < (n - p) * 1 := by
     have := (List.getElem?_eq_some_iff.1 hj).1
     omega
    rw [Addr.add_lit, hWc, block_cell hOb2]
    rw [hget j hj1] at hj
    simpa using hj)
   (fun j hj => by rw [hWc, block_cell hN2, Array.getElem?_eq_getElem (by omega)]; rfl) (fun j hj => by rw [hWf]; exact block_frozen hN2 _) h1s
 have HA := Hd.mk hcpA; have HB := Hd.mk hcpB; have HZ := Hd.mk hrz; have HW1 := Hd.mk hW1; have HW2 := Hd.mk hW2; have HCS := Hd.mk hcsd
 have HRs := Hd.mk hRsz; have HRt := Hd.mk hRtk; have HGn := Hd.mk hGn; have HG63 := Hd.mk hG63
 have hz2' : ¬ ((p : Int) = (n : Int)) := by omega
 have hz3 : (c : Int) < (n : Int) + 1 := by omega
 have mixed : Tryz.prog.follows .mixedOrders = true := by kernel_rfl
 have hb1 : (0 : Int) ≤ (p : Int) + 1 := by omega
 have hin : p ≤ n := by omega
 have hpc : p ≤ c := by omega
 have hb3 : (p : Int) ≤ (n : Int) := by omega
 have hb2 : ¬ (G = p + 1) := by omega
 have hb4 : ¬ (c = p) := by omega
 have hb6 : ¬ (G = p) := by omega
 have hw1 : IntKind.i64.wrap ((p : Int) + 1) = (p : Int) + 1 := by rw [IntKind.wrap_i64]; omega
 have htn : ((p : Int) + 1).toNat = p + 1 := by omega
 have hb5 : (p : Int) + 1 ≤ (n : Int) + 1 := by omega
 have hE1 : ∀ x, ((w.alloc (.cells ROW 9)).drew).cell? x = W1.cell? x := fun x => by rw [hW1]; rfl
 have hE2 : ∀ x, ((w.alloc (.cells ROW 9)).drew).frozen? x = W1.frozen? x := fun x => by rw [hW1]; rfl
 clear hW1 hW2 hcsd hget h1s hcl hg hv h1c h1v hcs hvl hif hz0 hz1 hz2 hold hG hROW hRsz hRtk hN hOb hrz hcpA hcpB hN2 hl2 hsz2 hOb2 hgw hvw
 go_enter Tryz.func64, Tryz.ntmps64
 have hA : ∀ ty dc, (Builtin.copy_ #[23, 23] ty #[.slice (some ⟨w.heap.size, p * 1, none⟩) (n + 1 - p) dc, .slice (some ⟨vb, 0, none⟩) 1 1]).run Tryz.prog W1 = .ok (goInt (Nat.min 1 (n + 1 - p))) W2 := fun ty dc => by rw [HW2.out]; exact HA.out W1 (fun _ => rfl) (fun _ => rfl) ty dc
 simp only [Nat.mul_one] at hA
 go_wp2_with (at_builtin; refine Lib.wpList_append_run _ rfl _ _ _ _ rfl _ _ rfl rfl _ _ (HZ.out _) ?_)
 have hB2 := HB.out W2.drew (fun _ => rfl) (fun _ => rfl)
 simp only [Nat.mul_one] at hB2
 go_region
 go_wp2
 go_ret
 refine ⟨G, ROW, HGn.out, HG63.out, HRs.out, HRt.out, rfl, ?_⟩
 rw [HW2.out, HW1.out, HCS.out]
 first | rfl | (simp only [Nat.mul_one]; rfl) | simp only [Nat.mul_one]
theorem ins_get_str {α : Type} (l : List α) (x : α) (p i : Nat) (hp : p ≤ l.length) : (l.take p ++ x :: l.drop p)[i]? = if i < p then l[i]? else if i = p then some x else l[i - 1]? := by
 have h1 : (l.take p).length = p := by simp; omega
 by_cases h : i < p
 ·rw [if_pos h, List.getElem?_append_left (by omega), List.getElem?_take, if_pos h]
 ·rw [if_neg h, List.getElem?_append_right (by omega), h1]
  by_cases h2 : i = p
  ·subst h2
   rw [if_pos rfl, Nat.sub_self]; rfl
  ·rw [if_neg h2, show i - p = (i - p - 1) + 1 by omega, List.getElem?_cons_succ, List.getElem?_drop]
   congr 1; omega
theorem R_inserted_str {S S' T : Nat → Prop} {w W : World} {g0 g c c' p : Nat} {l : List ByteArray} {x : ByteArray} {cs : List Value} {cur cur2 : Array Value} {Tp : Nat → Nat → Prop} (hp : p < l.length) (hcl : cs.length = 1)
  (hb : W.heap[g]? = some (.cells cur2 9 (0, 0))) (hg : S' g) (hn : l.length + 1 ≤ c') (hm : c' ≤ 9223372036854775807) (hc : cur2.size = c' * 1)
  (hT : ∀ i b, Tp i b → S b ∧ b ≠ g ∧ b < w.heap.size) (hd : ∀ i j b, Tp i b → Tp j b → i = j) (hO : ∀ i x, l[i]? = some x → str.O w (Tp i) x ((cur.toList.drop (i * 1)).take 1))
  (hx : str.O w T x cs) (hST : ∀ k, T k → ¬ S k) (hTg : ∀ k, T k → k ≠ g) (hS : ∀ k, S k → S' k) (hTS : ∀ k, T k → S' k) (hmv : ∀ k, k < w.heap.size → k ≠ g → W.heap[k]? = w.heap[k]?)
  (h1 : ∀ k, k < p * 1 → cur2.toList[k]? = cur.toList[k]?) (h2 : ∀ k, k < 1 → cur2.toList[p * 1 + k]? = cs[k]?) (h3 : ∀ k, k < (l.length - p) * 1 → cur2.toList[(p + 1) * 1 + k]? = cur.toList[p * 1 + k]?) :
  str.R 9 W S' (.slice (some ⟨g, 0, none⟩) (l.length + 1) c') (l.take p ++ x :: l.drop p) := by
 have hlen : (l.take p ++ x :: l.drop p).length = l.length + 1 := by simp; omega
 have h := R_of_parts (d := str) (e := 9) (w := W) (S := S') (xs := l.take p ++ x :: l.drop p) (cap := c') hb hg (by omega) hm hc (fun i => if i < p then Tp i else if i = p then (fun k => T k ∧ k < w.heap.size) else Tp (i - 1)) (fun i b hi => ?_) (fun i j b hi hj => ?_) (fun i y hy => ?_)
 ·rw [hlen] at h; exact h
 ·by_cases c1 : i < p
  ·simp only [if_pos c1] at hi; exact ⟨hS _ (hT _ _ hi).1, (hT _ _ hi).2.1⟩
  ·by_cases c2 : i = p
   ·simp only [if_neg c1, if_pos c2] at hi; exact ⟨hTS _ hi.1, hTg _ hi.1⟩
   ·simp only [if_neg c1, if_neg c2] at hi; exact ⟨hS _ (hT _ _ hi).1, (hT _ _ hi).2.1⟩
 ·by_cases c1 : i < p <;> by_cases d1 : j < p
  ·simp only [if_pos c1, if_pos d1] at hi hj; exact hd _ _ _ hi hj
  ·by_cases d2 : j = p
   ·simp only [if_pos c1, if_neg d1, if_pos d2] at hi hj; exact absurd (hT _ _ hi).1 (hST _ hj.1)
   ·simp only [if_pos c1, if_neg d1, if_neg d2] at hi hj; have := hd _ _ _ hi hj; omega
  ·by_cases c2 : i = p
   ·simp only [if_neg c1, if_pos c2, if_pos d1] at hi hj; exact absurd (hT _ _ hj).1 (hST _ hi.1)
   ·simp only [if_neg c1, if_neg c2, if_pos d1] at hi hj; have := hd _ _ _ hi hj; omega
  ·by_cases c2 : i = p <;> by_cases d2 : j = p
   ·omega
   ·simp only [if_neg c1, if_pos c2, if_neg d1, if_neg d2] at hi hj; exact absurd (hT _ _ hj).1 (hST _ hi.1)
   ·simp only [if_neg c1, if_neg c2, if_neg d1, if_pos d2] at hi hj; exact absurd (hT _ _ hi).1 (hST _ hj.1)
   ·simp only [if_neg c1, if_neg c2, if_neg d1, if_neg d2] at hi hj; have := hd _ _ _ hi hj; omega
 ·have hil : i < l.length + 1 := by rw [← hlen]; exact (List.getElem?_eq_some_iff.1 hy).1
  rw [ins_get_str _ _ _ _ (by omega)] at hy
  show str.O W _ y ((cur2.toList.drop (i * 1)).take 1)
  by_cases c1 : i < p
  ·rw [if_pos c1] at hy
   simp only [if_pos c1]
   rw [cut_eq cur2.toList cur.toList (i * 1) (i * 1) 1 (fun k hk => h1 _ (by omega))]
   exact str.O_move (fun k hk => hmv k (hT _ _ hk).2.2 (hT _ _ hk).2.1) (hO i y hy)
  ·by_cases c2 : i = p
   ·rw [if_neg c1, if_pos c2] at hy
    injection hy with hy
    subst hy
    simp only [if_neg c1, if_pos c2]
    rw [cut_eq cur2.toList cs (i * 1) 0 1 (fun k hk => by rw [c2, h2 k hk, Nat.zero_add]), List.drop_zero, List.take_of_length_le (by omega)]
    exact str.O_move (fun k hk => hmv k hk.2 (hTg _ hk.1)) (str.O_bound hx)
   ·rw [if_neg c1, if_neg c2] at hy
    simp only [if_neg c1, if_neg c2]
    rw [cut_eq cur2.toList cur.toList (i * 1) ((i - 1) * 1) 1 (fun k hk => by
     have := h3 ((i - 1 - p) * 1 + k) (by omega)
     rw [show (p + 1) * 1 + ((i - 1 - p) * 1 + k) = i * 1 + k by omega, show p * 1 + ((i - 1 - p) * 1 + k) = (i - 1) * 1 + k by omega] at this
     exact this)]
    exact str.O_move (fun k hk => hmv k (hT _ _ hk).2.2 (hT _ _ hk).2.1) (hO (i - 1) y hy)
theorem slices_Insert_str {S S' T : Nat → Prop} (v : Value) (l : List ByteArray) (x : ByteArray) (cs : List Value) (vb p : Nat) (w : World) (hR : str.R 9 w S v l) (hp : p ≤ l.length) (hv : w.heap[vb]? = some (.cells cs.toArray 9 (0, 0))) (hO : str.O w T x cs)
  (hST : ∀ k, T k → ¬ S k) (hvS : ¬ S vb) (hS : ∀ k, S k → S' k) (hT : ∀ k, T k → k < w.heap.size ∧ S' k) (hnew : ∀ k, w.heap.size ≤ k → S' k) (hlen : l.length ≤ 4194304) :
  Calls Tryz.prog 64 #[v, .int .i64 p, .slice (some ⟨vb, 0, none⟩) 1 1] w fun e w' => ∃ v', e = .returned v' ∧ str.R 9 w' S' v' (l.take p ++ x :: l.drop p) ∧ Fr w w' S := by
 rcases Nat.lt_or_ge p l.length with hp1 | hp1
 ·obtain ⟨g, c, rfl, _, _⟩ := R_form hR (by omega)
  obtain ⟨cur, Tp, hh, hg, _, hn, hm, hsz, hTp, hd, hE⟩ := R_parts hR
  have hsz : cur.size = c * 1 := hsz
  have hE : ∀ i x, l[i]? = some x → str.O w (Tp i) x ((cur.toList.drop (i * 1)).take 1) := hE
  have hcl : cs.length = 1 := str.K_len (str.O_K hO)
  have hgw : g < w.heap.size := (Array.getElem?_eq_some_iff.1 hh).1
  have hvg : vb ≠ g := fun e => hvS (e ▸ hg)
  have h1c : ∀ k u, k < l.length * 1 → cur.toList[k]? = some u → u.oneCell' = true := fun k u hk hu => parts_one (d := str) (T := Tp) (xs := l) hE hk hu
  have h1v := str.K_one (str.O_K hO)
  have hTg : ∀ k, T k → k ≠ g := fun k hk e => hST k hk (e ▸ hg)
  have hAl : ((cur.toList.drop (p * 1)).take ((l.length - p) * 1)).length = (l.length - p) * 1 := by simp; omega
  by_cases hroom : l.length + 1 ≤ c
  ·refine (slices_Insert_str_shift g c l.length p vb cur cs w hp1 hroom hm hvg hh hsz hv hcl h1c h1v).mono ?_
   rintro e w' ⟨rfl, rfl⟩
   obtain ⟨cur1, hb1, hl1⟩ := heap_setCells ((cur.toList.drop (p * 1)).take ((l.length - p) * 1)) ((p + 1) * 1) w.drew cur hh (by rw [hAl]; omega)
   have hz1 : cur1.size = cur.size := by
    have := congrArg List.length hl1
    rw [over_length _ _ _ (by rw [hAl]; simp; omega)] at this
    simpa using this
   obtain ⟨cur2, hb2, hl2⟩ := heap_setCells cs (p * 1) _ cur1 hb1 (by omega)
   have hz2 : cur2.size = cur1.size := by
    have := congrArg List.length hl2
    rw [over_length _ _ _ (by simp; omega)] at this
    simpa using this
   refine ⟨_, rfl, R_inserted_str (cur := cur) (w := w) (S := S) (T := T) (g0 := g) (c := c) hp1 hcl hb2 (hS _ hg) hroom hm (by omega) hTp hd hE hO hST hTg hS (fun k hk => (hT k hk).2) (fun k hk hne => ?_) (fun k hk => ?_) (fun k hk => ?_) (fun k hk => ?_), ?_⟩
   ·rw [heap_setCells_ne _ _ _ _ hne, heap_setCells_ne _ _ _ _ hne]; rfl
   ·rw [hl2, over_get _ _ _ (by simp; omega), if_neg (by omega), hl1, over_get _ _ _ (by rw [hAl]; simp; omega), if_neg (by omega)]
   ·rw [hl2, over_get _ _ _ (by simp; omega), if_pos (by omega)]; congr 1; omega
   ·rw [hl2, over_get _ _ _ (by simp; omega), if_neg (by omega), hl1, over_get _ _ _ (by rw [hAl]; simp; omega), if_pos (by rw [hAl]; omega), List.getElem?_take, if_pos (by omega), List.getElem?_drop]
    congr 1; omega
   ·exact setCells_fr (fun _ => hg) _ _ _ (setCells_fr (fun _ => hg) _ _ _ (Fr.refl w S).drew)
  ·refine (slices_Insert_str_grow g c l.length p vb cur cs w hp1 hn (by omega) hlen hh hsz hv hcl h1c h1v).mono ?_
   rintro e w' ⟨G, ROW, hG, hG63, hRs, hRt, rfl, rfl⟩
   have hbA : ((w.alloc (.cells ROW 9)).drew).heap[w.heap.size]? = some (.cells ROW 9 (0, 0)) := heap_alloc_new w _
   obtain ⟨cur1, hb1, hl1⟩ := heap_setCells cs (p * 1) _ ROW hbA (by omega)
   have hz1 : cur1.size = ROW.size := by
    have := congrArg List.length hl1
    rw [over_length _ _ _ (by simp; omega)] at this
    simpa using this
   obtain ⟨cur2, hb2, hl2⟩ := heap_setCells ((cur.toList.drop (p * 1)).take ((l.length - p) * 1)) ((p + 1) * 1) (((w.alloc (.cells ROW 9)).drew.setCells w.heap.size (p * 1) cs).drew) cur1 hb1 (by rw [hAl]; omega)
   have hz2 : cur2.size = cur1.size := by
    have := congrArg List.length hl2
    rw [over_length _ _ _ (by rw [hAl]; simp; omega)] at this
    simpa using this
   refine ⟨_, rfl, R_inserted_str (cur := cur) (w := w) (S := S) (T := T) (g0 := g) (c := c) hp1 hcl hb2 (hnew _ (Nat.le_refl _)) hG hG63 (by omega) (fun i b hb => ⟨(hTp i b hb).1, by have := (hTp i b hb).2.2; omega, (hTp i b hb).2.2⟩) hd hE hO hST (fun k hk => by have := (hT k hk).1; omega) hS (fun k hk => (hT k hk).2) (fun k hk hne => ?_) (fun k hk => ?_) (fun k hk => ?_) (fun k hk => ?_), ?_⟩
   ·rw [heap_setCells_ne _ _ _ _ hne]
    show ((w.alloc (.cells ROW 9)).drew.setCells w.heap.size (p * 1) cs).heap[k]? = _
    rw [heap_setCells_ne _ _ _ _ hne]
    exact (below_alloc (Below.refl w.heap.size w) _).block k hk
   ·rw [hl2, over_get _ _ _ (by rw [hAl]; simp; omega), if_neg (by omega), hl1, over_get _ _ _ (by simp; omega), if_neg (by omega)]
    have := congrArg (fun z : List Value => z[k]?) hRt
    simpa [List.getElem?_take, show k < p by omega] using this
   ·rw [hl2, over_get _ _ _ (by rw [hAl]; simp; omega), if_neg (by omega), hl1, over_get _ _ _ (by simp; omega), if_pos (by omega)]; congr 1; omega
   ·rw [hl2, over_get _ _ _ (by rw [hAl]; simp; omega), if_pos (by rw [hAl]; omega), List.getElem?_take, if_pos (by omega), List.getElem?_drop]
    congr 1; omega
   ·refine setCells_fr (fun h => absurd h (Nat.lt_irrefl _)) _ _ _ (Fr.drew (setCells_fr (fun h => absurd h (Nat.lt_irrefl _)) _ _ _ (((Fr.refl w S).alloc _).drew)))
 ·obtain rfl : p = l.length := by omega
  refine (slices_Insert_str_end (S' := S') v l x cs vb w hR hv hO hST hS (fun k hk => (hT k hk).2) hnew hlen).mono ?_
  rintro e w' ⟨v', rfl, h1, h2⟩
  exact ⟨v', rfl, by rw [List.take_length, List.drop_length]; exact h1, h2⟩
end Go.Proofs.YtegcecnjmimbiaaGreatDoor.X
namespace Go.Proofs.YtegcecnjmimbiaaGreatDoor.X
open Go.RowKit Go.Sort
set_option linter.unusedVariables false
set_option linter.unusedSimpArgs false
open Ty
set_option maxHeartbeats 2000000 in
set_option maxRecDepth 100000 in
theorem impl_addPart {m : Nat} {S SV : Nat → Prop} (j v : J) (s : ByteArray) (cs cs2 : List Value) (w : World) (hj : (tJ (m + 2)).O w S j cs) (hv : (tJ (m + 1)).O w SV v cs2) (hd : ∀ k, S k → ¬ SV k) (hs : s.size ≤ 1000) (ho : ownB j = true) (hle : j.list.length ≤ 399) (hT : EnvT w) (hE : EnvE w) :
  Calls Tryz.prog 53 #[.agg cs.toArray, .string s, .agg cs2.toArray] w fun e w' => PatPost (m + 2) w (fun k => S k ∨ SV k) (addV j s v) e w' := by
 obtain ⟨v3, v4, T3, T4, rfl, hsj, hr3, hr4, hs3, hs4, hs34⟩ := tJ_O.1 hj
 have HL := Hd.mk (show (tJ (m + 1)).R 32 w (fun k => T3 k ∧ k < w.heap.size) v3 j.list from R_bound hr3)
 have HN := Hd.mk (show str.R 9 w (fun k => T4 k ∧ k < w.heap.size) v4 j.names from R_bound hr4)
 have HT3 := Hd.mk hs3; have HT4 := Hd.mk hs4; have H34 := Hd.mk hs34; have HD := Hd.mk hd
 clear hr3 hr4 hs3 hs4 hs34 hj hd
 obtain ⟨A1, c1, rfl, hc1, _⟩ := R_C HL.out
 obtain ⟨A2, c2, rfl, hc2, _⟩ := R_C HN.out
 obtain ⟨u3, u4, _, _, rfl, hsv, hr5, hr6, _⟩ := tJ_O.1 hv
 obtain ⟨A5, c5, rfl, _, _⟩ := R_C hr5
 obtain ⟨A6, c6, rfl, _, _⟩ := R_C hr6
 clear hr5 hr6
 have HV := Hd.mk (Ty.O_bound _ hv); clear hv
 have HOW := Hd.mk ho; have HET := Hd.mk hT; have HEE := Hd.mk hE; clear ho hT hE
 have hnl := Hd.mk (show j.names.length ≤ j.list.length from (own_facts HOW.out).2.1)
 have hB := Hd.mk (Below.refl w.heap.size w)
 cases hk5 : (j.kind == 5)
 ·have hd5 : decide (j.kind = 5) = false := by simpa using hk5
  cases hk4 : (j.kind == 4)
  ·have hd4 : decide (j.kind = 4) = false := by simpa using hk4
   go_enter Tryz.func53, Tryz.ntmps53
   go_wp2_with fail
   refine bodyPost_retW (v := .tuple #[.agg #[.int .i64 0, .int .i64 0, .string ⟨#[]⟩, .slice none 0 0, .slice none 0 0], .bool false]) (by simp [results, Tryz.results53, go_sem]) rfl ?_
   intro W hW
   have eF : Fr w W (fun k => w.heap.size ≤ k) := by rw [hW]; (repeat (first | with_reducible refine Fr.setCell ?_ _ (fun _ => by simp <;> omega) _ | with_reducible refine Fr.alloc ?_ _ | with_reducible refine Fr.drew ?_)); exact Fr.refl _ _
   exact pat_none (by unfold addV; rw [hk5, hk4]; rfl) rfl (Fr.of_below (eF.below (fun k h => h)) _)
  ·have hd4 : decide (j.kind = 4) = true := by simpa using hk4
   obtain ⟨qa, hqa⟩ : ∃ z, z = addAt j s := ⟨_, rfl⟩
   have HQA := Hd.mk hqa; clear hqa
   go_enter Tryz.func53, Tryz.ntmps53
   go_wp2_with fail
   apply calls_gen; intro W1 hW
   have hz_ : w.heap.size + 3 ≤ W1.heap.size := by rw [hW]; simp
   have hE : Below w.heap.size w W1 := by rw [hW]; (repeat (first | with_reducible refine below_alloc ?_ _ | with_reducible refine below_drew ?_)); exact Below.refl _ _
   have hB := hB.th hE
   have b0 := Hd.mk (show Blk W1 (w.heap.size) #[.int .i64 j.kind, .int .i64 j.n, .string j.s, .slice A1 j.list.length c1, .slice A2 j.names.length c2] 32 by rw [hW]; first | exact (((Blk.new _ _ _).alloc _).alloc _) | (simpa using (((Blk.new _ _ _).alloc _).alloc _)))
   have b1 := Hd.mk (show Blk W1 (w.heap.size + 1) #[.int .i64 v.kind, .int .i64 v.n, .string v.s, .slice A5 v.list.length c5, .slice A6 v.names.length c6] 32 by rw [hW]; first | exact ((Blk.new1 _ _ _ _).alloc _) | (simpa using ((Blk.new1 _ _ _ _).alloc _)))
   have b2 := Hd.mk (show Blk W1 (w.heap.size + 1 + 1) #[.int .i64 0, .int .i64 0, .string ⟨#[]⟩, .slice none 0 0, .slice none 0 0] 32 by rw [hW]; first | exact (Blk.new2 _ _ _ _ _) | (simpa using (Blk.new2 _ _ _ _ _)))
   have HL := Hd.mk (R_below HL.out hE)
   have HN := Hd.mk (R_below HN.out hE)
   have HV := HV.ob hE
   clear hW hE
   have z1 := Hd.mk hz_; clear hz_
   refine (impl_IndexOf s _ (by omega) (HET.out.below hB.out) (HEE.out.below hB.out)).mono ?_
   rintro e w2 ⟨rfl, hX⟩
   have b0 := b0.dn hX
   have b1 := b1.dn hX
   have b2 := b2.dn hX
   have HL := Hd.mk (R_below HL.out hX)
   have HN := Hd.mk (R_below HN.out hX)
   have HV := HV.ob hX
   have hB := hB.th hX
   have hz_ := hX.size
   clear hX
   have z2 := Hd.mk hz_; clear hz_
   rw [idx_eq]
   obtain ⟨ix, hix⟩ : ∃ z, z = idxS s.data.toList := ⟨_, rfl⟩
   rw [← hix]
   have HIX := Hd.mk hix; clear hix
   cases hm : (s.toList == endSg.toList)
   ·have hms : (s.toList == [45]) = false := by rw [show ([45] : List UInt8) = endSg.toList from by unfold endSg; rw [ByteArray.toList_eq]]; exact hm
    have HAT := Hd.mk (show addAt j s = ix by unfold addAt; rw [hm]; exact HIX.out.symm)
    clear hm
    obtain ⟨v00, v01, v02, v03, v04, v0z⟩ := blk5 b0.out
    obtain ⟨v10, v11, v12, v13, v14, v1z⟩ := blk5 b1.out
    obtain ⟨v20, v21, v22, v23, v24, v2z⟩ := blk5 b2.out
    go_wp2_with fail
    clear v00 v01 v02 v03 v04 v0z v10 v11 v12 v13 v14 v1z v20 v21 v22 v23 v24 v2z
    apply calls_gen; intro W3 hW
    have hz_ : w2.heap.size ≤ W3.heap.size := by rw [hW]; simp
    have hE : Below w2.heap.size w2 W3 := by rw [hW]; (repeat (first | with_reducible refine below_alloc ?_ _ | with_reducible refine below_drew ?_)); exact Below.refl _ _
    have hB := hB.th hE
    have b0 := b0.dn hE
    have b1 := b1.dn hE
    have b2 := b2.dn hE
    have HL := Hd.mk (R_below HL.out hE)
    have HN := Hd.mk (R_below HN.out hE)
    have HV := HV.ob hE
    clear hW hE
    have z3 := Hd.mk hz_; clear hz_
    refine (impl_within ix 0 (j.list.length : Int) W3).mono ?_
    rintro e w_ ⟨rfl, rfl⟩
    cases hin : inB ix 0 (j.list.length : Int)
    ·obtain ⟨v00, v01, v02, v03, v04, v0z⟩ := blk5 b0.out
     obtain ⟨v10, v11, v12, v13, v14, v1z⟩ := blk5 b1.out
     obtain ⟨v20, v21, v22, v23, v24, v2z⟩ := blk5 b2.out
     go_wp2_with fail
     refine bodyPost_retW (v := .tuple #[.agg #[.int .i64 0, .int .i64 0, .string ⟨#[]⟩, .slice none 0 0, .slice none 0 0], .bool false]) (by simp [results, Tryz.results53, go_sem, v00, v01, v02, v03, v04, v0z, v10, v11, v12, v13, v14, v1z, v20, v21, v22, v23, v24, v2z]) rfl ?_
     intro W hW
     clear v00 v01 v02 v03 v04 v0z v10 v11 v12 v13 v14 v1z v20 v21 v22 v23 v24 v2z
     have eF : Fr W3 W (fun k => w.heap.size ≤ k) := by rw [hW]; (repeat (first | with_reducible refine Fr.setCell ?_ _ (fun _ => by simp <;> omega) _ | with_reducible refine Fr.alloc ?_ _ | with_reducible refine Fr.drew ?_)); exact Fr.refl _ _
     exact pat_none (by unfold addV; rw [hk5, hk4, HAT.out, hin]; rfl) rfl ((Fr.of_below hB.out (fun k => S k ∨ SV k)).then_ eF (fun k h hl => by (try simp only at h); omega))
    ·have hin2 := inB_iff.1 hin
     obtain ⟨p, hp⟩ := Int.eq_ofNat_of_zero_le hin2.1
     have hpl : p ≤ j.list.length := by have := hin2.2; omega
     have HAV := Hd.mk (show addV j s v = some (insJ j p v) by unfold addV; rw [hk5, hk4, HAT.out, hin, hp]; rfl)
     have HP := Hd.mk hp
     subst hp
     clear hin hin2
     obtain ⟨v00, v01, v02, v03, v04, v0z⟩ := blk5 b0.out
     obtain ⟨v10, v11, v12, v13, v14, v1z⟩ := blk5 b1.out
     obtain ⟨v20, v21, v22, v23, v24, v2z⟩ := blk5 b2.out
     go_wp2_with fail
     clear v00 v01 v02 v03 v04 v0z v10 v11 v12 v13 v14 v1z v20 v21 v22 v23 v24 v2z
     apply calls_gen; intro W4 hW
     have hz_ : W3.heap.size + 1 ≤ W4.heap.size := by rw [hW]; simp
     have hE : Below W3.heap.size W3 W4 := by rw [hW]; (repeat (first | with_reducible refine below_alloc ?_ _ | with_reducible refine below_drew ?_)); exact Below.refl _ _
     have hB := hB.th hE
     have b0 := b0.dn hE
     have b1 := b1.dn hE
     have b2 := b2.dn hE
     have bv := Hd.mk (show Blk W4 (W3.heap.size) #[.int .i64 v.kind, .int .i64 v.n, .string v.s, .slice A5 v.list.length c5, .slice A6 v.names.length c6] 32 by rw [hW]; first | exact (Blk.new _ _ _) | (simpa using (Blk.new _ _ _)))
     have HL := Hd.mk (R_below HL.out hE)
     have HN := Hd.mk (R_below HN.out hE)
     have HV := HV.ob hE
     clear hW hE
     have z4 := Hd.mk hz_; clear hz_
     have hBs := hB.out.size
     have z1_ := z1.out; have z2_ := z2.out; have z3_ := z3.out; have z4_ := z4.out
     have hz4 := Hd.mk (show w.heap.size + 3 ≤ W4.heap.size by omega)
     refine (slices_Insert_json (S' := fun k => (T3 k ∨ SV k) ∧ k < w.heap.size ∨ W4.heap.size ≤ k) _ j.list v _ W3.heap.size p _ HL.out hpl bv.out HV.out (fun k h h2 => HD.out k (HT3.out k h2.1) h.1) (fun h => by have q_ := h.2; omega) (fun k h => .inl ⟨.inl h.1, h.2⟩) (fun k h => ⟨by have q_ := h.2; omega, .inl ⟨.inr h.1, h.2⟩⟩) (fun k h => .inr h) (by omega)).mono ?_
     rintro e w9 ⟨vd, rfl, hR9, hX⟩
     obtain ⟨L2, hL2⟩ : ∃ z, z = j.list.take p ++ v :: j.list.drop p := ⟨_, rfl⟩
     rw [← hL2] at hR9
     have HL2 := Hd.mk hL2; clear hL2
     obtain ⟨A9, c9, hvd, _, _⟩ := R_C hR9
     subst hvd
     have HR9 := Hd.mk hR9; clear hR9
     have b0 := Hd.mk (b0.out.fr hX (fun h => by have q_ := h.2; omega))
     have b2 := Hd.mk (b2.out.fr hX (fun h => by have q_ := h.2; omega))
     have HN := Hd.mk (R_fr HN.out hX (fun k hk hl h => H34.out k h.1 hk.1))
     have HF0 := Hd.mk ((Fr.of_below hB.out (fun k => S k ∨ SV k)).then_ hX (fun k h _ => .inl (HT3.out k h.1)))
     have hB0 := Hd.mk (show w.heap.size + 3 ≤ w9.heap.size by have := hX.size; omega)
     clear hX b1 bv HL HV
     obtain ⟨v00, v01, v02, v03, v04, v0z⟩ := blk5 b0.out
     obtain ⟨v20, v21, v22, v23, v24, v2z⟩ := blk5 b2.out
     go_wp2_with fail
     refine bodyPost_retW (v := .tuple #[.agg #[.int .i64 j.kind, .int .i64 j.n, .string j.s, .slice A9 L2.length c9, .slice A2 j.names.length c2], .bool true]) (by simp [results, Tryz.results53, go_sem, v00, v01, v02, v03, v04, v0z, v20, v21, v22, v23, v24, v2z]) rfl ?_
     intro W hW
     clear v00 v01 v02 v03 v04 v0z v20 v21 v22 v23 v24 v2z
     have hBs0 := hB0.out; have hz4_ := hz4.out
     have eF : Fr w9 W (fun k => k = w.heap.size ∨ k = w.heap.size + 2) := by rw [hW]; (repeat (first | with_reducible refine Fr.setCell ?_ _ (fun _ => by simp <;> omega) _ | with_reducible refine Fr.alloc ?_ _ | with_reducible refine Fr.drew ?_)); exact Fr.refl _ _
     refine pat_some (z := insJ j p v) (cs := [Value.int IntKind.i64 j.kind, .int .i64 j.n, .string j.s, .slice A9 L2.length c9, .slice A2 j.names.length c2]) HAV.out rfl (tJ_O.2 ⟨_, _, fun k => (T3 k ∨ SV k) ∧ k < w.heap.size ∨ W4.heap.size ≤ k, fun k => T4 k ∧ k < w.heap.size, rfl, hsj, ?_, R_fr HN.out eF (fun k hk hl h => by have q_ := hk.2; (try simp only at h); omega), ?_, fun k h => .inr (.inl (HT4.out k h.1)), ?_⟩) (HF0.out.then_ eF (fun k h hl => by (try simp only at h); omega))
     ·show (tJ (m + 1)).R _ W _ _ (j.list.take p ++ v :: j.list.drop p)
      rw [← HL2.out]
      exact R_fr HR9.out eF (fun k hk hl h => by (try simp only at h); rcases hk with q_ | q_; (have q2_ := q_.2; omega); omega)
     ·intro k h
      rcases h with h | h
      ·rcases h.1 with h1 | h1
       ·exact .inr (.inl (HT3.out k h1))
       ·exact .inr (.inr h1)
      ·exact .inl (by omega)
     ·intro k h h2
      rcases h with h | h
      ·rcases h.1 with h1 | h1
       ·exact H34.out k h1 h2.1
       ·exact HD.out k (HT4.out k h2.1) h1
      ·have q_ := h2.2
       omega
   ·have hms : (s.toList == [45]) = true := by rw [show ([45] : List UInt8) = endSg.toList from by unfold endSg; rw [ByteArray.toList_eq]]; exact hm
    have HAT := Hd.mk (show addAt j s = (j.list.length : Int) by unfold addAt; rw [hm]; rfl)
    clear hm
    obtain ⟨v00, v01, v02, v03, v04, v0z⟩ := blk5 b0.out
    obtain ⟨v10, v11, v12, v13, v14, v1z⟩ := blk5 b1.out
    obtain ⟨v20, v21, v22, v23, v24, v2z⟩ := blk5 b2.out
    go_wp2_with fail
    clear v00 v01 v02 v03 v04 v0z v10 v11 v12 v13 v14 v1z v20 v21 v22 v23 v24 v2z
    apply calls_gen; intro W3 hW
    have hz_ : w2.heap.size ≤ W3.heap.size := by rw [hW]; simp
    have hE : Below w2.heap.size w2 W3 := by rw [hW]; (repeat (first | with_reducible refine below_alloc ?_ _ | with_reducible refine below_drew ?_)); exact Below.refl _ _
    have hB := hB.th hE
    have b0 := b0.dn hE
    have b1 := b1.dn hE
    have b2 := b2.dn hE
    have HL := Hd.mk (R_below HL.out hE)
    have HN := Hd.mk (R_below HN.out hE)
    have HV := HV.ob hE
    clear hW hE
    have z3 := Hd.mk hz_; clear hz_
    refine (impl_within (j.list.length : Int) 0 (j.list.length : Int) W3).mono ?_
    rintro e w_ ⟨rfl, rfl⟩
    cases hin : inB (j.list.length : Int) 0 (j.list.length : Int)
    ·obtain ⟨v00, v01, v02, v03, v04, v0z⟩ := blk5 b0.out
     obtain ⟨v10, v11, v12, v13, v14, v1z⟩ := blk5 b1.out
     obtain ⟨v20, v21, v22, v23, v24, v2z⟩ := blk5 b2.out
     go_wp2_with fail
     refine bodyPost_retW (v := .tuple #[.agg #[.int .i64 0, .int .i64 0, .string ⟨#[]⟩, .slice none 0 0, .slice none 0 0], .bool false]) (by simp [results, Tryz.results53, go_sem, v00, v01, v02, v03, v04, v0z, v10, v11, v12, v13, v14, v1z, v20, v21, v22, v23, v24, v2z]) rfl ?_
     intro W hW
     clear v00 v01 v02 v03 v04 v0z v10 v11 v12 v13 v14 v1z v20 v21 v22 v23 v24 v2z
     have eF : Fr W3 W (fun k => w.heap.size ≤ k) := by rw [hW]; (repeat (first | with_reducible refine Fr.setCell ?_ _ (fun _ => by simp <;> omega) _ | with_reducible refine Fr.alloc ?_ _ | with_reducible refine Fr.drew ?_)); exact Fr.refl _ _
     exact pat_none (by unfold addV; rw [hk5, hk4, HAT.out, hin]; rfl) rfl ((Fr.of_below hB.out (fun k => S k ∨ SV k)).then_ eF (fun k h hl => by (try simp only at h); omega))
    ·have hin2 := inB_iff.1 hin
     obtain ⟨p, hp⟩ := Int.eq_ofNat_of_zero_le hin2.1
     have hpl : p ≤ j.list.length := by have := hin2.2; omega
     have HAV := Hd.mk (show addV j s v = some (insJ j p v) by unfold addV; rw [hk5, hk4, HAT.out, hin, hp]; rfl)
     obtain rfl : p = j.list.length := by omega
     clear hp
     clear hin hin2
     obtain ⟨v00, v01, v02, v03, v04, v0z⟩ := blk5 b0.out
     obtain ⟨v10, v11, v12, v13, v14, v1z⟩ := blk5 b1.out
     obtain ⟨v20, v21, v22, v23, v24, v2z⟩ := blk5 b2.out
     go_wp2_with fail
     clear v00 v01 v02 v03 v04 v0z v10 v11 v12 v13 v14 v1z v20 v21 v22 v23 v24 v2z
     apply calls_gen; intro W4 hW
     have hz_ : W3.heap.size + 1 ≤ W4.heap.size := by rw [hW]; simp
     have hE : Below W3.heap.size W3 W4 := by rw [hW]; (repeat (first | with_reducible refine below_alloc ?_ _ | with_reducible refine below_drew ?_)); exact Below.refl _ _
     have hB := hB.th hE
     have b0 := b0.dn hE
     have b1 := b1.dn hE
     have b2 := b2.dn hE
     have bv := Hd.mk (show Blk W4 (W3.heap.size) #[.int .i64 v.kind, .int .i64 v.n, .string v.s, .slice A5 v.list.length c5, .slice A6 v.names.length c6] 32 by rw [hW]; first | exact (Blk.new _ _ _) | (simpa using (Blk.new _ _ _)))
     have HL := Hd.mk (R_below HL.out hE)
     have HN := Hd.mk (R_below HN.out hE)
     have HV := HV.ob hE
     clear hW hE
     have z4 := Hd.mk hz_; clear hz_
     have hBs := hB.out.size
     have z1_ := z1.out; have z2_ := z2.out; have z3_ := z3.out; have z4_ := z4.out
     have hz4 := Hd.mk (show w.heap.size + 3 ≤ W4.heap.size by omega)
     refine (slices_Insert_json (S' := fun k => (T3 k ∨ SV k) ∧ k < w.heap.size ∨ W4.heap.size ≤ k) _ j.list v _ W3.heap.size j.list.length _ HL.out hpl bv.out HV.out (fun k h h2 => HD.out k (HT3.out k h2.1) h.1) (fun h => by have q_ := h.2; omega) (fun k h => .inl ⟨.inl h.1, h.2⟩) (fun k h => ⟨by have q_ := h.2; omega, .inl ⟨.inr h.1, h.2⟩⟩) (fun k h => .inr h) (by omega)).mono ?_
     rintro e w9 ⟨vd, rfl, hR9, hX⟩
     obtain ⟨L2, hL2⟩ : ∃ z, z = j.list.take j.list.length ++ v :: j.list.drop j.list.length := ⟨_, rfl⟩
     rw [← hL2] at hR9
     have HL2 := Hd.mk hL2; clear hL2
     obtain ⟨A9, c9, hvd, _, _⟩ := R_C hR9
     subst hvd
     have HR9 := Hd.mk hR9; clear hR9
     have b0 := Hd.mk (b0.out.fr hX (fun h => by have q_ := h.2; omega))
     have b2 := Hd.mk (b2.out.fr hX (fun h => by have q_ := h.2; omega))
     have HN := Hd.mk (R_fr HN.out hX (fun k hk hl h => H34.out k h.1 hk.1))
     have HF0 := Hd.mk ((Fr.of_below hB.out (fun k => S k ∨ SV k)).then_ hX (fun k h _ => .inl (HT3.out k h.1)))
     have hB0 := Hd.mk (show w.heap.size + 3 ≤ w9.heap.size by have := hX.size; omega)
     clear hX b1 bv HL HV
     obtain ⟨v00, v01, v02, v03, v04, v0z⟩ := blk5 b0.out
     obtain ⟨v20, v21, v22, v23, v24, v2z⟩ := blk5 b2.out
     go_wp2_with fail
     refine bodyPost_retW (v := .tuple #[.agg #[.int .i64 j.kind, .int .i64 j.n, .string j.s, .slice A9 L2.length c9, .slice A2 j.names.length c2], .bool true]) (by simp [results, Tryz.results53, go_sem, v00, v01, v02, v03, v04, v0z, v20, v21, v22, v23, v24, v2z]) rfl ?_
     intro W hW
     clear v00 v01 v02 v03 v04 v0z v20 v21 v22 v23 v24 v2z
     have hBs0 := hB0.out; have hz4_ := hz4.out
     have eF : Fr w9 W (fun k => k = w.heap.size ∨ k = w.heap.size + 2) := by rw [hW]; (repeat (first | with_reducible refine Fr.setCell ?_ _ (fun _ => by simp <;> omega) _ | with_reducible refine Fr.alloc ?_ _ | with_reducible refine Fr.drew ?_)); exact Fr.refl _ _
     refine pat_some (z := insJ j j.list.length v) (cs := [Value.int IntKind.i64 j.kind, .int .i64 j.n, .string j.s, .slice A9 L2.length c9, .slice A2 j.names.length c2]) HAV.out rfl (tJ_O.2 ⟨_, _, fun k => (T3 k ∨ SV k) ∧ k < w.heap.size ∨ W4.heap.size ≤ k, fun k => T4 k ∧ k < w.heap.size, rfl, hsj, ?_, R_fr HN.out eF (fun k hk hl h => by have q_ := hk.2; (try simp only at h); omega), ?_, fun k h => .inr (.inl (HT4.out k h.1)), ?_⟩) (HF0.out.then_ eF (fun k h hl => by (try simp only at h); omega))
     ·show (tJ (m + 1)).R _ W _ _ (j.list.take j.list.length ++ v :: j.list.drop j.list.length)
      rw [← HL2.out]
      exact R_fr HR9.out eF (fun k hk hl h => by (try simp only at h); rcases hk with q_ | q_; (have q2_ := q_.2; omega); omega)
     ·intro k h
      rcases h with h | h
      ·rcases h.1 with h1 | h1
       ·exact .inr (.inl (HT3.out k h1))
       ·exact .inr (.inr h1)
      ·exact .inl (by omega)
     ·intro k h h2
      rcases h with h | h
      ·rcases h.1 with h1 | h1
       ·exact H34.out k h1 h2.1
       ·exact HD.out k (HT4.out k h2.1) h1
      ·have q_ := h2.2
       omega
 ·have hd5 : decide (j.kind = 5) = true := by simpa using hk5
  obtain ⟨hn0, hs0, hup, hnl5⟩ := own5 HOW.out hk5
  have HUP := Hd.mk hup; have HNL := Hd.mk hnl5; clear hn0 hs0 hup hnl5
  go_enter Tryz.func53, Tryz.ntmps53
  go_wp2_with fail
  apply calls_gen; intro W1 hW
  have hz_ : w.heap.size + 3 ≤ W1.heap.size := by rw [hW]; simp
  have hE : Below w.heap.size w W1 := by rw [hW]; (repeat (first | with_reducible refine below_alloc ?_ _ | with_reducible refine below_drew ?_)); exact Below.refl _ _
  have hB := hB.th hE
  have b0 := Hd.mk (show Blk W1 (w.heap.size) #[.int .i64 j.kind, .int .i64 j.n, .string j.s, .slice A1 j.list.length c1, .slice A2 j.names.length c2] 32 by rw [hW]; first | exact (((Blk.new _ _ _).alloc _).alloc _) | (simpa using (((Blk.new _ _ _).alloc _).alloc _)))
  have b1 := Hd.mk (show Blk W1 (w.heap.size + 1) #[.int .i64 v.kind, .int .i64 v.n, .string v.s, .slice A5 v.list.length c5, .slice A6 v.names.length c6] 32 by rw [hW]; first | exact ((Blk.new1 _ _ _ _).alloc _) | (simpa using ((Blk.new1 _ _ _ _).alloc _)))
  have b2 := Hd.mk (show Blk W1 (w.heap.size + 1 + 1) #[.int .i64 0, .int .i64 0, .string ⟨#[]⟩, .slice none 0 0, .slice none 0 0] 32 by rw [hW]; first | exact (Blk.new2 _ _ _ _ _) | (simpa using (Blk.new2 _ _ _ _ _)))
  have HL := Hd.mk (R_below HL.out hE)
  have HN := Hd.mk (R_below HN.out hE)
  have HV := HV.ob hE
  clear hW hE
  have z1 := Hd.mk hz_; clear hz_
  refine (slices_BinarySearch_str _ _ j.names s _ (R_Cv HN.out) HUP.out (by have := hnl.out; omega)).mono ?_
  rintro e w2 ⟨rfl, hX⟩
  have b0 := b0.dn hX
  have b1 := b1.dn hX
  have b2 := b2.dn hX
  have HL := Hd.mk (R_below HL.out hX)
  have HN := Hd.mk (R_below HN.out hX)
  have HV := HV.ob hX
  have hB := hB.th hX
  have hz_ := hX.size
  clear hX
  have z2 := Hd.mk hz_; clear hz_
  obtain ⟨p, hp⟩ : ∃ z, z = posB j.names s := ⟨_, rfl⟩
  rw [← hp]
  have HP := Hd.mk hp; clear hp
  cases hb : hasB j.names s
  ·have hao := add_new (v := v) HOW.out hk5 hb
   rw [← HP.out] at hao
   have hpl := hao.1
   have HAV := Hd.mk hao.2; clear hao hb
   have hpn : p ≤ j.names.length := by rw [HP.out]; exact posB_le _ _
   obtain ⟨v00, v01, v02, v03, v04, v0z⟩ := blk5 b0.out
   obtain ⟨v10, v11, v12, v13, v14, v1z⟩ := blk5 b1.out
   obtain ⟨v20, v21, v22, v23, v24, v2z⟩ := blk5 b2.out
   go_wp2_with fail
   clear v00 v01 v02 v03 v04 v0z v10 v11 v12 v13 v14 v1z v20 v21 v22 v23 v24 v2z
   have z0 := Hd.mk (show w.heap.size + 3 ≤ w2.heap.size by have z1_ := z1.out; have z2_ := z2.out; omega)
   have hB := Hd.mk (Fr.of_below hB.out (fun k => S k ∨ SV k))
   have sb0 := Hd.mk b0.out
   have sb1 := Hd.mk b1.out
   have sb2 := Hd.mk b2.out
   refine region_mixC (fun x_ => Fr w2 x_ (fun k => (T3 k ∨ T4 k) ∧ k < w.heap.size)) (.q 9 (.p 0 (.q 1 (.p 2 (.p 3 (.p 6 (.q 7 (.p 8 (.br 4 10 (.br 5 10 (.p 12 (.b 10 (.b 11 .fin))) (.b 5 (.p 12 (.b 11 .fin)))) (.b 4 (.b 5 (.p 12 (.b 11 .fin))))))))))))) [13, 14, 15] (by kernel_rfl) (Fr.drew (Fr.refl _ _)) (by kernel_rfl) (fun _ _ _ _ _ h => h) ?_
   refine genT ?_
   intro W3 hW
   have hS := Hd.mk (show Fr w2 W3 (fun k => (T3 k ∨ T4 k) ∧ k < w.heap.size) by rw [hW]; exact Fr.drew (Fr.refl _ _))
   have hz_ : w2.heap.size ≤ W3.heap.size := by rw [hW]; simp
   have hE : Below w2.heap.size w2 W3 := by rw [hW]; (repeat (first | with_reducible refine below_alloc ?_ _ | with_reducible refine below_drew ?_)); exact Below.refl _ _
   have hB := Hd.mk (hB.out.trans (Fr.of_below hE _))
   have b0 := b0.dn hE
   have b1 := b1.dn hE
   have b2 := b2.dn hE
   have HL := Hd.mk (R_below HL.out hE)
   have HN := Hd.mk (R_below HN.out hE)
   have HV := HV.ob hE
   clear hW hE
   have z3 := Hd.mk hz_; clear hz_
   refine mixT_see rfl (by rfl) (.agg #[.int .i64 v.kind, .int .i64 v.n, .string v.s, .slice A5 v.list.length c5, .slice A6 v.names.length c6]) (fun w_ hw_ => by have f0_ := (sb1.out.fr hw_ (fun h => by have q_ := h.2; omega)).cell 0 rfl; have f1_ := (sb1.out.fr hw_ (fun h => by have q_ := h.2; omega)).cell 1 rfl; have f2_ := (sb1.out.fr hw_ (fun h => by have q_ := h.2; omega)).cell 2 rfl; have f3_ := (sb1.out.fr hw_ (fun h => by have q_ := h.2; omega)).cell 3 rfl; have f4_ := (sb1.out.fr hw_ (fun h => by have q_ := h.2; omega)).cell 4 rfl; simp [execOp, go_sem, f0_, f1_, f2_, f3_, f4_]) hS.out ?_
   obtain ⟨v00, v01, v02, v03, v04, v0z⟩ := blk5 b0.out
   obtain ⟨v10, v11, v12, v13, v14, v1z⟩ := blk5 b1.out
   obtain ⟨v20, v21, v22, v23, v24, v2z⟩ := blk5 b2.out
   go_wp2_with fail
   refine mixQ_n ?_
   clear v00 v01 v02 v03 v04 v0z v10 v11 v12 v13 v14 v1z v20 v21 v22 v23 v24 v2z
   refine mixT_p rfl ?_
   go_big_quiet_want; go_big_quiet_op; go_big_quiet_on; refine wpQuiet_nil ?_
   refine mixT_see rfl (by rfl) (Value.slice A2 j.names.length c2) (fun w_ hw_ => by have f0_ := (sb0.out.fr hw_ (fun h => by have q_ := h.2; omega)).cell 4 rfl; simp [execOp, go_sem, f0_]) hS.out ?_
   obtain ⟨v00, v01, v02, v03, v04, v0z⟩ := blk5 b0.out
   obtain ⟨v10, v11, v12, v13, v14, v1z⟩ := blk5 b1.out
   obtain ⟨v20, v21, v22, v23, v24, v2z⟩ := blk5 b2.out
   go_wp2_with fail
   refine mixQ_n ?_
   clear v00 v01 v02 v03 v04 v0z v10 v11 v12 v13 v14 v1z v20 v21 v22 v23 v24 v2z
   iterate 3 (refine mixT_p rfl ?_; go_big_quiet_want; go_big_quiet_op; go_big_quiet_on; refine wpQuiet_nil ?_)
   refine mixT_see rfl (by rfl) (Value.slice A1 j.list.length c1) (fun w_ hw_ => by have f0_ := (sb0.out.fr hw_ (fun h => by have q_ := h.2; omega)).cell 3 rfl; simp [execOp, go_sem, f0_]) hS.out ?_
   obtain ⟨v00, v01, v02, v03, v04, v0z⟩ := blk5 b0.out
   obtain ⟨v10, v11, v12, v13, v14, v1z⟩ := blk5 b1.out
   obtain ⟨v20, v21, v22, v23, v24, v2z⟩ := blk5 b2.out
   go_wp2_with fail
   refine mixQ_n ?_
   clear v00 v01 v02 v03 v04 v0z v10 v11 v12 v13 v14 v1z v20 v21 v22 v23 v24 v2z
   refine mixT_p rfl ?_
   go_big_quiet_want; go_big_quiet_op; go_big_quiet_on; refine wpQuiet_nil ?_
   refine ⟨?_, ?_⟩
   ·refine stepM_of rfl ?_ (by rfl)
    go_wp2_with fail
    refine ⟨hS.out.alloc _, ?_⟩
    refine genT ?_; intro W4 hW
    have hz_ : W3.heap.size + 1 ≤ W4.heap.size := by rw [hW]; simp
    have hE : Below W3.heap.size W3 W4 := by rw [hW]; (repeat (first | with_reducible refine below_alloc ?_ _ | with_reducible refine below_drew ?_)); exact Below.refl _ _
    have hB := Hd.mk (hB.out.trans (Fr.of_below hE _))
    replace hS := Hd.mk (hS.out.trans (Fr.of_below hE _))
    have b0 := b0.dn hE
    have b1 := b1.dn hE
    have b2 := b2.dn hE
    have bs := Hd.mk (show Blk W4 (W3.heap.size) #[.string s] 9 by rw [hW]; first | exact (Blk.new _ _ _) | (simpa using (Blk.new _ _ _)))
    have HL := Hd.mk (R_below HL.out hE)
    have HN := Hd.mk (R_below HN.out hE)
    have HV := HV.ob hE
    clear hW hE
    have z4 := Hd.mk hz_; clear hz_
    refine ⟨?_, ?_⟩
    ·refine stepM_of rfl ?_ (by rfl)
     go_wp2_with fail
     apply calls_gen; intro W5 hW
     have hz_ : W4.heap.size ≤ W5.heap.size := by rw [hW]; simp
     have hE : Below W4.heap.size W4 W5 := by rw [hW]; (repeat (first | with_reducible refine below_alloc ?_ _ | with_reducible refine below_drew ?_)); exact Below.refl _ _
     have hB := Hd.mk (hB.out.trans (Fr.of_below hE _))
     replace hS := Hd.mk (hS.out.trans (Fr.of_below hE _))
     have b0 := b0.dn hE
     have b1 := b1.dn hE
     have b2 := b2.dn hE
     have bs := bs.dn hE
     have HL := Hd.mk (R_below HL.out hE)
     have HN := Hd.mk (R_below HN.out hE)
     have HV := HV.ob hE
     clear hW hE
     have z5 := Hd.mk hz_; clear hz_
     have z0_ := z0.out; have z1_ := z1.out; have z2_ := z2.out; have z3_ := z3.out; have z4_ := z4.out; have z5_ := z5.out
     refine (slices_Insert_str (S' := fun k => T4 k ∧ k < w.heap.size ∨ W5.heap.size ≤ k) _ j.names s [.string s] W3.heap.size p _ HN.out hpn bs.out (T := fun _ => False) ⟨rfl, by omega⟩ (fun k h => h.elim) (fun h => by have q_ := h.2; omega) (fun k h => .inl h) (fun k h => h.elim) (fun k h => .inr h) (by have := hnl.out; omega)).mono ?_
     rintro e wN ⟨vd, rfl, hR9, hX⟩
     obtain ⟨N2, hN2⟩ : ∃ z, z = j.names.take p ++ s :: j.names.drop p := ⟨_, rfl⟩
     rw [← hN2] at hR9
     have HN2 := Hd.mk hN2; clear hN2
     obtain ⟨A8, c8, hvd, _, _⟩ := R_C hR9
     subst hvd
     have b0 := Hd.mk (b0.out.fr hX (fun h => by have q_ := h.2; have z0_ := z0.out; have z1_ := z1.out; have z2_ := z2.out; have z3_ := z3.out; have z4_ := z4.out; have z5_ := z5.out; omega))
     have b1 := Hd.mk (b1.out.fr hX (fun h => by have q_ := h.2; have z0_ := z0.out; have z1_ := z1.out; have z2_ := z2.out; have z3_ := z3.out; have z4_ := z4.out; have z5_ := z5.out; omega))
     have b2 := Hd.mk (b2.out.fr hX (fun h => by have q_ := h.2; have z0_ := z0.out; have z1_ := z1.out; have z2_ := z2.out; have z3_ := z3.out; have z4_ := z4.out; have z5_ := z5.out; omega))
     have bs := Hd.mk (bs.out.fr hX (fun h => by have q_ := h.2; have z0_ := z0.out; have z1_ := z1.out; have z2_ := z2.out; have z3_ := z3.out; have z4_ := z4.out; have z5_ := z5.out; omega))
     have HL := Hd.mk (R_fr HL.out hX (fun k hk hl h => H34.out k hk.1 h.1))
     have HV := Hd.mk (Ty.O_fr HV.out hX (fun k hk hl h => HD.out k (HT4.out k h.1) hk.1))
     have hB := Hd.mk (hB.out.then_ hX (fun k h _ => .inl (HT4.out k h.1)))
     replace hS := Hd.mk (hS.out.trans (hX.mono (fun k _ h => ⟨.inr h.1, h.2⟩)))
     have hz_ := hX.size
     clear hX
     have z6 := Hd.mk hz_; clear hz_
     have HN := Hd.mk (R_bound hR9); clear hR9
     go_wp2_with fail
     refine ⟨hS.out, ?_⟩
     refine mixT_p rfl ?_
     go_big_quiet_want; go_big_quiet_op; go_big_quiet_on; refine wpQuiet_nil ?_
     refine mixT_b rfl ?_ (by rfl)
     go_wp2_with fail
     refine ⟨hS.out.alloc _, ?_⟩
     refine genT ?_; intro W6 hW
     have hz_ : wN.heap.size + 1 ≤ W6.heap.size := by rw [hW]; simp
     have hE : Below wN.heap.size wN W6 := by rw [hW]; (repeat (first | with_reducible refine below_alloc ?_ _ | with_reducible refine below_drew ?_)); exact Below.refl _ _
     have hB := Hd.mk (hB.out.trans (Fr.of_below hE _))
     replace hS := Hd.mk (hS.out.trans (Fr.of_below hE _))
     have b0 := b0.dn hE
     have b1 := b1.dn hE
     have b2 := b2.dn hE
     have bs := bs.dn hE
     have bv := Hd.mk (show Blk W6 (wN.heap.size) #[.int .i64 v.kind, .int .i64 v.n, .string v.s, .slice A5 v.list.length c5, .slice A6 v.names.length c6] 32 by rw [hW]; first | exact (Blk.new _ _ _) | (simpa using (Blk.new _ _ _)))
     have HL := Hd.mk (R_below HL.out hE)
     have HN := Hd.mk (R_below HN.out hE)
     have HV := HV.ob hE
     clear hW hE
     have z7 := Hd.mk hz_; clear hz_
     refine mixT_b rfl ?_ (by rfl)
     go_wp2_with fail
     apply calls_gen; intro W7 hW
     have hz_ : W6.heap.size ≤ W7.heap.size := by rw [hW]; simp
     have hE : Below W6.heap.size W6 W7 := by rw [hW]; (repeat (first | with_reducible refine below_alloc ?_ _ | with_reducible refine below_drew ?_)); exact Below.refl _ _
     have hB := Hd.mk (hB.out.trans (Fr.of_below hE _))
     replace hS := Hd.mk (hS.out.trans (Fr.of_below hE _))
     have b0 := b0.dn hE
     have b1 := b1.dn hE
     have b2 := b2.dn hE
     have bs := bs.dn hE
     have bv := bv.dn hE
     have HL := Hd.mk (R_below HL.out hE)
     have HN := Hd.mk (R_below HN.out hE)
     have HV := HV.ob hE
     clear hW hE
     have z8 := Hd.mk hz_; clear hz_
     have z0_ := z0.out; have z1_ := z1.out; have z2_ := z2.out; have z3_ := z3.out; have z4_ := z4.out; have z5_ := z5.out; have z6_ := z6.out; have z7_ := z7.out; have z8_ := z8.out
     refine (slices_Insert_json (S' := fun k => (T3 k ∨ SV k) ∧ k < w.heap.size ∨ W7.heap.size ≤ k) _ j.list v _ wN.heap.size p _ HL.out hpl bv.out HV.out (fun k h h2 => HD.out k (HT3.out k h2.1) h.1) (fun h => by have q_ := h.2; omega) (fun k h => .inl ⟨.inl h.1, h.2⟩) (fun k h => ⟨by have q_ := h.2; omega, .inl ⟨.inr h.1, h.2⟩⟩) (fun k h => .inr h) (by omega)).mono ?_
     rintro e wL ⟨vd, rfl, hR9, hX⟩
     obtain ⟨L2, hL2⟩ : ∃ z, z = j.list.take p ++ v :: j.list.drop p := ⟨_, rfl⟩
     rw [← hL2] at hR9
     have HL2 := Hd.mk hL2; clear hL2
     obtain ⟨A9, c9, hvd, _, _⟩ := R_C hR9
     subst hvd
     have b0 := Hd.mk (b0.out.fr hX (fun h => by have q_ := h.2; have z0_ := z0.out; have z1_ := z1.out; have z2_ := z2.out; have z3_ := z3.out; have z4_ := z4.out; have z5_ := z5.out; have z6_ := z6.out; have z7_ := z7.out; have z8_ := z8.out; omega))
     have b1 := Hd.mk (b1.out.fr hX (fun h => by have q_ := h.2; have z0_ := z0.out; have z1_ := z1.out; have z2_ := z2.out; have z3_ := z3.out; have z4_ := z4.out; have z5_ := z5.out; have z6_ := z6.out; have z7_ := z7.out; have z8_ := z8.out; omega))
     have b2 := Hd.mk (b2.out.fr hX (fun h => by have q_ := h.2; have z0_ := z0.out; have z1_ := z1.out; have z2_ := z2.out; have z3_ := z3.out; have z4_ := z4.out; have z5_ := z5.out; have z6_ := z6.out; have z7_ := z7.out; have z8_ := z8.out; omega))
     have bs := Hd.mk (bs.out.fr hX (fun h => by have q_ := h.2; have z0_ := z0.out; have z1_ := z1.out; have z2_ := z2.out; have z3_ := z3.out; have z4_ := z4.out; have z5_ := z5.out; have z6_ := z6.out; have z7_ := z7.out; have z8_ := z8.out; omega))
     have bv := Hd.mk (bv.out.fr hX (fun h => by have q_ := h.2; have z0_ := z0.out; have z1_ := z1.out; have z2_ := z2.out; have z3_ := z3.out; have z4_ := z4.out; have z5_ := z5.out; have z6_ := z6.out; have z7_ := z7.out; have z8_ := z8.out; omega))
     have HN := Hd.mk (R_fr HN.out hX (fun k hk hl h => by have z0_ := z0.out; have z1_ := z1.out; have z2_ := z2.out; have z3_ := z3.out; have z4_ := z4.out; have z5_ := z5.out; have z6_ := z6.out; have z7_ := z7.out; have z8_ := z8.out; rcases hk.1 with q_ | q_; exact H34.out k h.1 q_.1; (have q2_ := h.2; omega)))
     have hB := Hd.mk (hB.out.then_ hX (fun k h _ => .inl (HT3.out k h.1)))
     replace hS := Hd.mk (hS.out.trans (hX.mono (fun k _ h => ⟨.inl h.1, h.2⟩)))
     have hz_ := hX.size
     clear hX
     have z9 := Hd.mk hz_; clear hz_
     have HL := Hd.mk hR9; clear hR9
     go_wp2_with fail
     refine ⟨hS.out, ?_⟩
     refine mixT_fin ?_
     clear hS
     obtain ⟨v00, v01, v02, v03, v04, v0z⟩ := blk5 b0.out
     obtain ⟨v10, v11, v12, v13, v14, v1z⟩ := blk5 b1.out
     obtain ⟨v20, v21, v22, v23, v24, v2z⟩ := blk5 b2.out
     have fbs_0 : wL.cell? ⟨W3.heap.size, 0, none⟩ = some (.string s) := bs.out.cell 0 rfl
     have fbs_z := bs.out.frozen
     obtain ⟨fbv_0, fbv_1, fbv_2, fbv_3, fbv_4, fbv_z⟩ := blk5 bv.out
     refine tail_b rfl ?_ (by rfl)
     go_wp2_with fail
     refine mixQ_n ?_
     refine tail_b rfl ?_ (by rfl)
     go_wp2_with fail
     refine mixQ_n ?_
     refine tail_b rfl ?_ (by rfl)
     go_wp2_with fail
     refine mixQ_n ?_
     refine tail_nil ?_
     go_wp2_with fail
     refine bodyPost_retW (v := .tuple #[.agg #[.int .i64 j.kind, .int .i64 j.n, .string j.s, .slice A9 L2.length c9, .slice A8 N2.length c8], .bool true]) (by simp [results, Tryz.results53, go_sem, v00, v01, v02, v03, v04, v0z, v10, v11, v12, v13, v14, v1z, v20, v21, v22, v23, v24, v2z, fbs_0, fbs_z, fbv_0, fbv_1, fbv_2, fbv_3, fbv_4, fbv_z]) rfl ?_
     intro W hW
     clear v00 v01 v02 v03 v04 v0z v10 v11 v12 v13 v14 v1z v20 v21 v22 v23 v24 v2z fbs_0 fbs_z fbv_0 fbv_1 fbv_2 fbv_3 fbv_4 fbv_z
     have z0_ := z0.out; have z1_ := z1.out; have z2_ := z2.out; have z3_ := z3.out; have z4_ := z4.out; have z5_ := z5.out; have z6_ := z6.out; have z7_ := z7.out; have z8_ := z8.out; have z9_ := z9.out
     have eF : Fr wL W (fun k => k = w.heap.size ∨ k = w.heap.size + 2) := by rw [hW]; (repeat (first | with_reducible refine Fr.setCell ?_ _ (fun _ => by simp <;> omega) _ | with_reducible refine Fr.alloc ?_ _ | with_reducible refine Fr.drew ?_)); exact Fr.refl _ _
     refine pat_some (z := ⟨j.kind, j.n, j.s, L2, N2⟩) (cs := [Value.int IntKind.i64 j.kind, .int .i64 j.n, .string j.s, .slice A9 L2.length c9, .slice A8 N2.length c8]) (by rw [HL2.out, HN2.out]; exact HAV.out) rfl (tJ_O.2 ⟨_, _, fun k => (T3 k ∨ SV k) ∧ k < w.heap.size ∨ W7.heap.size ≤ k, fun k => (T4 k ∧ k < w.heap.size ∨ W5.heap.size ≤ k) ∧ k < wN.heap.size, rfl, hsj, R_fr HL.out eF (fun k hk hl h => by (try simp only at h); rcases hk with q_ | q_; (have q2_ := q_.2; omega); omega), R_fr HN.out eF (fun k hk hl h => by (try simp only at h); rcases hk.1 with q_ | q_; (have q2_ := q_.2; omega); omega), ?_, ?_, ?_⟩) (hB.out.then_ eF (fun k h hl => by (try simp only at h); omega))
     ·intro k h
      rcases h with h | h
      ·rcases h.1 with h1 | h1
       ·exact .inr (.inl (HT3.out k h1))
       ·exact .inr (.inr h1)
      ·exact .inl (by omega)
     ·intro k h
      rcases h.1 with h | h
      ·exact .inr (.inl (HT4.out k h.1))
      ·exact .inl (by omega)
     ·intro k h h2
      have q9 := h2.2
      rcases h with h | h
      ·rcases h2.1 with h2 | h2
       ·rcases h.1 with h1 | h1
        ·exact H34.out k h1 h2.1
        ·exact HD.out k (HT4.out k h2.1) h1
       ·have q_ := h.2
        omega
      ·omega
    ·refine stepM_of rfl ?_ (by rfl)
     go_wp2_with fail
     refine ⟨hS.out.alloc _, ?_⟩
     refine genT ?_; intro W5 hW
     have hz_ : W4.heap.size + 1 ≤ W5.heap.size := by rw [hW]; simp
     have hE : Below W4.heap.size W4 W5 := by rw [hW]; (repeat (first | with_reducible refine below_alloc ?_ _ | with_reducible refine below_drew ?_)); exact Below.refl _ _
     have hB := Hd.mk (hB.out.trans (Fr.of_below hE _))
     replace hS := Hd.mk (hS.out.trans (Fr.of_below hE _))
     have b0 := b0.dn hE
     have b1 := b1.dn hE
     have b2 := b2.dn hE
     have bs := bs.dn hE
     have bv := Hd.mk (show Blk W5 (W4.heap.size) #[.int .i64 v.kind, .int .i64 v.n, .string v.s, .slice A5 v.list.length c5, .slice A6 v.names.length c6] 32 by rw [hW]; first | exact (Blk.new _ _ _) | (simpa using (Blk.new _ _ _)))
     have HL := Hd.mk (R_below HL.out hE)
     have HN := Hd.mk (R_below HN.out hE)
     have HV := HV.ob hE
     clear hW hE
     have z5 := Hd.mk hz_; clear hz_
     refine mixT_b rfl ?_ (by rfl)
     go_wp2_with fail
     apply calls_gen; intro W6 hW
     have hz_ : W5.heap.size ≤ W6.heap.size := by rw [hW]; simp
     have hE : Below W5.heap.size W5 W6 := by rw [hW]; (repeat (first | with_reducible refine below_alloc ?_ _ | with_reducible refine below_drew ?_)); exact Below.refl _ _
     have hB := Hd.mk (hB.out.trans (Fr.of_below hE _))
     replace hS := Hd.mk (hS.out.trans (Fr.of_below hE _))
     have b0 := b0.dn hE
     have b1 := b1.dn hE
     have b2 := b2.dn hE
     have bs := bs.dn hE
     have bv := bv.dn hE
     have HL := Hd.mk (R_below HL.out hE)
     have HN := Hd.mk (R_below HN.out hE)
     have HV := HV.ob hE
     clear hW hE
     have z6 := Hd.mk hz_; clear hz_
     have z0_ := z0.out; have z1_ := z1.out; have z2_ := z2.out; have z3_ := z3.out; have z4_ := z4.out; have z5_ := z5.out; have z6_ := z6.out
     refine (slices_Insert_str (S' := fun k => T4 k ∧ k < w.heap.size ∨ W6.heap.size ≤ k) _ j.names s [.string s] W3.heap.size p _ HN.out hpn bs.out (T := fun _ => False) ⟨rfl, by omega⟩ (fun k h => h.elim) (fun h => by have q_ := h.2; omega) (fun k h => .inl h) (fun k h => h.elim) (fun k h => .inr h) (by have := hnl.out; omega)).mono ?_
     rintro e wN ⟨vd, rfl, hR9, hX⟩
     obtain ⟨N2, hN2⟩ : ∃ z, z = j.names.take p ++ s :: j.names.drop p := ⟨_, rfl⟩
     rw [← hN2] at hR9
     have HN2 := Hd.mk hN2; clear hN2
     obtain ⟨A8, c8, hvd, _, _⟩ := R_C hR9
     subst hvd
     have b0 := Hd.mk (b0.out.fr hX (fun h => by have q_ := h.2; have z0_ := z0.out; have z1_ := z1.out; have z2_ := z2.out; have z3_ := z3.out; have z4_ := z4.out; have z5_ := z5.out; have z6_ := z6.out; omega))
     have b1 := Hd.mk (b1.out.fr hX (fun h => by have q_ := h.2; have z0_ := z0.out; have z1_ := z1.out; have z2_ := z2.out; have z3_ := z3.out; have z4_ := z4.out; have z5_ := z5.out; have z6_ := z6.out; omega))
     have b2 := Hd.mk (b2.out.fr hX (fun h => by have q_ := h.2; have z0_ := z0.out; have z1_ := z1.out; have z2_ := z2.out; have z3_ := z3.out; have z4_ := z4.out; have z5_ := z5.out; have z6_ := z6.out; omega))
     have bs := Hd.mk (bs.out.fr hX (fun h => by have q_ := h.2; have z0_ := z0.out; have z1_ := z1.out; have z2_ := z2.out; have z3_ := z3.out; have z4_ := z4.out; have z5_ := z5.out; have z6_ := z6.out; omega))
     have bv := Hd.mk (bv.out.fr hX (fun h => by have q_ := h.2; have z0_ := z0.out; have z1_ := z1.out; have z2_ := z2.out; have z3_ := z3.out; have z4_ := z4.out; have z5_ := z5.out; have z6_ := z6.out; omega))
     have HL := Hd.mk (R_fr HL.out hX (fun k hk hl h => H34.out k hk.1 h.1))
     have HV := Hd.mk (Ty.O_fr HV.out hX (fun k hk hl h => HD.out k (HT4.out k h.1) hk.1))
     have hB := Hd.mk (hB.out.then_ hX (fun k h _ => .inl (HT4.out k h.1)))
     replace hS := Hd.mk (hS.out.trans (hX.mono (fun k _ h => ⟨.inr h.1, h.2⟩)))
     have hz_ := hX.size
     clear hX
     have z7 := Hd.mk hz_; clear hz_
     have HN := Hd.mk (R_bound hR9); clear hR9
     go_wp2_with fail
     refine ⟨hS.out, ?_⟩
     refine mixT_p rfl ?_
     go_big_quiet_want; go_big_quiet_op; go_big_quiet_on; refine wpQuiet_nil ?_
     refine mixT_b rfl ?_ (by rfl)
     go_wp2_with fail
     apply calls_gen; intro W7 hW
     have hz_ : wN.heap.size ≤ W7.heap.size := by rw [hW]; simp
     have hE : Below wN.heap.size wN W7 := by rw [hW]; (repeat (first | with_reducible refine below_alloc ?_ _ | with_reducible refine below_drew ?_)); exact Below.refl _ _
     have hB := Hd.mk (hB.out.trans (Fr.of_below hE _))
     replace hS := Hd.mk (hS.out.trans (Fr.of_below hE _))
     have b0 := b0.dn hE
     have b1 := b1.dn hE
     have b2 := b2.dn hE
     have bs := bs.dn hE
     have bv := bv.dn hE
     have HL := Hd.mk (R_below HL.out hE)
     have HN := Hd.mk (R_below HN.out hE)
     have HV := HV.ob hE
     clear hW hE
     have z8 := Hd.mk hz_; clear hz_
     have z0_ := z0.out; have z1_ := z1.out; have z2_ := z2.out; have z3_ := z3.out; have z4_ := z4.out; have z5_ := z5.out; have z6_ := z6.out; have z7_ := z7.out; have z8_ := z8.out
     refine (slices_Insert_json (S' := fun k => (T3 k ∨ SV k) ∧ k < w.heap.size ∨ W7.heap.size ≤ k) _ j.list v _ W4.heap.size p _ HL.out hpl bv.out HV.out (fun k h h2 => HD.out k (HT3.out k h2.1) h.1) (fun h => by have q_ := h.2; omega) (fun k h => .inl ⟨.inl h.1, h.2⟩) (fun k h => ⟨by have q_ := h.2; omega, .inl ⟨.inr h.1, h.2⟩⟩) (fun k h => .inr h) (by omega)).mono ?_
     rintro e wL ⟨vd, rfl, hR9, hX⟩
     obtain ⟨L2, hL2⟩ : ∃ z, z = j.list.take p ++ v :: j.list.drop p := ⟨_, rfl⟩
     rw [← hL2] at hR9
     have HL2 := Hd.mk hL2; clear hL2
     obtain ⟨A9, c9, hvd, _, _⟩ := R_C hR9
     subst hvd
     have b0 := Hd.mk (b0.out.fr hX (fun h => by have q_ := h.2; have z0_ := z0.out; have z1_ := z1.out; have z2_ := z2.out; have z3_ := z3.out; have z4_ := z4.out; have z5_ := z5.out; have z6_ := z6.out; have z7_ := z7.out; have z8_ := z8.out; omega))
     have b1 := Hd.mk (b1.out.fr hX (fun h => by have q_ := h.2; have z0_ := z0.out; have z1_ := z1.out; have z2_ := z2.out; have z3_ := z3.out; have z4_ := z4.out; have z5_ := z5.out; have z6_ := z6.out; have z7_ := z7.out; have z8_ := z8.out; omega))
     have b2 := Hd.mk (b2.out.fr hX (fun h => by have q_ := h.2; have z0_ := z0.out; have z1_ := z1.out; have z2_ := z2.out; have z3_ := z3.out; have z4_ := z4.out; have z5_ := z5.out; have z6_ := z6.out; have z7_ := z7.out; have z8_ := z8.out; omega))
     have bs := Hd.mk (bs.out.fr hX (fun h => by have q_ := h.2; have z0_ := z0.out; have z1_ := z1.out; have z2_ := z2.out; have z3_ := z3.out; have z4_ := z4.out; have z5_ := z5.out; have z6_ := z6.out; have z7_ := z7.out; have z8_ := z8.out; omega))
     have bv := Hd.mk (bv.out.fr hX (fun h => by have q_ := h.2; have z0_ := z0.out; have z1_ := z1.out; have z2_ := z2.out; have z3_ := z3.out; have z4_ := z4.out; have z5_ := z5.out; have z6_ := z6.out; have z7_ := z7.out; have z8_ := z8.out; omega))
     have HN := Hd.mk (R_fr HN.out hX (fun k hk hl h => by have z0_ := z0.out; have z1_ := z1.out; have z2_ := z2.out; have z3_ := z3.out; have z4_ := z4.out; have z5_ := z5.out; have z6_ := z6.out; have z7_ := z7.out; have z8_ := z8.out; rcases hk.1 with q_ | q_; exact H34.out k h.1 q_.1; (have q2_ := h.2; omega)))
     have hB := Hd.mk (hB.out.then_ hX (fun k h _ => .inl (HT3.out k h.1)))
     replace hS := Hd.mk (hS.out.trans (hX.mono (fun k _ h => ⟨.inl h.1, h.2⟩)))
     have hz_ := hX.size
     clear hX
     have z9 := Hd.mk hz_; clear hz_
     have HL := Hd.mk hR9; clear hR9
     go_wp2_with fail
     refine ⟨hS.out, ?_⟩
     refine mixT_fin ?_
     clear hS
     obtain ⟨v00, v01, v02, v03, v04, v0z⟩ := blk5 b0.out
     obtain ⟨v10, v11, v12, v13, v14, v1z⟩ := blk5 b1.out
     obtain ⟨v20, v21, v22, v23, v24, v2z⟩ := blk5 b2.out
     have fbs_0 : wL.cell? ⟨W3.heap.size, 0, none⟩ = some (.string s) := bs.out.cell 0 rfl
     have fbs_z := bs.out.frozen
     obtain ⟨fbv_0, fbv_1, fbv_2, fbv_3, fbv_4, fbv_z⟩ := blk5 bv.out
     refine tail_b rfl ?_ (by rfl)
     go_wp2_with fail
     refine mixQ_n ?_
     refine tail_b rfl ?_ (by rfl)
     go_wp2_with fail
     refine mixQ_n ?_
     refine tail_b rfl ?_ (by rfl)
     go_wp2_with fail
     refine mixQ_n ?_
     refine tail_nil ?_
     go_wp2_with fail
     refine bodyPost_retW (v := .tuple #[.agg #[.int .i64 j.kind, .int .i64 j.n, .string j.s, .slice A9 L2.length c9, .slice A8 N2.length c8], .bool true]) (by simp [results, Tryz.results53, go_sem, v00, v01, v02, v03, v04, v0z, v10, v11, v12, v13, v14, v1z, v20, v21, v22, v23, v24, v2z, fbs_0, fbs_z, fbv_0, fbv_1, fbv_2, fbv_3, fbv_4, fbv_z]) rfl ?_
     intro W hW
     clear v00 v01 v02 v03 v04 v0z v10 v11 v12 v13 v14 v1z v20 v21 v22 v23 v24 v2z fbs_0 fbs_z fbv_0 fbv_1 fbv_2 fbv_3 fbv_4 fbv_z
     have z0_ := z0.out; have z1_ := z1.out; have z2_ := z2.out; have z3_ := z3.out; have z4_ := z4.out; have z5_ := z5.out; have z6_ := z6.out; have z7_ := z7.out; have z8_ := z8.out; have z9_ := z9.out
     have eF : Fr wL W (fun k => k = w.heap.size ∨ k = w.heap.size + 2) := by rw [hW]; (repeat (first | with_reducible refine Fr.setCell ?_ _ (fun _ => by simp <;> omega) _ | with_reducible refine Fr.alloc ?_ _ | with_reducible refine Fr.drew ?_)); exact Fr.refl _ _
     refine pat_some (z := ⟨j.kind, j.n, j.s, L2, N2⟩) (cs := [Value.int IntKind.i64 j.kind, .int .i64 j.n, .string j.s, .slice A9 L2.length c9, .slice A8 N2.length c8]) (by rw [HL2.out, HN2.out]; exact HAV.out) rfl (tJ_O.2 ⟨_, _, fun k => (T3 k ∨ SV k) ∧ k < w.heap.size ∨ W7.heap.size ≤ k, fun k => (T4 k ∧ k < w.heap.size ∨ W6.heap.size ≤ k) ∧ k < wN.heap.size, rfl, hsj, R_fr HL.out eF (fun k hk hl h => by (try simp only at h); rcases hk with q_ | q_; (have q2_ := q_.2; omega); omega), R_fr HN.out eF (fun k hk hl h => by (try simp only at h); rcases hk.1 with q_ | q_; (have q2_ := q_.2; omega); omega), ?_, ?_, ?_⟩) (hB.out.then_ eF (fun k h hl => by (try simp only at h); omega))
     ·intro k h
      rcases h with h | h
      ·rcases h.1 with h1 | h1
       ·exact .inr (.inl (HT3.out k h1))
       ·exact .inr (.inr h1)
      ·exact .inl (by omega)
     ·intro k h
      rcases h.1 with h | h
      ·exact .inr (.inl (HT4.out k h.1))
      ·exact .inl (by omega)
     ·intro k h h2
      have q9 := h2.2
      rcases h with h | h
      ·rcases h2.1 with h2 | h2
       ·rcases h.1 with h1 | h1
        ·exact H34.out k h1 h2.1
        ·exact HD.out k (HT4.out k h2.1) h1
       ·have q_ := h.2
        omega
      ·omega
   ·refine stepM_of rfl ?_ (by rfl)
    go_wp2_with fail
    refine ⟨hS.out.alloc _, ?_⟩
    refine genT ?_; intro W4 hW
    have hz_ : W3.heap.size + 1 ≤ W4.heap.size := by rw [hW]; simp
    have hE : Below W3.heap.size W3 W4 := by rw [hW]; (repeat (first | with_reducible refine below_alloc ?_ _ | with_reducible refine below_drew ?_)); exact Below.refl _ _
    have hB := Hd.mk (hB.out.trans (Fr.of_below hE _))
    replace hS := Hd.mk (hS.out.trans (Fr.of_below hE _))
    have b0 := b0.dn hE
    have b1 := b1.dn hE
    have b2 := b2.dn hE
    have bv := Hd.mk (show Blk W4 (W3.heap.size) #[.int .i64 v.kind, .int .i64 v.n, .string v.s, .slice A5 v.list.length c5, .slice A6 v.names.length c6] 32 by rw [hW]; first | exact (Blk.new _ _ _) | (simpa using (Blk.new _ _ _)))
    have HL := Hd.mk (R_below HL.out hE)
    have HN := Hd.mk (R_below HN.out hE)
    have HV := HV.ob hE
    clear hW hE
    have z4 := Hd.mk hz_; clear hz_
    refine mixT_b rfl ?_ (by rfl)
    go_wp2_with fail
    refine ⟨hS.out.alloc _, ?_⟩
    refine genT ?_; intro W5 hW
    have hz_ : W4.heap.size + 1 ≤ W5.heap.size := by rw [hW]; simp
    have hE : Below W4.heap.size W4 W5 := by rw [hW]; (repeat (first | with_reducible refine below_alloc ?_ _ | with_reducible refine below_drew ?_)); exact Below.refl _ _
    have hB := Hd.mk (hB.out.trans (Fr.of_below hE _))
    replace hS := Hd.mk (hS.out.trans (Fr.of_below hE _))
    have b0 := b0.dn hE
    have b1 := b1.dn hE
    have b2 := b2.dn hE
    have bv := bv.dn hE
    have bs := Hd.mk (show Blk W5 (W4.heap.size) #[.string s] 9 by rw [hW]; first | exact (Blk.new _ _ _) | (simpa using (Blk.new _ _ _)))
    have HL := Hd.mk (R_below HL.out hE)
    have HN := Hd.mk (R_below HN.out hE)
    have HV := HV.ob hE
    clear hW hE
    have z5 := Hd.mk hz_; clear hz_
    refine mixT_b rfl ?_ (by rfl)
    go_wp2_with fail
    apply calls_gen; intro W6 hW
    have hz_ : W5.heap.size ≤ W6.heap.size := by rw [hW]; simp
    have hE : Below W5.heap.size W5 W6 := by rw [hW]; (repeat (first | with_reducible refine below_alloc ?_ _ | with_reducible refine below_drew ?_)); exact Below.refl _ _
    have hB := Hd.mk (hB.out.trans (Fr.of_below hE _))
    replace hS := Hd.mk (hS.out.trans (Fr.of_below hE _))
    have b0 := b0.dn hE
    have b1 := b1.dn hE
    have b2 := b2.dn hE
    have bv := bv.dn hE
    have bs := bs.dn hE
    have HL := Hd.mk (R_below HL.out hE)
    have HN := Hd.mk (R_below HN.out hE)
    have HV := HV.ob hE
    clear hW hE
    have z6 := Hd.mk hz_; clear hz_
    have z0_ := z0.out; have z1_ := z1.out; have z2_ := z2.out; have z3_ := z3.out; have z4_ := z4.out; have z5_ := z5.out; have z6_ := z6.out
    refine (slices_Insert_str (S' := fun k => T4 k ∧ k < w.heap.size ∨ W6.heap.size ≤ k) _ j.names s [.string s] W4.heap.size p _ HN.out hpn bs.out (T := fun _ => False) ⟨rfl, by omega⟩ (fun k h => h.elim) (fun h => by have q_ := h.2; omega) (fun k h => .inl h) (fun k h => h.elim) (fun k h => .inr h) (by have := hnl.out; omega)).mono ?_
    rintro e wN ⟨vd, rfl, hR9, hX⟩
    obtain ⟨N2, hN2⟩ : ∃ z, z = j.names.take p ++ s :: j.names.drop p := ⟨_, rfl⟩
    rw [← hN2] at hR9
    have HN2 := Hd.mk hN2; clear hN2
    obtain ⟨A8, c8, hvd, _, _⟩ := R_C hR9
    subst hvd
    have b0 := Hd.mk (b0.out.fr hX (fun h => by have q_ := h.2; have z0_ := z0.out; have z1_ := z1.out; have z2_ := z2.out; have z3_ := z3.out; have z4_ := z4.out; have z5_ := z5.out; have z6_ := z6.out; omega))
    have b1 := Hd.mk (b1.out.fr hX (fun h => by have q_ := h.2; have z0_ := z0.out; have z1_ := z1.out; have z2_ := z2.out; have z3_ := z3.out; have z4_ := z4.out; have z5_ := z5.out; have z6_ := z6.out; omega))
    have b2 := Hd.mk (b2.out.fr hX (fun h => by have q_ := h.2; have z0_ := z0.out; have z1_ := z1.out; have z2_ := z2.out; have z3_ := z3.out; have z4_ := z4.out; have z5_ := z5.out; have z6_ := z6.out; omega))
    have bv := Hd.mk (bv.out.fr hX (fun h => by have q_ := h.2; have z0_ := z0.out; have z1_ := z1.out; have z2_ := z2.out; have z3_ := z3.out; have z4_ := z4.out; have z5_ := z5.out; have z6_ := z6.out; omega))
    have bs := Hd.mk (bs.out.fr hX (fun h => by have q_ := h.2; have z0_ := z0.out; have z1_ := z1.out; have z2_ := z2.out; have z3_ := z3.out; have z4_ := z4.out; have z5_ := z5.out; have z6_ := z6.out; omega))
    have HL := Hd.mk (R_fr HL.out hX (fun k hk hl h => H34.out k hk.1 h.1))
    have HV := Hd.mk (Ty.O_fr HV.out hX (fun k hk hl h => HD.out k (HT4.out k h.1) hk.1))
    have hB := Hd.mk (hB.out.then_ hX (fun k h _ => .inl (HT4.out k h.1)))
    replace hS := Hd.mk (hS.out.trans (hX.mono (fun k _ h => ⟨.inr h.1, h.2⟩)))
    have hz_ := hX.size
    clear hX
    have z7 := Hd.mk hz_; clear hz_
    have HN := Hd.mk (R_bound hR9); clear hR9
    go_wp2_with fail
    refine ⟨hS.out, ?_⟩
    refine mixT_p rfl ?_
    go_big_quiet_want; go_big_quiet_op; go_big_quiet_on; refine wpQuiet_nil ?_
    refine mixT_b rfl ?_ (by rfl)
    go_wp2_with fail
    apply calls_gen; intro W7 hW
    have hz_ : wN.heap.size ≤ W7.heap.size := by rw [hW]; simp
    have hE : Below wN.heap.size wN W7 := by rw [hW]; (repeat (first | with_reducible refine below_alloc ?_ _ | with_reducible refine below_drew ?_)); exact Below.refl _ _
    have hB := Hd.mk (hB.out.trans (Fr.of_below hE _))
    replace hS := Hd.mk (hS.out.trans (Fr.of_below hE _))
    have b0 := b0.dn hE
    have b1 := b1.dn hE
    have b2 := b2.dn hE
    have bv := bv.dn hE
    have bs := bs.dn hE
    have HL := Hd.mk (R_below HL.out hE)
    have HN := Hd.mk (R_below HN.out hE)
    have HV := HV.ob hE
    clear hW hE
    have z8 := Hd.mk hz_; clear hz_
    have z0_ := z0.out; have z1_ := z1.out; have z2_ := z2.out; have z3_ := z3.out; have z4_ := z4.out; have z5_ := z5.out; have z6_ := z6.out; have z7_ := z7.out; have z8_ := z8.out
    refine (slices_Insert_json (S' := fun k => (T3 k ∨ SV k) ∧ k < w.heap.size ∨ W7.heap.size ≤ k) _ j.list v _ W3.heap.size p _ HL.out hpl bv.out HV.out (fun k h h2 => HD.out k (HT3.out k h2.1) h.1) (fun h => by have q_ := h.2; omega) (fun k h => .inl ⟨.inl h.1, h.2⟩) (fun k h => ⟨by have q_ := h.2; omega, .inl ⟨.inr h.1, h.2⟩⟩) (fun k h => .inr h) (by omega)).mono ?_
    rintro e wL ⟨vd, rfl, hR9, hX⟩
    obtain ⟨L2, hL2⟩ : ∃ z, z = j.list.take p ++ v :: j.list.drop p := ⟨_, rfl⟩
    rw [← hL2] at hR9
    have HL2 := Hd.mk hL2; clear hL2
    obtain ⟨A9, c9, hvd, _, _⟩ := R_C hR9
    subst hvd
    have b0 := Hd.mk (b0.out.fr hX (fun h => by have q_ := h.2; have z0_ := z0.out; have z1_ := z1.out; have z2_ := z2.out; have z3_ := z3.out; have z4_ := z4.out; have z5_ := z5.out; have z6_ := z6.out; have z7_ := z7.out; have z8_ := z8.out; omega))
    have b1 := Hd.mk (b1.out.fr hX (fun h => by have q_ := h.2; have z0_ := z0.out; have z1_ := z1.out; have z2_ := z2.out; have z3_ := z3.out; have z4_ := z4.out; have z5_ := z5.out; have z6_ := z6.out; have z7_ := z7.out; have z8_ := z8.out; omega))
    have b2 := Hd.mk (b2.out.fr hX (fun h => by have q_ := h.2; have z0_ := z0.out; have z1_ := z1.out; have z2_ := z2.out; have z3_ := z3.out; have z4_ := z4.out; have z5_ := z5.out; have z6_ := z6.out; have z7_ := z7.out; have z8_ := z8.out; omega))
    have bv := Hd.mk (bv.out.fr hX (fun h => by have q_ := h.2; have z0_ := z0.out; have z1_ := z1.out; have z2_ := z2.out; have z3_ := z3.out; have z4_ := z4.out; have z5_ := z5.out; have z6_ := z6.out; have z7_ := z7.out; have z8_ := z8.out; omega))
    have bs := Hd.mk (bs.out.fr hX (fun h => by have q_ := h.2; have z0_ := z0.out; have z1_ := z1.out; have z2_ := z2.out; have z3_ := z3.out; have z4_ := z4.out; have z5_ := z5.out; have z6_ := z6.out; have z7_ := z7.out; have z8_ := z8.out; omega))
    have HN := Hd.mk (R_fr HN.out hX (fun k hk hl h => by have z0_ := z0.out; have z1_ := z1.out; have z2_ := z2.out; have z3_ := z3.out; have z4_ := z4.out; have z5_ := z5.out; have z6_ := z6.out; have z7_ := z7.out; have z8_ := z8.out; rcases hk.1 with q_ | q_; exact H34.out k h.1 q_.1; (have q2_ := h.2; omega)))
    have hB := Hd.mk (hB.out.then_ hX (fun k h _ => .inl (HT3.out k h.1)))
    replace hS := Hd.mk (hS.out.trans (hX.mono (fun k _ h => ⟨.inl h.1, h.2⟩)))
    have hz_ := hX.size
    clear hX
    have z9 := Hd.mk hz_; clear hz_
    have HL := Hd.mk hR9; clear hR9
    go_wp2_with fail
    refine ⟨hS.out, ?_⟩
    refine mixT_fin ?_
    clear hS
    obtain ⟨v00, v01, v02, v03, v04, v0z⟩ := blk5 b0.out
    obtain ⟨v10, v11, v12, v13, v14, v1z⟩ := blk5 b1.out
    obtain ⟨v20, v21, v22, v23, v24, v2z⟩ := blk5 b2.out
    obtain ⟨fbv_0, fbv_1, fbv_2, fbv_3, fbv_4, fbv_z⟩ := blk5 bv.out
    have fbs_0 : wL.cell? ⟨W4.heap.size, 0, none⟩ = some (.string s) := bs.out.cell 0 rfl
    have fbs_z := bs.out.frozen
    refine tail_b rfl ?_ (by rfl)
    go_wp2_with fail
    refine mixQ_n ?_
    refine tail_b rfl ?_ (by rfl)
    go_wp2_with fail
    refine mixQ_n ?_
    refine tail_b rfl ?_ (by rfl)
    go_wp2_with fail
    refine mixQ_n ?_
    refine tail_nil ?_
    go_wp2_with fail
    refine bodyPost_retW (v := .tuple #[.agg #[.int .i64 j.kind, .int .i64 j.n, .string j.s, .slice A9 L2.length c9, .slice A8 N2.length c8], .bool true]) (by simp [results, Tryz.results53, go_sem, v00, v01, v02, v03, v04, v0z, v10, v11, v12, v13, v14, v1z, v20, v21, v22, v23, v24, v2z, fbv_0, fbv_1, fbv_2, fbv_3, fbv_4, fbv_z, fbs_0, fbs_z]) rfl ?_
    intro W hW
    clear v00 v01 v02 v03 v04 v0z v10 v11 v12 v13 v14 v1z v20 v21 v22 v23 v24 v2z fbv_0 fbv_1 fbv_2 fbv_3 fbv_4 fbv_z fbs_0 fbs_z
    have z0_ := z0.out; have z1_ := z1.out; have z2_ := z2.out; have z3_ := z3.out; have z4_ := z4.out; have z5_ := z5.out; have z6_ := z6.out; have z7_ := z7.out; have z8_ := z8.out; have z9_ := z9.out
    have eF : Fr wL W (fun k => k = w.heap.size ∨ k = w.heap.size + 2) := by rw [hW]; (repeat (first | with_reducible refine Fr.setCell ?_ _ (fun _ => by simp <;> omega) _ | with_reducible refine Fr.alloc ?_ _ | with_reducible refine Fr.drew ?_)); exact Fr.refl _ _
    refine pat_some (z := ⟨j.kind, j.n, j.s, L2, N2⟩) (cs := [Value.int IntKind.i64 j.kind, .int .i64 j.n, .string j.s, .slice A9 L2.length c9, .slice A8 N2.length c8]) (by rw [HL2.out, HN2.out]; exact HAV.out) rfl (tJ_O.2 ⟨_, _, fun k => (T3 k ∨ SV k) ∧ k < w.heap.size ∨ W7.heap.size ≤ k, fun k => (T4 k ∧ k < w.heap.size ∨ W6.heap.size ≤ k) ∧ k < wN.heap.size, rfl, hsj, R_fr HL.out eF (fun k hk hl h => by (try simp only at h); rcases hk with q_ | q_; (have q2_ := q_.2; omega); omega), R_fr HN.out eF (fun k hk hl h => by (try simp only at h); rcases hk.1 with q_ | q_; (have q2_ := q_.2; omega); omega), ?_, ?_, ?_⟩) (hB.out.then_ eF (fun k h hl => by (try simp only at h); omega))
    ·intro k h
     rcases h with h | h
     ·rcases h.1 with h1 | h1
      ·exact .inr (.inl (HT3.out k h1))
      ·exact .inr (.inr h1)
     ·exact .inl (by omega)
    ·intro k h
     rcases h.1 with h | h
     ·exact .inr (.inl (HT4.out k h.1))
     ·exact .inl (by omega)
    ·intro k h h2
     have q9 := h2.2
     rcases h with h | h
     ·rcases h2.1 with h2 | h2
      ·rcases h.1 with h1 | h1
       ·exact H34.out k h1 h2.1
       ·exact HD.out k (HT4.out k h2.1) h1
      ·have q_ := h.2
       omega
     ·omega
  ·have hao := add_old (v := v) HOW.out hk5 hb
   rw [← HP.out] at hao
   have hpl := hao.1
   have HAV := Hd.mk hao.2; clear hao hb
   obtain ⟨gl, cl, he, hgl, _⟩ := R_form HL.out (by omega)
   injection he with e1 e2 e3
   subst e1; subst e3; clear e2
   obtain ⟨Si, Ae, Be, ae, be, hH, hOe, hSg, hgw, ⟨x0, x1, x2, x3, x4⟩, xz, hlc, hc63⟩ := R_elem5 HL.out hpl
   have HH := Hd.mk hH; clear hH hOe
   have hpi : (p : Int) < (j.list.length : Int) := by omega
   have hgl2 := hgl.2
   have hBs := hB.out.size
   obtain ⟨v00, v01, v02, v03, v04, v0z⟩ := blk5 b0.out
   obtain ⟨v10, v11, v12, v13, v14, v1z⟩ := blk5 b1.out
   obtain ⟨v20, v21, v22, v23, v24, v2z⟩ := blk5 b2.out
   go_wp2_with fail
   refine bodyPost_retW (v := .tuple #[.agg #[.int .i64 j.kind, .int .i64 j.n, .string j.s, .slice (some ⟨gl, 0, none⟩) j.list.length c1, .slice A2 j.names.length c2], .bool true]) (by simp [results, Tryz.results53, go_sem, v00, v01, v02, v03, v04, v0z, v10, v11, v12, v13, v14, v1z, v20, v21, v22, v23, v24, v2z]) rfl ?_
   intro W hW
   clear v00 v01 v02 v03 v04 v0z v10 v11 v12 v13 v14 v1z v20 v21 v22 v23 v24 v2z
   have z1_ := z1.out; have z2_ := z2.out
   have hR1 := H_set5 HH.out rfl (z := v) (S' := fun k => (T3 k ∨ SV k) ∧ k < w.heap.size) HV.out (fun h => HD.out gl (HT3.out gl hgl.1) h.1) (fun k h => .inr (fun h2 => HD.out k (HT3.out k h2.1) h.1)) (fun k h => ⟨.inl h.1, h.2⟩) (fun k h => ⟨.inr h.1, h.2⟩)
   have hF1 := Fr.set5 w2 gl (p * 5) (p * 5 + 1) (p * 5 + 2) (p * 5 + 3) (p * 5 + 4) (Value.int IntKind.i64 v.kind) (Value.int IntKind.i64 v.n) (Value.string v.s) (Value.slice A5 v.list.length c5) (Value.slice A6 v.names.length c6)
   obtain ⟨Wa, hWa⟩ : ∃ z, z = (((((w2.setCell ⟨gl, p * 5, none⟩ (Value.int IntKind.i64 v.kind)).setCell ⟨gl, p * 5 + 1, none⟩ (Value.int IntKind.i64 v.n)).setCell ⟨gl, p * 5 + 2, none⟩ (Value.string v.s)).setCell ⟨gl, p * 5 + 3, none⟩ (Value.slice A5 v.list.length c5)).setCell ⟨gl, p * 5 + 4, none⟩ (Value.slice A6 v.names.length c6)) := ⟨_, rfl⟩
   rw [← hWa] at hR1 hF1
   have eF : Fr Wa W (fun k => k = w.heap.size + 2) := by rw [hW, hWa]; exact Fr.set5 _ _ _ _ _ _ _ _ _ _ _ _
   clear hW hWa
   exact pat_some (cs := [Value.int IntKind.i64 j.kind, .int .i64 j.n, .string j.s, .slice (some ⟨gl, 0, none⟩) j.list.length c1, .slice A2 j.names.length c2]) HAV.out rfl (tJ_O.2 ⟨_, _, fun k => (T3 k ∨ SV k) ∧ k < w.heap.size, fun k => T4 k ∧ k < w.heap.size, rfl, hsj, R_fr hR1 eF (fun k hk hl h => by have q_ := hk.2; (try simp only at h); omega), R_fr (R_fr HN.out hF1 (fun k hk hl h => by have h : k = gl := h; subst h; exact H34.out _ hgl.1 hk.1)) eF (fun k hk hl h => by have q_ := hk.2; (try simp only at h); omega), fun k h => by
    rcases h.1 with h1 | h1
    ·exact .inr (.inl (HT3.out k h1))
    ·exact .inr (.inr h1), fun k h => .inr (.inl (HT4.out k h.1)), fun k h h2 => by
    rcases h.1 with h1 | h1
    ·exact H34.out k h1 h2.1
    ·exact HD.out k (HT4.out k h2.1) h1⟩) (((Fr.of_below hB.out (fun k => S k ∨ SV k)).then_ hF1 (fun k h _ => by have h : k = gl := h; subst h; exact .inl (HT3.out _ hgl.1))).then_ eF (fun k h hl => by (try simp only at h); omega))
end Go.Proofs.YtegcecnjmimbiaaGreatDoor.X
namespace Go.Proofs.YtegcecnjmimbiaaGreatDoor.X
open Go.RowKit Go.Sort
set_option linter.unusedVariables false
set_option linter.unusedSimpArgs false
open Ty
def underL (s : ByteArray) (l : List JOp) : List JOp := l.map (fun o => ⟨o.kind, s :: o.way, o.value⟩)
theorem underL_append (s : ByteArray) (l : List JOp) (x : JOp) : underL s (l ++ [x]) = underL s l ++ [⟨x.kind, s :: x.way, x.value⟩] := by simp [underL]
theorem cnt_under (m : Nat) (s : ByteArray) (l : List JOp) : bulkL (cnOp m) (underL s l) = bulkL (cnOp m) l + l.length := by
 induction l with
 | nil => rfl
 | cons x l ih =>
  have e : underL s (x :: l) = ⟨x.kind, s :: x.way, x.value⟩ :: underL s l := rfl
  rw [e]
  simp only [bulkL, ih, cnOp, List.length_cons]
  omega
theorem cnt_opsLen (m : Nat) (l : List JOp) : l.length ≤ bulkOpS m l := by simp only [bulkOpS]; omega
theorem R_one' {W0 : World} {n : Nat} (s : ByteArray) (hs : s.size ≤ 9223372036854775807) (hn : W0.heap.size = n) : str.R 9 (W0.alloc (.cells #[.string s] 9)) (fun k => k = n) (.slice (some ⟨n, 0, none⟩) 1 1) [s] := by
 subst hn
 refine R_block (xs := [s]) (cap := 1) (heap_alloc_new W0 _) rfl (Nat.le_refl _) (by omega) rfl (fun _ => 0) (fun i x h => ?_)
 rcases i with _ | i
 ·simp at h
  subst h
  exact ⟨rfl, hs⟩
 ·simp at h
theorem append_oneN {P : Program} {ops : Array Oper} {rest : List Oper} {o : Oper} {a : Act} {Q : Exit → Act → World → Prop} {α : Type} (d : Ty α) {W : World} {n : Nat} (hn : W.heap.size = n) (hgd : o.guard = none) (s x : Operand) (t e : TypeId) (z : Value) (bytes : Nat)
  (ho : o.op = .call { callee := .builtin .append, args := #[s, x], argTypes := #[t, t] })
  (ht : P.underlying t = some (.slice e)) (hinfo : (P.info? e).map (fun i => (i.zero, i.size, i.bytes)) = some (some z, d.sz, bytes)) (hz : z.cells.size = d.sz) (hsz : 0 < d.sz) (hb0 : 0 < bytes)
  {S S' T : Nat → Prop} {v : Value} {xs : List α} (y : α) (cs : List Value)
  (hs : a.eval s = v) (hx : a.eval x = .slice (some ⟨n, 0, none⟩) 1 1) (HR : d.R e W S v xs) (hO : d.O W T y cs)
  (hST : ∀ k, T k → k < W.heap.size → ¬ S k) (hS : ∀ k, S k → S' k) (hT : ∀ k, T k → S' k) (hnew : ∀ k, n ≤ k → S' k)
  (hbytes : (xs.length + 1) * bytes ≤ 140737488355328)
  (h : ∀ v1 w1, d.R e w1 S' v1 (xs ++ [y]) → Fr W w1 S → wpList P ops Q rest (a.put o.dst v1) w1) :
  wpList P ops Q (o :: rest) a (W.alloc (.cells cs.toArray e)) := by
 subst hn
 exact append_one d hgd s x t e z bytes ho ht hinfo hz hsz hb0 y cs hs hx HR hO hST hS hT hnew hbytes h
theorem store_blk {P : Program} {ops : Array Oper} {rest : List Oper} {o : Oper} {a : Act} {w : World} {Q : Exit → Act → World → Prop} (hgd : o.guard = none) (ty : TypeId) (x y : Operand) (ho : o.op = .store ty x y)
  (g : Nat) (cells : Array Value) (hx : a.eval x = .pointer (some ⟨g, 0, none⟩)) (hy : a.eval y = .agg cells) {t : TypeId} {old : Array Value} (b : Blk w g old t) (hi : (P.info? ty).map (·.size) = some cells.size)
  (hold : old.size = cells.size) (h1 : cells.all (·.oneCell') = true)
  (h : ∀ W, Blk W g cells t → Fr w W (fun k => k = g) → W.heap.size = w.heap.size → wpList P ops Q rest (a.put o.dst undef) W) : wpList P ops Q (o :: rest) a w := by
 refine wpList_store_row hgd ty x y ho g cells hx hy t old b hi hold h1 (h _ ?_ ?_ ?_)
 ·show (w.setRow g cells).heap[g]? = _
  unfold World.setRow
  simp [Array.getElem?_modify, show w.heap[g]? = some (.cells old t (0, 0)) from b]
 ·refine ⟨rfl, rfl, rfl, by simp [World.setRow], fun k hk hn => ?_⟩
  unfold World.setRow
  have hn : ¬ k = g := hn
  rw [Array.getElem?_modify, if_neg (fun e : g = k => hn e.symm)]
 ·simp [World.setRow]
theorem info7 : (Tryz.prog.info? 37).map (·.size) = some 7 := by kernel_rfl
theorem Fr.box7 (w : World) (g : Nat) (a0 a1 a2 a3 a4 a5 a6 : Value) {o : Obj} : Fr w ((((((((w.setCell ⟨g, 0, none⟩ a0).setCell ⟨g, 1, none⟩ a1).setCell ⟨g, 2, none⟩ a2).setCell ⟨g, 3, none⟩ a3).setCell ⟨g, 4, none⟩ a4).setCell ⟨g, 5, none⟩ a5).setCell ⟨g, 6, none⟩ a6).alloc o) (fun k => k = g) :=
 Fr.alloc (by
  refine Fr.setCell (S := fun k => k = g) ?_ _ (fun _ => rfl) _
  refine Fr.setCell (S := fun k => k = g) ?_ _ (fun _ => rfl) _
  refine Fr.setCell (S := fun k => k = g) ?_ _ (fun _ => rfl) _
  refine Fr.setCell (S := fun k => k = g) ?_ _ (fun _ => rfl) _
  refine Fr.setCell (S := fun k => k = g) ?_ _ (fun _ => rfl) _
  refine Fr.setCell (S := fun k => k = g) ?_ _ (fun _ => rfl) _
  refine Fr.setCell (S := fun k => k = g) ?_ _ (fun _ => rfl) _
  exact Fr.refl _ _) o
end Go.Proofs.YtegcecnjmimbiaaGreatDoor.X
namespace Go.Proofs.YtegcecnjmimbiaaGreatDoor.X
open Go.RowKit Go.Sort
set_option linter.unusedVariables false
set_option linter.unusedSimpArgs false
open Ty
set_option maxRecDepth 100000 in
theorem impl_whole {B : Nat} {S : Nat → Prop} (j : J) (cs : List Value) (o : JOp) (co : List Value) (w : World) (hj : (tJ (B + 1)).O w S j cs) (ho : (tOp (B + 1)).K w o co) (hb : bulkJ (B + 1) o.value ≤ 4194304) (hk : 1 ≤ o.kind ∧ o.kind ≤ 4) :
  Calls Tryz.prog 52 #[.agg cs.toArray, .agg co.toArray] w fun e w' => PatPost (B + 1) w S (wholeV o j) e w' := by
 obtain ⟨v3, v4, _, _, rfl, hsj, hr3, hr4, _⟩ := tJ_O.1 hj
 obtain ⟨A1, c1, rfl, hc1, _⟩ := R_C hr3
 obtain ⟨A2, c2, rfl, hc2, _⟩ := R_C hr4
 clear hr3 hr4
 have HJ := Hd.mk hj; clear hj
 obtain ⟨AW, cW, _, rfl, ⟨hcw, hrw⟩, hjo⟩ := tOp_K.1 ho
 have HKJ := Hd.mk hjo
 obtain ⟨A3, c3, A4, c4, rfl, hso, ⟨hc3, hr3⟩, hc4, hr4⟩ := tJ_K.1 hjo
 clear hr3 hr4 ho hjo
 have HBU := Hd.mk hb; clear hb
 obtain ⟨kk, hkk⟩ : ∃ z, z = o.kind := ⟨_, rfl⟩
 rw [← hkk] at hk ⊢
 have hB := Hd.mk (Below.refl w.heap.size w)
 obtain hk1 | hk1 | hk1 | hk1 : kk = 1 ∨ kk = 2 ∨ kk = 3 ∨ kk = 4 := by omega
 ·subst hk1
  have HKK := Hd.mk hkk; clear hkk hk
  go_enter Tryz.func52, Tryz.ntmps52
  go_wp2_with fail
  apply calls_gen; intro W1 hW
  have hz_ : w.heap.size + 3 ≤ W1.heap.size := by rw [hW]; simp
  have hE : Below w.heap.size w W1 := by rw [hW]; (repeat (first | with_reducible refine below_alloc ?_ _ | with_reducible refine below_drew ?_)); exact Below.refl _ _
  have hB := hB.th hE
  have b0 := Hd.mk (show Blk W1 (w.heap.size) #[.int .i64 j.kind, .int .i64 j.n, .string j.s, .slice A1 j.list.length c1, .slice A2 j.names.length c2] 32 by rw [hW]; first | exact (((Blk.new _ _ _).alloc _).alloc _) | (simpa using (((Blk.new _ _ _).alloc _).alloc _)))
  have b1 := Hd.mk (show Blk W1 (w.heap.size + 1) #[.int .i64 1, .slice AW o.way.length cW, .int .i64 o.value.kind, .int .i64 o.value.n, .string o.value.s, .slice A3 o.value.list.length c3, .slice A4 o.value.names.length c4] 37 by rw [hW]; first | exact ((Blk.new1 _ _ _ _).alloc _) | (simpa using ((Blk.new1 _ _ _ _).alloc _)))
  have b2 := Hd.mk (show Blk W1 (w.heap.size + 1 + 1) #[.int .i64 0, .int .i64 0, .string ⟨#[]⟩, .slice none 0 0, .slice none 0 0] 32 by rw [hW]; first | exact (Blk.new2 _ _ _ _ _) | (simpa using (Blk.new2 _ _ _ _ _)))
  clear hW hE
  have z1 := Hd.mk hz_; clear hz_
  refine (impl_copyJson o.value _ _ (Ty.K_below _ hB.out HKJ.out) HBU.out).mono ?_
  rintro e w2 ⟨cy, rfl, hY, hX⟩
  have b0 := b0.dn hX
  have b1 := b1.dn hX
  have b2 := b2.dn hX
  have hB := hB.th hX
  have hz_ := hX.size
  clear hX
  have z2 := Hd.mk hz_; clear hz_
  obtain ⟨v3, v4, _, _, hcy, _, h3_, h4_, _⟩ := tJ_O.1 hY
  obtain ⟨A7, c7, rfl, _, _⟩ := R_C h3_
  obtain ⟨A8, c8, rfl, _, _⟩ := R_C h4_
  clear h3_ h4_
  subst hcy
  replace hY := Hd.mk (show (tJ (B + 1)).O w2 (rng W1.heap.size w2.heap.size) o.value _ from Ty.O_bound _ hY)
  obtain ⟨v00, v01, v02, v03, v04, v0z⟩ := blk5 b0.out
  obtain ⟨v10, v11, v12, v13, v14, v15, v16, v1z⟩ := blk7 b1.out
  obtain ⟨v20, v21, v22, v23, v24, v2z⟩ := blk5 b2.out
  go_wp2_with fail
  refine bodyPost_retW (v := .tuple #[.agg #[.int .i64 o.value.kind, .int .i64 o.value.n, .string o.value.s, .slice A7 o.value.list.length c7, .slice A8 o.value.names.length c8], .bool true]) (by simp [results, Tryz.results52, go_sem, v00, v01, v02, v03, v04, v0z, v10, v11, v12, v13, v14, v15, v16, v1z, v20, v21, v22, v23, v24, v2z]) rfl ?_
  intro W hW
  clear v00 v01 v02 v03 v04 v0z v10 v11 v12 v13 v14 v15 v16 v1z v20 v21 v22 v23 v24 v2z
  have hz_ : w2.heap.size ≤ W.heap.size := by rw [hW]; simp
  have eF : Fr w2 W (fun k => k = w.heap.size + 1 + 1 ∨ w2.heap.size ≤ k) := by rw [hW]; (repeat (first | with_reducible refine Fr.setCell ?_ _ (fun _ => by simp <;> omega) _ | with_reducible refine Fr.alloc ?_ _ | with_reducible refine Fr.drew ?_)); exact Fr.refl _ _
  have z1_ := z1.out; have z2_ := z2.out
  have hB := Hd.mk (((Fr.of_below hB.out (fun k => k = w.heap.size + 1 + 1 ∨ w2.heap.size ≤ k)).then_ eF (fun k hk _ => hk)).below (fun k hk => by have := hB.out.size; omega))
  have b0 := Hd.mk (b0.out.fr eF (fun h => by have hlt_ := b0.out.lt; (try simp only at h); omega))
  have b1 := Hd.mk (b1.out.fr eF (fun h => by have hlt_ := b1.out.lt; (try simp only at h); omega))
  have b2 := Hd.mk (show Blk W (w.heap.size + 1 + 1) #[.int .i64 o.value.kind, .int .i64 o.value.n, .string o.value.s, .slice A7 o.value.list.length c7, .slice A8 o.value.names.length c8] 32 by rw [hW]; exact (Blk.all b2.out [Value.int IntKind.i64 o.value.kind, .int .i64 o.value.n, .string o.value.s, .slice A7 o.value.list.length c7, .slice A8 o.value.names.length c8] rfl))
  have hY := Hd.mk (Ty.O_fr hY.out eF (fun k hk hl h => by skip; (try simp only [rng] at hk); (try simp only at hk); (try simp only at h); omega))
  clear hW eF
  have z3 := Hd.mk hz_; clear hz_
  have z1_ := z1.out; have z2_ := z2.out
  exact pat_some (z := o.value) (cs := [Value.int IntKind.i64 o.value.kind, .int .i64 o.value.n, .string o.value.s, .slice A7 o.value.list.length c7, .slice A8 o.value.names.length c8]) (by unfold wholeV; rw [← HKK.out]; rfl) rfl (Ty.O_mono _ (fun k h => by have q_ := h.1; exact .inl (by omega)) hY.out) (Fr.of_below hB.out S)
 ·subst hk1
  have HKK := Hd.mk hkk; clear hkk hk
  go_enter Tryz.func52, Tryz.ntmps52
  go_wp2_with fail
  refine bodyPost_retW (v := .tuple #[.agg #[.int .i64 0, .int .i64 0, .string ⟨#[]⟩, .slice none 0 0, .slice none 0 0], .bool false]) (by simp [results, Tryz.results52, go_sem]) rfl ?_
  intro W hW
  have eF : Fr w W (fun k => w.heap.size ≤ k) := by rw [hW]; (repeat (first | with_reducible refine Fr.setCell ?_ _ (fun _ => by simp <;> omega) _ | with_reducible refine Fr.alloc ?_ _ | with_reducible refine Fr.drew ?_)); exact Fr.refl _ _
  exact pat_none (by unfold wholeV; rw [← HKK.out]; rfl) rfl (Fr.of_below (eF.below (fun k h => h)) S)
 ·subst hk1
  have HKK := Hd.mk hkk; clear hkk hk
  go_enter Tryz.func52, Tryz.ntmps52
  go_wp2_with fail
  apply calls_gen; intro W1 hW
  have hz_ : w.heap.size + 3 ≤ W1.heap.size := by rw [hW]; simp
  have hE : Below w.heap.size w W1 := by rw [hW]; (repeat (first | with_reducible refine below_alloc ?_ _ | with_reducible refine below_drew ?_)); exact Below.refl _ _
  have hB := hB.th hE
  have b0 := Hd.mk (show Blk W1 (w.heap.size) #[.int .i64 j.kind, .int .i64 j.n, .string j.s, .slice A1 j.list.length c1, .slice A2 j.names.length c2] 32 by rw [hW]; first | exact (((Blk.new _ _ _).alloc _).alloc _) | (simpa using (((Blk.new _ _ _).alloc _).alloc _)))
  have b1 := Hd.mk (show Blk W1 (w.heap.size + 1) #[.int .i64 3, .slice AW o.way.length cW, .int .i64 o.value.kind, .int .i64 o.value.n, .string o.value.s, .slice A3 o.value.list.length c3, .slice A4 o.value.names.length c4] 37 by rw [hW]; first | exact ((Blk.new1 _ _ _ _).alloc _) | (simpa using ((Blk.new1 _ _ _ _).alloc _)))
  have b2 := Hd.mk (show Blk W1 (w.heap.size + 1 + 1) #[.int .i64 0, .int .i64 0, .string ⟨#[]⟩, .slice none 0 0, .slice none 0 0] 32 by rw [hW]; first | exact (Blk.new2 _ _ _ _ _) | (simpa using (Blk.new2 _ _ _ _ _)))
  clear hW hE
  have z1 := Hd.mk hz_; clear hz_
  refine (impl_copyJson o.value _ _ (Ty.K_below _ hB.out HKJ.out) HBU.out).mono ?_
  rintro e w2 ⟨cy, rfl, hY, hX⟩
  have b0 := b0.dn hX
  have b1 := b1.dn hX
  have b2 := b2.dn hX
  have hB := hB.th hX
  have hz_ := hX.size
  clear hX
  have z2 := Hd.mk hz_; clear hz_
  obtain ⟨v3, v4, _, _, hcy, _, h3_, h4_, _⟩ := tJ_O.1 hY
  obtain ⟨A7, c7, rfl, _, _⟩ := R_C h3_
  obtain ⟨A8, c8, rfl, _, _⟩ := R_C h4_
  clear h3_ h4_
  subst hcy
  replace hY := Hd.mk (show (tJ (B + 1)).O w2 (rng W1.heap.size w2.heap.size) o.value _ from Ty.O_bound _ hY)
  obtain ⟨v00, v01, v02, v03, v04, v0z⟩ := blk5 b0.out
  obtain ⟨v10, v11, v12, v13, v14, v15, v16, v1z⟩ := blk7 b1.out
  obtain ⟨v20, v21, v22, v23, v24, v2z⟩ := blk5 b2.out
  go_wp2_with fail
  refine bodyPost_retW (v := .tuple #[.agg #[.int .i64 o.value.kind, .int .i64 o.value.n, .string o.value.s, .slice A7 o.value.list.length c7, .slice A8 o.value.names.length c8], .bool true]) (by simp [results, Tryz.results52, go_sem, v00, v01, v02, v03, v04, v0z, v10, v11, v12, v13, v14, v15, v16, v1z, v20, v21, v22, v23, v24, v2z]) rfl ?_
  intro W hW
  clear v00 v01 v02 v03 v04 v0z v10 v11 v12 v13 v14 v15 v16 v1z v20 v21 v22 v23 v24 v2z
  have hz_ : w2.heap.size ≤ W.heap.size := by rw [hW]; simp
  have eF : Fr w2 W (fun k => k = w.heap.size + 1 + 1 ∨ w2.heap.size ≤ k) := by rw [hW]; (repeat (first | with_reducible refine Fr.setCell ?_ _ (fun _ => by simp <;> omega) _ | with_reducible refine Fr.alloc ?_ _ | with_reducible refine Fr.drew ?_)); exact Fr.refl _ _
  have z1_ := z1.out; have z2_ := z2.out
  have hB := Hd.mk (((Fr.of_below hB.out (fun k => k = w.heap.size + 1 + 1 ∨ w2.heap.size ≤ k)).then_ eF (fun k hk _ => hk)).below (fun k hk => by have := hB.out.size; omega))
  have b0 := Hd.mk (b0.out.fr eF (fun h => by have hlt_ := b0.out.lt; (try simp only at h); omega))
  have b1 := Hd.mk (b1.out.fr eF (fun h => by have hlt_ := b1.out.lt; (try simp only at h); omega))
  have b2 := Hd.mk (show Blk W (w.heap.size + 1 + 1) #[.int .i64 o.value.kind, .int .i64 o.value.n, .string o.value.s, .slice A7 o.value.list.length c7, .slice A8 o.value.names.length c8] 32 by rw [hW]; exact (Blk.all b2.out [Value.int IntKind.i64 o.value.kind, .int .i64 o.value.n, .string o.value.s, .slice A7 o.value.list.length c7, .slice A8 o.value.names.length c8] rfl))
  have hY := Hd.mk (Ty.O_fr hY.out eF (fun k hk hl h => by skip; (try simp only [rng] at hk); (try simp only at hk); (try simp only at h); omega))
  clear hW eF
  have z3 := Hd.mk hz_; clear hz_
  have z1_ := z1.out; have z2_ := z2.out
  exact pat_some (z := o.value) (cs := [Value.int IntKind.i64 o.value.kind, .int .i64 o.value.n, .string o.value.s, .slice A7 o.value.list.length c7, .slice A8 o.value.names.length c8]) (by unfold wholeV; rw [← HKK.out]; rfl) rfl (Ty.O_mono _ (fun k h => by have q_ := h.1; exact .inl (by omega)) hY.out) (Fr.of_below hB.out S)
 ·subst hk1
  have HKK := Hd.mk hkk; clear hkk hk
  go_enter Tryz.func52, Tryz.ntmps52
  go_wp2_with fail
  apply wp_gen; intro W1 hW
  have hz_ : w.heap.size + 3 ≤ W1.heap.size := by rw [hW]; simp
  have hE : Below w.heap.size w W1 := by rw [hW]; (repeat (first | with_reducible refine below_alloc ?_ _ | with_reducible refine below_drew ?_)); exact Below.refl _ _
  have hB := hB.th hE
  have b0 := Hd.mk (show Blk W1 (w.heap.size) #[.int .i64 j.kind, .int .i64 j.n, .string j.s, .slice A1 j.list.length c1, .slice A2 j.names.length c2] 32 by rw [hW]; first | exact (((Blk.new _ _ _).alloc _).alloc _) | (simpa using (((Blk.new _ _ _).alloc _).alloc _)))
  have b1 := Hd.mk (show Blk W1 (w.heap.size + 1) #[.int .i64 4, .slice AW o.way.length cW, .int .i64 o.value.kind, .int .i64 o.value.n, .string o.value.s, .slice A3 o.value.list.length c3, .slice A4 o.value.names.length c4] 37 by rw [hW]; first | exact ((Blk.new1 _ _ _ _).alloc _) | (simpa using ((Blk.new1 _ _ _ _).alloc _)))
  have b2 := Hd.mk (show Blk W1 (w.heap.size + 1 + 1) #[.int .i64 0, .int .i64 0, .string ⟨#[]⟩, .slice none 0 0, .slice none 0 0] 32 by rw [hW]; first | exact (Blk.new2 _ _ _ _ _) | (simpa using (Blk.new2 _ _ _ _ _)))
  clear hW hE
  have z1 := Hd.mk hz_; clear hz_
  obtain ⟨v00, v01, v02, v03, v04, v0z⟩ := blk5 b0.out
  obtain ⟨v10, v11, v12, v13, v14, v15, v16, v1z⟩ := blk7 b1.out
  obtain ⟨v20, v21, v22, v23, v24, v2z⟩ := blk5 b2.out
  obtain ⟨rv00, rv01, rv02, rv03, rv04, rv10, rv11⟩ := reg7 v00 v01 v02 v03 v04 v10 v11
  obtain ⟨rv12, rv13, rv14, rv15, rv16⟩ := reg5 v12 v13 v14 v15 v16
  obtain ⟨rv20, rv21, rv22, rv23, rv24⟩ := reg5 v20 v21 v22 v23 v24
  refine region_mixT (.q 0 (.q 1 (.p 2 (.q 3 (.b 4 .fin))))) [5, 6] (by kernel_rfl) (by kernel_rfl) (fun _ _ _ _ _ h => h) ?_
  refine genT ?_
  intro W2 hW
  have hS := Hd.mk (show Below W1.heap.size W1 W2 by rw [hW]; exact below_drew (Below.refl _ _))
  have hz_ : W1.heap.size ≤ W2.heap.size := by rw [hW]; simp
  have hE : Below W1.heap.size W1 W2 := by rw [hW]; (repeat (first | with_reducible refine below_alloc ?_ _ | with_reducible refine below_drew ?_)); exact Below.refl _ _
  have hB := hB.th hE
  have b0 := b0.dn hE
  have b1 := b1.dn hE
  have b2 := b2.dn hE
  clear hW hE
  have z2 := Hd.mk hz_; clear hz_
  iterate 4 ((first | refine mixT_q rfl ?_ | refine mixT_p rfl ?_); go_big_quiet_want; go_big_quiet_op; go_big_quiet_on; refine wpQuiet_nil ?_)
  refine mixT_b rfl ?_ (by rfl)
  go_wp2_with fail
  apply calls_gen; intro W3 hW
  have hz_ : W2.heap.size ≤ W3.heap.size := by rw [hW]; simp
  have hE : Below W2.heap.size W2 W3 := by rw [hW]; (repeat (first | with_reducible refine below_alloc ?_ _ | with_reducible refine below_drew ?_)); exact Below.refl _ _
  have hB := hB.th hE
  replace hS := Hd.mk (below_then hS.out hE)
  have b0 := b0.dn hE
  have b1 := b1.dn hE
  have b2 := b2.dn hE
  clear hW hE
  have z3 := Hd.mk hz_; clear hz_
  refine (alike_all (B + 1) j o.value _ _ _ (Ty.O_K _ (Ty.O_below HJ.out hB.out)) (Ty.K_below _ hB.out HKJ.out)).mono ?_
  rintro e w4 ⟨rfl, hX⟩
  have b0 := b0.dn hX
  have b1 := b1.dn hX
  have b2 := b2.dn hX
  have hB := hB.th hX
  replace hS := Hd.mk (below_then hS.out hX)
  have hz_ := hX.size
  clear hX
  have z4 := Hd.mk hz_; clear hz_
  go_wp2_with fail
  refine ⟨cls_below hS.out, ?_⟩
  refine mixT_fin ?_
  clear hS
  clear rv00 rv01 rv02 rv03 rv04 rv10 rv11 rv12 rv13 rv14 rv15 rv16 rv20 rv21 rv22 rv23 rv24
  clear v00 v01 v02 v03 v04 v0z v10 v11 v12 v13 v14 v15 v16 v1z v20 v21 v22 v23 v24 v2z
  obtain ⟨v00, v01, v02, v03, v04, v0z⟩ := blk5 b0.out
  obtain ⟨v10, v11, v12, v13, v14, v15, v16, v1z⟩ := blk7 b1.out
  obtain ⟨v20, v21, v22, v23, v24, v2z⟩ := blk5 b2.out
  refine tail_b rfl ?_ (by rfl)
  go_wp2_with fail
  refine mixQ_n ?_
  refine tail_b rfl ?_ (by rfl)
  go_wp2_with fail
  refine mixQ_n ?_
  refine tail_nil ?_
  cases heq : eqv j o.value
  ·go_wp2_with fail
   refine bodyPost_retW (v := .tuple #[.agg #[.int .i64 j.kind, .int .i64 j.n, .string j.s, .slice A1 j.list.length c1, .slice A2 j.names.length c2], .bool false]) (by simp [results, Tryz.results52, go_sem, v00, v01, v02, v03, v04, v0z, v10, v11, v12, v13, v14, v15, v16, v1z, v20, v21, v22, v23, v24, v2z]) rfl ?_
   intro W hW
   clear v00 v01 v02 v03 v04 v0z v10 v11 v12 v13 v14 v15 v16 v1z v20 v21 v22 v23 v24 v2z
   have hz_ : w4.heap.size ≤ W.heap.size := by rw [hW]; simp
   have eF : Fr w4 W (fun k => k = w.heap.size + 1 + 1 ∨ w4.heap.size ≤ k) := by rw [hW]; (repeat (first | with_reducible refine Fr.setCell ?_ _ (fun _ => by simp <;> omega) _ | with_reducible refine Fr.alloc ?_ _ | with_reducible refine Fr.drew ?_)); exact Fr.refl _ _
   have z1_ := z1.out; have z2_ := z2.out; have z3_ := z3.out; have z4_ := z4.out
   have hB := Hd.mk (((Fr.of_below hB.out (fun k => k = w.heap.size + 1 + 1 ∨ w4.heap.size ≤ k)).then_ eF (fun k hk _ => hk)).below (fun k hk => by have := hB.out.size; omega))
   have b0 := Hd.mk (b0.out.fr eF (fun h => by have hlt_ := b0.out.lt; (try simp only at h); omega))
   have b1 := Hd.mk (b1.out.fr eF (fun h => by have hlt_ := b1.out.lt; (try simp only at h); omega))
   have b2 := Hd.mk (show Blk W (w.heap.size + 1 + 1) #[.int .i64 j.kind, .int .i64 j.n, .string j.s, .slice A1 j.list.length c1, .slice A2 j.names.length c2] 32 by rw [hW]; exact (Blk.all b2.out [Value.int IntKind.i64 j.kind, .int .i64 j.n, .string j.s, .slice A1 j.list.length c1, .slice A2 j.names.length c2] rfl))
   clear hW eF
   have z5 := Hd.mk hz_; clear hz_
   exact pat_none (by unfold wholeV; rw [← HKK.out, heq]; rfl) rfl (Fr.of_below hB.out S)
  ·go_wp2_with fail
   refine bodyPost_retW (v := .tuple #[.agg #[.int .i64 j.kind, .int .i64 j.n, .string j.s, .slice A1 j.list.length c1, .slice A2 j.names.length c2], .bool true]) (by simp [results, Tryz.results52, go_sem, v00, v01, v02, v03, v04, v0z, v10, v11, v12, v13, v14, v15, v16, v1z, v20, v21, v22, v23, v24, v2z]) rfl ?_
   intro W hW
   clear v00 v01 v02 v03 v04 v0z v10 v11 v12 v13 v14 v15 v16 v1z v20 v21 v22 v23 v24 v2z
   have hz_ : w4.heap.size ≤ W.heap.size := by rw [hW]; simp
   have eF : Fr w4 W (fun k => k = w.heap.size + 1 + 1 ∨ w4.heap.size ≤ k) := by rw [hW]; (repeat (first | with_reducible refine Fr.setCell ?_ _ (fun _ => by simp <;> omega) _ | with_reducible refine Fr.alloc ?_ _ | with_reducible refine Fr.drew ?_)); exact Fr.refl _ _
   have z1_ := z1.out; have z2_ := z2.out; have z3_ := z3.out; have z4_ := z4.out
   have hB := Hd.mk (((Fr.of_below hB.out (fun k => k = w.heap.size + 1 + 1 ∨ w4.heap.size ≤ k)).then_ eF (fun k hk _ => hk)).below (fun k hk => by have := hB.out.size; omega))
   have b0 := Hd.mk (b0.out.fr eF (fun h => by have hlt_ := b0.out.lt; (try simp only at h); omega))
   have b1 := Hd.mk (b1.out.fr eF (fun h => by have hlt_ := b1.out.lt; (try simp only at h); omega))
   have b2 := Hd.mk (show Blk W (w.heap.size + 1 + 1) #[.int .i64 j.kind, .int .i64 j.n, .string j.s, .slice A1 j.list.length c1, .slice A2 j.names.length c2] 32 by rw [hW]; exact (Blk.all b2.out [Value.int IntKind.i64 j.kind, .int .i64 j.n, .string j.s, .slice A1 j.list.length c1, .slice A2 j.names.length c2] rfl))
   clear hW eF
   have z5 := Hd.mk hz_; clear hz_
   exact pat_some (z := j) (cs := [Value.int IntKind.i64 j.kind, .int .i64 j.n, .string j.s, .slice A1 j.list.length c1, .slice A2 j.names.length c2]) (by unfold wholeV; rw [← HKK.out, heq]; rfl) rfl (Ty.O_mono _ (fun k h => .inr h) (Ty.O_below HJ.out hB.out)) (Fr.of_below hB.out S)
set_option maxRecDepth 100000 in
theorem spec_l4Whole {B : Nat} {S : Nat → Prop} (j : J) (cs : List Value) (o : JOp) (co : List Value) (w : World) (hj : (tJ (B + 1)).O w S j cs) (ho : (tOp (B + 1)).K w o co) (hb : bulkJ (B + 1) o.value ≤ 4194304) (hk : 1 ≤ o.kind ∧ o.kind ≤ 4) :
  Calls Tryz.prog 45 #[.agg cs.toArray, .agg co.toArray] w fun e w' => PatPost (B + 1) w S (wholeV o j) e w' := by
 obtain ⟨v3, v4, _, _, rfl, hsj, hr3, hr4, _⟩ := tJ_O.1 hj
 obtain ⟨A1, c1, rfl, hc1, _⟩ := R_C hr3
 obtain ⟨A2, c2, rfl, hc2, _⟩ := R_C hr4
 clear hr3 hr4
 have HJ := Hd.mk hj; clear hj
 obtain ⟨AW, cW, _, rfl, ⟨hcw, hrw⟩, hjo⟩ := tOp_K.1 ho
 have HKJ := Hd.mk hjo
 obtain ⟨A3, c3, A4, c4, rfl, hso, ⟨hc3, hr3⟩, hc4, hr4⟩ := tJ_K.1 hjo
 clear hr3 hr4 ho hjo
 have HBU := Hd.mk hb; clear hb
 obtain ⟨kk, hkk⟩ : ∃ z, z = o.kind := ⟨_, rfl⟩
 rw [← hkk] at hk ⊢
 have hB := Hd.mk (Below.refl w.heap.size w)
 obtain hk1 | hk1 | hk1 | hk1 : kk = 1 ∨ kk = 2 ∨ kk = 3 ∨ kk = 4 := by omega
 ·subst hk1
  have HKK := Hd.mk hkk; clear hkk hk
  go_enter Tryz.func45, Tryz.ntmps45
  go_wp2_with fail
  apply calls_gen; intro W1 hW
  have hz_ : w.heap.size + 3 ≤ W1.heap.size := by rw [hW]; simp
  have hE : Below w.heap.size w W1 := by rw [hW]; (repeat (first | with_reducible refine below_alloc ?_ _ | with_reducible refine below_drew ?_)); exact Below.refl _ _
  have hB := hB.th hE
  have b0 := Hd.mk (show Blk W1 (w.heap.size) #[.int .i64 j.kind, .int .i64 j.n, .string j.s, .slice A1 j.list.length c1, .slice A2 j.names.length c2] 32 by rw [hW]; first | exact (((Blk.new _ _ _).alloc _).alloc _) | (simpa using (((Blk.new _ _ _).alloc _).alloc _)))
  have b1 := Hd.mk (show Blk W1 (w.heap.size + 1) #[.int .i64 1, .slice AW o.way.length cW, .int .i64 o.value.kind, .int .i64 o.value.n, .string o.value.s, .slice A3 o.value.list.length c3, .slice A4 o.value.names.length c4] 37 by rw [hW]; first | exact ((Blk.new1 _ _ _ _).alloc _) | (simpa using ((Blk.new1 _ _ _ _).alloc _)))
  have b2 := Hd.mk (show Blk W1 (w.heap.size + 1 + 1) #[.int .i64 0, .int .i64 0, .string ⟨#[]⟩, .slice none 0 0, .slice none 0 0] 32 by rw [hW]; first | exact (Blk.new2 _ _ _ _ _) | (simpa using (Blk.new2 _ _ _ _ _)))
  clear hW hE
  have z1 := Hd.mk hz_; clear hz_
  refine (spec_l1Copy o.value _ _ (Ty.K_below _ hB.out HKJ.out) HBU.out).mono ?_
  rintro e w2 ⟨cy, rfl, hY, hX⟩
  have b0 := b0.dn hX
  have b1 := b1.dn hX
  have b2 := b2.dn hX
  have hB := hB.th hX
  have hz_ := hX.size
  clear hX
  have z2 := Hd.mk hz_; clear hz_
  obtain ⟨v3, v4, _, _, hcy, _, h3_, h4_, _⟩ := tJ_O.1 hY
  obtain ⟨A7, c7, rfl, _, _⟩ := R_C h3_
  obtain ⟨A8, c8, rfl, _, _⟩ := R_C h4_
  clear h3_ h4_
  subst hcy
  replace hY := Hd.mk (show (tJ (B + 1)).O w2 (rng W1.heap.size w2.heap.size) o.value _ from Ty.O_bound _ hY)
  obtain ⟨v00, v01, v02, v03, v04, v0z⟩ := blk5 b0.out
  obtain ⟨v10, v11, v12, v13, v14, v15, v16, v1z⟩ := blk7 b1.out
  obtain ⟨v20, v21, v22, v23, v24, v2z⟩ := blk5 b2.out
  go_wp2_with fail
  refine bodyPost_retW (v := .tuple #[.agg #[.int .i64 o.value.kind, .int .i64 o.value.n, .string o.value.s, .slice A7 o.value.list.length c7, .slice A8 o.value.names.length c8], .bool true]) (by simp [results, Tryz.results45, go_sem, v00, v01, v02, v03, v04, v0z, v10, v11, v12, v13, v14, v15, v16, v1z, v20, v21, v22, v23, v24, v2z]) rfl ?_
  intro W hW
  clear v00 v01 v02 v03 v04 v0z v10 v11 v12 v13 v14 v15 v16 v1z v20 v21 v22 v23 v24 v2z
  have hz_ : w2.heap.size ≤ W.heap.size := by rw [hW]; simp
  have eF : Fr w2 W (fun k => k = w.heap.size + 1 + 1 ∨ w2.heap.size ≤ k) := by rw [hW]; (repeat (first | with_reducible refine Fr.setCell ?_ _ (fun _ => by simp <;> omega) _ | with_reducible refine Fr.alloc ?_ _ | with_reducible refine Fr.drew ?_)); exact Fr.refl _ _
  have z1_ := z1.out; have z2_ := z2.out
  have hB := Hd.mk (((Fr.of_below hB.out (fun k => k = w.heap.size + 1 + 1 ∨ w2.heap.size ≤ k)).then_ eF (fun k hk _ => hk)).below (fun k hk => by have := hB.out.size; omega))
  have b0 := Hd.mk (b0.out.fr eF (fun h => by have hlt_ := b0.out.lt; (try simp only at h); omega))
  have b1 := Hd.mk (b1.out.fr eF (fun h => by have hlt_ := b1.out.lt; (try simp only at h); omega))
  have b2 := Hd.mk (show Blk W (w.heap.size + 1 + 1) #[.int .i64 o.value.kind, .int .i64 o.value.n, .string o.value.s, .slice A7 o.value.list.length c7, .slice A8 o.value.names.length c8] 32 by rw [hW]; exact (Blk.all b2.out [Value.int IntKind.i64 o.value.kind, .int .i64 o.value.n, .string o.value.s, .slice A7 o.value.list.length c7, .slice A8 o.value.names.length c8] rfl))
  have hY := Hd.mk (Ty.O_fr hY.out eF (fun k hk hl h => by skip; (try simp only [rng] at hk); (try simp only at hk); (try simp only at h); omega))
  clear hW eF
  have z3 := Hd.mk hz_; clear hz_
  have z1_ := z1.out; have z2_ := z2.out
  exact pat_some (z := o.value) (cs := [Value.int IntKind.i64 o.value.kind, .int .i64 o.value.n, .string o.value.s, .slice A7 o.value.list.length c7, .slice A8 o.value.names.length c8]) (by unfold wholeV; rw [← HKK.out]; rfl) rfl (Ty.O_mono _ (fun k h => by have q_ := h.1; exact .inl (by omega)) hY.out) (Fr.of_below hB.out S)
 ·subst hk1
  have HKK := Hd.mk hkk; clear hkk hk
  go_enter Tryz.func45, Tryz.ntmps45
  go_wp2_with fail
  refine bodyPost_retW (v := .tuple #[.agg #[.int .i64 j.kind, .int .i64 j.n, .string j.s, .slice A1 j.list.length c1, .slice A2 j.names.length c2], .bool false]) (by simp [results, Tryz.results45, go_sem]) rfl ?_
  intro W hW
  have eF : Fr w W (fun k => w.heap.size ≤ k) := by rw [hW]; (repeat (first | with_reducible refine Fr.setCell ?_ _ (fun _ => by simp <;> omega) _ | with_reducible refine Fr.alloc ?_ _ | with_reducible refine Fr.drew ?_)); exact Fr.refl _ _
  exact pat_none (by unfold wholeV; rw [← HKK.out]; rfl) rfl (Fr.of_below (eF.below (fun k h => h)) S)
 ·subst hk1
  have HKK := Hd.mk hkk; clear hkk hk
  go_enter Tryz.func45, Tryz.ntmps45
  go_wp2_with fail
  apply calls_gen; intro W1 hW
  have hz_ : w.heap.size + 3 ≤ W1.heap.size := by rw [hW]; simp
  have hE : Below w.heap.size w W1 := by rw [hW]; (repeat (first | with_reducible refine below_alloc ?_ _ | with_reducible refine below_drew ?_)); exact Below.refl _ _
  have hB := hB.th hE
  have b0 := Hd.mk (show Blk W1 (w.heap.size) #[.int .i64 j.kind, .int .i64 j.n, .string j.s, .slice A1 j.list.length c1, .slice A2 j.names.length c2] 32 by rw [hW]; first | exact (((Blk.new _ _ _).alloc _).alloc _) | (simpa using (((Blk.new _ _ _).alloc _).alloc _)))
  have b1 := Hd.mk (show Blk W1 (w.heap.size + 1) #[.int .i64 3, .slice AW o.way.length cW, .int .i64 o.value.kind, .int .i64 o.value.n, .string o.value.s, .slice A3 o.value.list.length c3, .slice A4 o.value.names.length c4] 37 by rw [hW]; first | exact ((Blk.new1 _ _ _ _).alloc _) | (simpa using ((Blk.new1 _ _ _ _).alloc _)))
  have b2 := Hd.mk (show Blk W1 (w.heap.size + 1 + 1) #[.int .i64 0, .int .i64 0, .string ⟨#[]⟩, .slice none 0 0, .slice none 0 0] 32 by rw [hW]; first | exact (Blk.new2 _ _ _ _ _) | (simpa using (Blk.new2 _ _ _ _ _)))
  clear hW hE
  have z1 := Hd.mk hz_; clear hz_
  refine (spec_l1Copy o.value _ _ (Ty.K_below _ hB.out HKJ.out) HBU.out).mono ?_
  rintro e w2 ⟨cy, rfl, hY, hX⟩
  have b0 := b0.dn hX
  have b1 := b1.dn hX
  have b2 := b2.dn hX
  have hB := hB.th hX
  have hz_ := hX.size
  clear hX
  have z2 := Hd.mk hz_; clear hz_
  obtain ⟨v3, v4, _, _, hcy, _, h3_, h4_, _⟩ := tJ_O.1 hY
  obtain ⟨A7, c7, rfl, _, _⟩ := R_C h3_
  obtain ⟨A8, c8, rfl, _, _⟩ := R_C h4_
  clear h3_ h4_
  subst hcy
  replace hY := Hd.mk (show (tJ (B + 1)).O w2 (rng W1.heap.size w2.heap.size) o.value _ from Ty.O_bound _ hY)
  obtain ⟨v00, v01, v02, v03, v04, v0z⟩ := blk5 b0.out
  obtain ⟨v10, v11, v12, v13, v14, v15, v16, v1z⟩ := blk7 b1.out
  obtain ⟨v20, v21, v22, v23, v24, v2z⟩ := blk5 b2.out
  go_wp2_with fail
  refine bodyPost_retW (v := .tuple #[.agg #[.int .i64 o.value.kind, .int .i64 o.value.n, .string o.value.s, .slice A7 o.value.list.length c7, .slice A8 o.value.names.length c8], .bool true]) (by simp [results, Tryz.results45, go_sem, v00, v01, v02, v03, v04, v0z, v10, v11, v12, v13, v14, v15, v16, v1z, v20, v21, v22, v23, v24, v2z]) rfl ?_
  intro W hW
  clear v00 v01 v02 v03 v04 v0z v10 v11 v12 v13 v14 v15 v16 v1z v20 v21 v22 v23 v24 v2z
  have hz_ : w2.heap.size ≤ W.heap.size := by rw [hW]; simp
  have eF : Fr w2 W (fun k => k = w.heap.size + 1 + 1 ∨ w2.heap.size ≤ k) := by rw [hW]; (repeat (first | with_reducible refine Fr.setCell ?_ _ (fun _ => by simp <;> omega) _ | with_reducible refine Fr.alloc ?_ _ | with_reducible refine Fr.drew ?_)); exact Fr.refl _ _
  have z1_ := z1.out; have z2_ := z2.out
  have hB := Hd.mk (((Fr.of_below hB.out (fun k => k = w.heap.size + 1 + 1 ∨ w2.heap.size ≤ k)).then_ eF (fun k hk _ => hk)).below (fun k hk => by have := hB.out.size; omega))
  have b0 := Hd.mk (b0.out.fr eF (fun h => by have hlt_ := b0.out.lt; (try simp only at h); omega))
  have b1 := Hd.mk (b1.out.fr eF (fun h => by have hlt_ := b1.out.lt; (try simp only at h); omega))
  have b2 := Hd.mk (show Blk W (w.heap.size + 1 + 1) #[.int .i64 o.value.kind, .int .i64 o.value.n, .string o.value.s, .slice A7 o.value.list.length c7, .slice A8 o.value.names.length c8] 32 by rw [hW]; exact (Blk.all b2.out [Value.int IntKind.i64 o.value.kind, .int .i64 o.value.n, .string o.value.s, .slice A7 o.value.list.length c7, .slice A8 o.value.names.length c8] rfl))
  have hY := Hd.mk (Ty.O_fr hY.out eF (fun k hk hl h => by skip; (try simp only [rng] at hk); (try simp only at hk); (try simp only at h); omega))
  clear hW eF
  have z3 := Hd.mk hz_; clear hz_
  have z1_ := z1.out; have z2_ := z2.out
  exact pat_some (z := o.value) (cs := [Value.int IntKind.i64 o.value.kind, .int .i64 o.value.n, .string o.value.s, .slice A7 o.value.list.length c7, .slice A8 o.value.names.length c8]) (by unfold wholeV; rw [← HKK.out]; rfl) rfl (Ty.O_mono _ (fun k h => by have q_ := h.1; exact .inl (by omega)) hY.out) (Fr.of_below hB.out S)
 ·subst hk1
  have HKK := Hd.mk hkk; clear hkk hk
  go_enter Tryz.func45, Tryz.ntmps45
  go_wp2_with fail
  apply wp_gen; intro W1 hW
  have hz_ : w.heap.size + 3 ≤ W1.heap.size := by rw [hW]; simp
  have hE : Below w.heap.size w W1 := by rw [hW]; (repeat (first | with_reducible refine below_alloc ?_ _ | with_reducible refine below_drew ?_)); exact Below.refl _ _
  have hB := hB.th hE
  have b0 := Hd.mk (show Blk W1 (w.heap.size) #[.int .i64 j.kind, .int .i64 j.n, .string j.s, .slice A1 j.list.length c1, .slice A2 j.names.length c2] 32 by rw [hW]; first | exact (((Blk.new _ _ _).alloc _).alloc _) | (simpa using (((Blk.new _ _ _).alloc _).alloc _)))
  have b1 := Hd.mk (show Blk W1 (w.heap.size + 1) #[.int .i64 4, .slice AW o.way.length cW, .int .i64 o.value.kind, .int .i64 o.value.n, .string o.value.s, .slice A3 o.value.list.length c3, .slice A4 o.value.names.length c4] 37 by rw [hW]; first | exact ((Blk.new1 _ _ _ _).alloc _) | (simpa using ((Blk.new1 _ _ _ _).alloc _)))
  have b2 := Hd.mk (show Blk W1 (w.heap.size + 1 + 1) #[.int .i64 0, .int .i64 0, .string ⟨#[]⟩, .slice none 0 0, .slice none 0 0] 32 by rw [hW]; first | exact (Blk.new2 _ _ _ _ _) | (simpa using (Blk.new2 _ _ _ _ _)))
  clear hW hE
  have z1 := Hd.mk hz_; clear hz_
  obtain ⟨v00, v01, v02, v03, v04, v0z⟩ := blk5 b0.out
  obtain ⟨v10, v11, v12, v13, v14, v15, v16, v1z⟩ := blk7 b1.out
  obtain ⟨v20, v21, v22, v23, v24, v2z⟩ := blk5 b2.out
  obtain ⟨rv00, rv01, rv02, rv03, rv04, rv10, rv11⟩ := reg7 v00 v01 v02 v03 v04 v10 v11
  obtain ⟨rv12, rv13, rv14, rv15, rv16⟩ := reg5 v12 v13 v14 v15 v16
  obtain ⟨rv20, rv21, rv22, rv23, rv24⟩ := reg5 v20 v21 v22 v23 v24
  refine region_mixT (.q 0 (.q 1 (.p 2 (.q 3 (.b 4 .fin))))) [5, 6] (by kernel_rfl) (by kernel_rfl) (fun _ _ _ _ _ h => h) ?_
  refine genT ?_
  intro W2 hW
  have hS := Hd.mk (show Below W1.heap.size W1 W2 by rw [hW]; exact below_drew (Below.refl _ _))
  have hz_ : W1.heap.size ≤ W2.heap.size := by rw [hW]; simp
  have hE : Below W1.heap.size W1 W2 := by rw [hW]; (repeat (first | with_reducible refine below_alloc ?_ _ | with_reducible refine below_drew ?_)); exact Below.refl _ _
  have hB := hB.th hE
  have b0 := b0.dn hE
  have b1 := b1.dn hE
  have b2 := b2.dn hE
  clear hW hE
  have z2 := Hd.mk hz_; clear hz_
  iterate 4 ((first | refine mixT_q rfl ?_ | refine mixT_p rfl ?_); go_big_quiet_want; go_big_quiet_op; go_big_quiet_on; refine wpQuiet_nil ?_)
  refine mixT_b rfl ?_ (by rfl)
  go_wp2_with fail
  apply calls_gen; intro W3 hW
  have hz_ : W2.heap.size ≤ W3.heap.size := by rw [hW]; simp
  have hE : Below W2.heap.size W2 W3 := by rw [hW]; (repeat (first | with_reducible refine below_alloc ?_ _ | with_reducible refine below_drew ?_)); exact Below.refl _ _
  have hB := hB.th hE
  replace hS := Hd.mk (below_then hS.out hE)
  have b0 := b0.dn hE
  have b1 := b1.dn hE
  have b2 := b2.dn hE
  clear hW hE
  have z3 := Hd.mk hz_; clear hz_
  refine (same_all (B + 1) j o.value _ _ _ (Ty.O_K _ (Ty.O_below HJ.out hB.out)) (Ty.K_below _ hB.out HKJ.out)).mono ?_
  rintro e w4 ⟨rfl, hX⟩
  have b0 := b0.dn hX
  have b1 := b1.dn hX
  have b2 := b2.dn hX
  have hB := hB.th hX
  replace hS := Hd.mk (below_then hS.out hX)
  have hz_ := hX.size
  clear hX
  have z4 := Hd.mk hz_; clear hz_
  go_wp2_with fail
  refine ⟨cls_below hS.out, ?_⟩
  refine mixT_fin ?_
  clear hS
  clear rv00 rv01 rv02 rv03 rv04 rv10 rv11 rv12 rv13 rv14 rv15 rv16 rv20 rv21 rv22 rv23 rv24
  clear v00 v01 v02 v03 v04 v0z v10 v11 v12 v13 v14 v15 v16 v1z v20 v21 v22 v23 v24 v2z
  obtain ⟨v00, v01, v02, v03, v04, v0z⟩ := blk5 b0.out
  obtain ⟨v10, v11, v12, v13, v14, v15, v16, v1z⟩ := blk7 b1.out
  obtain ⟨v20, v21, v22, v23, v24, v2z⟩ := blk5 b2.out
  refine tail_b rfl ?_ (by rfl)
  go_wp2_with fail
  refine mixQ_n ?_
  refine tail_b rfl ?_ (by rfl)
  go_wp2_with fail
  refine mixQ_n ?_
  refine tail_nil ?_
  cases heq : eqv j o.value
  ·go_wp2_with fail
   refine bodyPost_retW (v := .tuple #[.agg #[.int .i64 j.kind, .int .i64 j.n, .string j.s, .slice A1 j.list.length c1, .slice A2 j.names.length c2], .bool false]) (by simp [results, Tryz.results45, go_sem, v00, v01, v02, v03, v04, v0z, v10, v11, v12, v13, v14, v15, v16, v1z, v20, v21, v22, v23, v24, v2z]) rfl ?_
   intro W hW
   clear v00 v01 v02 v03 v04 v0z v10 v11 v12 v13 v14 v15 v16 v1z v20 v21 v22 v23 v24 v2z
   have hz_ : w4.heap.size ≤ W.heap.size := by rw [hW]; simp
   have eF : Fr w4 W (fun k => k = w.heap.size + 1 + 1 ∨ w4.heap.size ≤ k) := by rw [hW]; (repeat (first | with_reducible refine Fr.setCell ?_ _ (fun _ => by simp <;> omega) _ | with_reducible refine Fr.alloc ?_ _ | with_reducible refine Fr.drew ?_)); exact Fr.refl _ _
   have z1_ := z1.out; have z2_ := z2.out; have z3_ := z3.out; have z4_ := z4.out
   have hB := Hd.mk (((Fr.of_below hB.out (fun k => k = w.heap.size + 1 + 1 ∨ w4.heap.size ≤ k)).then_ eF (fun k hk _ => hk)).below (fun k hk => by have := hB.out.size; omega))
   have b0 := Hd.mk (b0.out.fr eF (fun h => by have hlt_ := b0.out.lt; (try simp only at h); omega))
   have b1 := Hd.mk (b1.out.fr eF (fun h => by have hlt_ := b1.out.lt; (try simp only at h); omega))
   have b2 := Hd.mk (show Blk W (w.heap.size + 1 + 1) #[.int .i64 j.kind, .int .i64 j.n, .string j.s, .slice A1 j.list.length c1, .slice A2 j.names.length c2] 32 by rw [hW]; exact (Blk.all b2.out [Value.int IntKind.i64 j.kind, .int .i64 j.n, .string j.s, .slice A1 j.list.length c1, .slice A2 j.names.length c2] rfl))
   clear hW eF
   have z5 := Hd.mk hz_; clear hz_
   exact pat_none (by unfold wholeV; rw [← HKK.out, heq]; rfl) rfl (Fr.of_below hB.out S)
  ·go_wp2_with fail
   refine bodyPost_retW (v := .tuple #[.agg #[.int .i64 j.kind, .int .i64 j.n, .string j.s, .slice A1 j.list.length c1, .slice A2 j.names.length c2], .bool true]) (by simp [results, Tryz.results45, go_sem, v00, v01, v02, v03, v04, v0z, v10, v11, v12, v13, v14, v15, v16, v1z, v20, v21, v22, v23, v24, v2z]) rfl ?_
   intro W hW
   clear v00 v01 v02 v03 v04 v0z v10 v11 v12 v13 v14 v15 v16 v1z v20 v21 v22 v23 v24 v2z
   have hz_ : w4.heap.size ≤ W.heap.size := by rw [hW]; simp
   have eF : Fr w4 W (fun k => k = w.heap.size + 1 + 1 ∨ w4.heap.size ≤ k) := by rw [hW]; (repeat (first | with_reducible refine Fr.setCell ?_ _ (fun _ => by simp <;> omega) _ | with_reducible refine Fr.alloc ?_ _ | with_reducible refine Fr.drew ?_)); exact Fr.refl _ _
   have z1_ := z1.out; have z2_ := z2.out; have z3_ := z3.out; have z4_ := z4.out
   have hB := Hd.mk (((Fr.of_below hB.out (fun k => k = w.heap.size + 1 + 1 ∨ w4.heap.size ≤ k)).then_ eF (fun k hk _ => hk)).below (fun k hk => by have := hB.out.size; omega))
   have b0 := Hd.mk (b0.out.fr eF (fun h => by have hlt_ := b0.out.lt; (try simp only at h); omega))
   have b1 := Hd.mk (b1.out.fr eF (fun h => by have hlt_ := b1.out.lt; (try simp only at h); omega))
   have b2 := Hd.mk (show Blk W (w.heap.size + 1 + 1) #[.int .i64 j.kind, .int .i64 j.n, .string j.s, .slice A1 j.list.length c1, .slice A2 j.names.length c2] 32 by rw [hW]; exact (Blk.all b2.out [Value.int IntKind.i64 j.kind, .int .i64 j.n, .string j.s, .slice A1 j.list.length c1, .slice A2 j.names.length c2] rfl))
   clear hW eF
   have z5 := Hd.mk hz_; clear hz_
   exact pat_some (z := j) (cs := [Value.int IntKind.i64 j.kind, .int .i64 j.n, .string j.s, .slice A1 j.list.length c1, .slice A2 j.names.length c2]) (by unfold wholeV; rw [← HKK.out, heq]; rfl) rfl (Ty.O_mono _ (fun k h => .inr h) (Ty.O_below HJ.out hB.out)) (Fr.of_below hB.out S)
end Go.Proofs.YtegcecnjmimbiaaGreatDoor.X
namespace Go.Proofs.YtegcecnjmimbiaaGreatDoor.X
open Go.RowKit Go.Sort
set_option linter.unusedVariables false
set_option linter.unusedSimpArgs false
open Ty
set_option maxHeartbeats 1000000 in
set_option maxRecDepth 100000 in
theorem impl_dropPart {m : Nat} {S : Nat → Prop} (j : J) (cs : List Value) (q : Nat) (w : World) (hj : (tJ (m + 2)).O w S j cs) (hq : q < j.list.length) (hn : (j.kind == 5) = true → j.names.length = j.list.length) (hle : j.list.length ≤ 4194304) :
  Calls Tryz.prog 55 #[.agg cs.toArray, .int .i64 q] w fun e w' => ∃ cs', e = .returned (.agg cs'.toArray) ∧ (tJ (m + 2)).O w' (fun k => w.heap.size ≤ k ∨ S k) (dropV j q) cs' ∧ Fr w w' S := by
 obtain ⟨v3, v4, T3, T4, rfl, hsj, hr3, hr4, hs3, hs4, hs34⟩ := tJ_O.1 hj
 have HL := Hd.mk (show (tJ (m + 1)).R 32 w (fun k => T3 k ∧ k < w.heap.size) v3 j.list from R_bound hr3)
 have HN := Hd.mk (show str.R 9 w (fun k => T4 k ∧ k < w.heap.size) v4 j.names from R_bound hr4)
 have HT3 := Hd.mk hs3; have HT4 := Hd.mk hs4; have H34 := Hd.mk hs34
 clear hr3 hr4 hs3 hs4 hs34 hj
 have HNL := Hd.mk hn; clear hn
 obtain ⟨gl, cl, rfl, hgl, _⟩ := R_form HL.out (by omega)
 obtain ⟨A4, c4, rfl, hc4, hC4⟩ := R_C HN.out
 have hB := Hd.mk (Below.refl w.heap.size w)
 have hq1 : IntKind.i64.wrap ((q : Int) + 1) = (q : Int) + 1 := by rw [IntKind.wrap_i64]; omega
 go_enter Tryz.func55, Tryz.ntmps55
 go_wp2_with fail
 apply calls_gen; intro W1 hW
 have hz_ : w.heap.size + 2 ≤ W1.heap.size := by rw [hW]; simp
 have hE : Below w.heap.size w W1 := by rw [hW]; (repeat (first | with_reducible refine below_alloc ?_ _ | with_reducible refine below_drew ?_)); exact Below.refl _ _
 have hB := hB.th hE
 have b0 := Hd.mk (show Blk W1 (w.heap.size) #[.int .i64 j.kind, .int .i64 j.n, .string j.s, .slice (some ⟨gl, 0, none⟩) j.list.length cl, .slice A4 j.names.length c4] 32 by rw [hW]; first | exact ((Blk.new _ _ _).alloc _) | (simpa using ((Blk.new _ _ _).alloc _)))
 have b1 := Hd.mk (show Blk W1 (w.heap.size + 1) #[.int .i64 0, .int .i64 0, .string ⟨#[]⟩, .slice none 0 0, .slice none 0 0] 32 by rw [hW]; first | exact (Blk.new1 _ _ _ _) | (simpa using (Blk.new1 _ _ _ _)))
 have HL := Hd.mk (R_below HL.out hE)
 have HN := Hd.mk (R_below HN.out hE)
 clear hW hE
 have z1 := Hd.mk hz_; clear hz_
 refine (slices_Delete_json gl cl q j.list _ HL.out hq).mono ?_
 rintro e w2 ⟨vd, rfl, hv, hX⟩
 have hF0 := Hd.mk (Fr.of_below hB.out S)
 have hB0 := Hd.mk (show w.heap.size + 2 ≤ W1.heap.size by have z1_ := z1.out; omega)
 have b0 := Hd.mk (b0.out.fr hX (fun h => by have q_ := h.2; omega))
 have b1 := Hd.mk (b1.out.fr hX (fun h => by have q_ := h.2; omega))
 have HN := Hd.mk (R_fr HN.out hX (fun k hk hl h => by first | exact H34.out k hk.1 h.1 | exact H34.out k h.1 hk.1))
 have hF0 := Hd.mk (hF0.out.then_ hX (fun k h _ => HT3.out k h.1))
 have hB0 := Hd.mk (Nat.le_trans hB0.out hX.size)
 clear hX HL
 obtain ⟨A5, c5, hvd, _, _⟩ := R_C hv
 subst hvd
 have HL := Hd.mk hv; clear hv
 cases hk5 : (j.kind == 5)
 ·have hd5 : decide (j.kind = 5) = false := by simpa using hk5
  obtain ⟨v00, v01, v02, v03, v04, v0z⟩ := blk5 b0.out
  obtain ⟨v10, v11, v12, v13, v14, v1z⟩ := blk5 b1.out
  go_wp2_with fail
  refine bodyPost_retW (v := .agg #[.int .i64 j.kind, .int .i64 j.n, .string j.s, .slice A5 (j.list.eraseIdx q).length c5, .slice A4 j.names.length c4]) (by simp [results, Tryz.results55, go_sem, v00, v01, v02, v03, v04, v0z, v10, v11, v12, v13, v14, v1z]) rfl ?_
  intro W hW
  clear v00 v01 v02 v03 v04 v0z v10 v11 v12 v13 v14 v1z
  have hBs := hB0.out
  have eF : Fr w2 W (fun k => w.heap.size ≤ k) := by rw [hW]; (repeat (first | with_reducible refine Fr.setCell ?_ _ (fun _ => by simp <;> omega) _ | with_reducible refine Fr.alloc ?_ _ | with_reducible refine Fr.drew ?_)); exact Fr.refl _ _
  exact ⟨[Value.int IntKind.i64 j.kind, .int .i64 j.n, .string j.s, .slice A5 (j.list.eraseIdx q).length c5, .slice A4 j.names.length c4], rfl, tJ_O.2 ⟨_, _, fun k => T3 k ∧ k < w.heap.size, fun k => T4 k ∧ k < w.heap.size, rfl, hsj, R_fr HL.out eF (fun k hk hl h => by have q_ := hk.2; (try simp only at h); omega), by rw [show (dropV j q).names = j.names by unfold dropV; rw [hk5]; rfl]; exact R_fr HN.out eF (fun k hk hl h => by have q_ := hk.2; (try simp only at h); omega), fun k h => .inr (HT3.out k h.1), fun k h => .inr (HT4.out k h.1), fun k h h2 => H34.out k h.1 h2.1⟩, hF0.out.then_ eF (fun k h hl => by (try simp only at h); omega)⟩
 ·have hd5 : decide (j.kind = 5) = true := by simpa using hk5
  have hnl := Hd.mk (HNL.out hk5)
  obtain ⟨gn, cn, hgn, hgn2, _⟩ := R_form HN.out (by have := hnl.out; omega)
  injection hgn with e1 e2 e3
  subst e1; subst e3
  obtain ⟨v00, v01, v02, v03, v04, v0z⟩ := blk5 b0.out
  obtain ⟨v10, v11, v12, v13, v14, v1z⟩ := blk5 b1.out
  go_wp2_with fail
  clear v00 v01 v02 v03 v04 v0z v10 v11 v12 v13 v14 v1z
  apply calls_gen; intro W3 hW
  have eF : Fr w2 W3 (fun k => w.heap.size ≤ k) := by rw [hW]; (repeat (first | with_reducible refine Fr.setCell ?_ _ (fun _ => by simp <;> omega) _ | with_reducible refine Fr.alloc ?_ _ | with_reducible refine Fr.drew ?_)); exact Fr.refl _ _
  have b0 := Hd.mk (show Blk W3 w.heap.size #[.int .i64 j.kind, .int .i64 j.n, .string j.s, .slice A5 (j.list.eraseIdx q).length c5, .slice (some ⟨gn, 0, none⟩) j.names.length c4] 32 by rw [hW]; exact b0.out.set 3 _)
  have b1 := Hd.mk (show Blk W3 (w.heap.size + 1) #[.int .i64 0, .int .i64 0, .string ⟨#[]⟩, .slice none 0 0, .slice none 0 0] 32 by rw [hW]; exact b1.out.other _ (by simp <;> omega) _)
  have HL := Hd.mk (R_fr HL.out eF (fun k hk hl h => by have q_ := hk.2; (try simp only at h); omega))
  have HN := Hd.mk (R_fr HN.out eF (fun k hk hl h => by have q_ := hk.2; (try simp only at h); omega))
  have hB0 := Hd.mk (show w.heap.size + 2 ≤ W3.heap.size by have := hB0.out; have := eF.size; omega)
  have hF0 := Hd.mk (hF0.out.then_ eF (fun k h hl => by (try simp only at h); omega))
  clear hW eF
  refine (slices_Delete_str gn c4 q j.names _ HN.out (Nat.lt_of_lt_of_eq hq hnl.out.symm)).mono ?_
  rintro e w4 ⟨ve, rfl, hv, hX⟩
  have b0 := Hd.mk (b0.out.fr hX (fun h => by have q_ := h.2; omega))
  have b1 := Hd.mk (b1.out.fr hX (fun h => by have q_ := h.2; omega))
  have HL := Hd.mk (R_fr HL.out hX (fun k hk hl h => by first | exact H34.out k hk.1 h.1 | exact H34.out k h.1 hk.1))
  have hF0 := Hd.mk (hF0.out.then_ hX (fun k h _ => HT4.out k h.1))
  have hB0 := Hd.mk (Nat.le_trans hB0.out hX.size)
  clear hX HN
  obtain ⟨A6, c6, hve, _, _⟩ := R_C hv
  subst hve
  have HN := Hd.mk hv; clear hv
  obtain ⟨v00, v01, v02, v03, v04, v0z⟩ := blk5 b0.out
  obtain ⟨v10, v11, v12, v13, v14, v1z⟩ := blk5 b1.out
  go_wp2_with fail
  refine bodyPost_retW (v := .agg #[.int .i64 j.kind, .int .i64 j.n, .string j.s, .slice A5 (j.list.eraseIdx q).length c5, .slice A6 (j.names.eraseIdx q).length c6]) (by simp [results, Tryz.results55, go_sem, v00, v01, v02, v03, v04, v0z, v10, v11, v12, v13, v14, v1z]) rfl ?_
  intro W hW
  clear v00 v01 v02 v03 v04 v0z v10 v11 v12 v13 v14 v1z
  have hBs := hB0.out
  have eF : Fr w4 W (fun k => w.heap.size ≤ k) := by rw [hW]; (repeat (first | with_reducible refine Fr.setCell ?_ _ (fun _ => by simp <;> omega) _ | with_reducible refine Fr.alloc ?_ _ | with_reducible refine Fr.drew ?_)); exact Fr.refl _ _
  exact ⟨[Value.int IntKind.i64 j.kind, .int .i64 j.n, .string j.s, .slice A5 (j.list.eraseIdx q).length c5, .slice A6 (j.names.eraseIdx q).length c6], rfl, tJ_O.2 ⟨_, _, fun k => T3 k ∧ k < w.heap.size, fun k => T4 k ∧ k < w.heap.size, rfl, hsj, R_fr HL.out eF (fun k hk hl h => by have q_ := hk.2; (try simp only at h); omega), by rw [show (dropV j q).names = j.names.eraseIdx q by unfold dropV; rw [hk5]; rfl]; exact R_fr HN.out eF (fun k hk hl h => by have q_ := hk.2; (try simp only at h); omega), fun k h => .inr (HT3.out k h.1), fun k h => .inr (HT4.out k h.1), fun k h h2 => H34.out k h.1 h2.1⟩, hF0.out.then_ eF (fun k h hl => by (try simp only at h); omega)⟩
end Go.Proofs.YtegcecnjmimbiaaGreatDoor.X
