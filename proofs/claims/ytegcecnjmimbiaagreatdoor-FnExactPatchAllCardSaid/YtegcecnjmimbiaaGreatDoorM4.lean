/- What is proved here: lemmas about the functions that the statement reaches, and what they compute (part 4). Conditions: none. -/
import Derived.Test.YtegcecnjmimbiaaGreatDoorM3
import Derived.Test.YtegcecnjmimbiaaGreatDoorM2
namespace Go.Proofs.YtegcecnjmimbiaaGreatDoor.X
open Go.RowKit Go.Sort
set_option linter.unusedVariables false
set_option linter.unusedSimpArgs false
open Ty
theorem cell_old {w0 W x : World} {F : Nat → Prop} {a : Addr} {v : Value} (hc : w0.cell? a = some v) (hW : Below w0.heap.size w0 W) (hx : Fr W x F) (hF : ∀ k, F k → w0.heap.size ≤ k) : x.cell? a = some v := by
 have hl := World.block_lt_of_cell? w0 a hc
 have h1 := cell_below hW hc
 have h2 := hx.block a.block (Nat.lt_of_lt_of_le hl hW.size) (fun h => by have := hF _ h; omega)
 rw [World.cell?_of_block h2]; exact h1
def PatR (m : Nat) (w w' : World) (S : Nat → Prop) (r : Option J) (ok : Bool) (cs : List Value) : Prop :=
 (ok = true ∧ ∃ z, r = some z ∧ (tJ m).O w' (fun k => w.heap.size ≤ k ∨ S k) z cs) ∨ (ok = false ∧ r = none)
theorem pat_open {m : Nat} {w w' : World} {S : Nat → Prop} {r : Option J} {e : Ending} (h : PatPost (m + 1) w S r e w') :
  ∃ (a b : Int) (s : ByteArray) (A B : Option Addr) (n c n2 d : Nat) (ok : Bool), e = .returned (.tuple #[.agg #[.int .i64 a, .int .i64 b, .string s, .slice A n c, .slice B n2 d], .bool ok]) ∧ Fr w w' S ∧ PatR (m + 1) w w' S r ok [.int .i64 a, .int .i64 b, .string s, .slice A n c, .slice B n2 d] := by
 rcases h with ⟨z, cs, h1, h2, h3, h4⟩ | ⟨a, b, s, A, B, n, c, n2, d, h1, h2, h4⟩
 ·obtain ⟨v3, v4, _, _, rfl, _, k3, k4, _⟩ := tJ_O.1 h3
  obtain ⟨A, c, rfl, _, _⟩ := R_C k3
  obtain ⟨B, d, rfl, _, _⟩ := R_C k4
  exact ⟨_, _, _, _, _, _, _, _, _, true, h2, h4, .inl ⟨rfl, z, h1, h3⟩⟩
 ·exact ⟨_, _, _, _, _, _, _, _, _, false, h2, h4, .inr ⟨rfl, h1⟩⟩
theorem pat_close {m : Nat} {w w1 w2 W : World} {S S1 F : Nat → Prop} {r : Option J} {ok : Bool} {a b : Int} {s : ByteArray} {A B : Option Addr} {n c n2 d : Nat} (h : PatR m w1 w2 S1 r ok [.int .i64 a, .int .i64 b, .string s, .slice A n c, .slice B n2 d])
  (hW : Fr w2 W F) (hF : ∀ k, (w1.heap.size ≤ k ∨ S1 k) → k < w2.heap.size → ¬ F k) (hS : ∀ k, (w1.heap.size ≤ k ∨ S1 k) → w.heap.size ≤ k ∨ S k) (hwW : Fr w W S) :
  PatPost m w S r (.returned (.tuple #[.agg #[.int .i64 a, .int .i64 b, .string s, .slice A n c, .slice B n2 d], .bool ok])) W := by
 rcases h with ⟨rfl, z, h1, h2⟩ | ⟨rfl, h1⟩
 ·exact pat_some (cs := [_, _, _, _, _]) h1 rfl (Ty.O_mono _ hS (Ty.O_fr h2 hW hF)) hwW
 ·exact pat_none h1 rfl hwW
def PatT (m : Nat) (w' : World) (T : Nat → Prop) (r : Option J) (ok : Bool) (cs : List Value) : Prop :=
 (ok = true ∧ ∃ z, r = some z ∧ (tJ m).O w' T z cs) ∨ (ok = false ∧ r = none)
theorem pat_T {m : Nat} {w w' : World} {S : Nat → Prop} {r : Option J} {ok : Bool} {cs : List Value} (h : PatR m w w' S r ok cs) : PatT m w' (fun k => (w.heap.size ≤ k ∨ S k) ∧ k < w'.heap.size) r ok cs := by
 rcases h with ⟨h1, z, h2, h3⟩ | h
 ·exact .inl ⟨h1, z, h2, Ty.O_bound _ h3⟩
 ·exact .inr h
theorem patT_below {m : Nat} {w1 w2 : World} {T : Nat → Prop} {r : Option J} {ok : Bool} {cs : List Value} (h : PatT m w1 T r ok cs) (hb : Below w1.heap.size w1 w2) : PatT m w2 T r ok cs := by
 rcases h with ⟨h1, z, h2, h3⟩ | h
 ·exact .inl ⟨h1, z, h2, Ty.O_below h3 hb⟩
 ·exact .inr h
theorem patT_fr {m : Nat} {w1 w2 : World} {T F : Nat → Prop} {r : Option J} {ok : Bool} {cs : List Value} (h : PatT m w1 T r ok cs) (hf : Fr w1 w2 F) (hF : ∀ k, T k → k < w1.heap.size → ¬ F k) : PatT m w2 T r ok cs := by
 rcases h with ⟨h1, z, h2, h3⟩ | h
 ·exact .inl ⟨h1, z, h2, Ty.O_fr h3 hf hF⟩
 ·exact .inr h
theorem H_in {α : Type} {d : Ty α} {e : TypeId} {w : World} {S Si : Nat → Prop} {v : Value} {xs : List α} {i : Nat} {cs : List Value} (h : d.H e w S v xs i Si cs) : ∀ k, Si k → S k := by
 obtain ⟨_, _, inner, f, _, _, _, hs, _⟩ := h
 exact fun k hk => (hs k hk).1
theorem H_belowZ {α : Type} {d : Ty α} {e : TypeId} {w w1 : World} {S Si : Nat → Prop} {v : Value} {xs : List α} {i : Nat} {cs : List Value} (h : d.H e w S v xs i Si cs) (hb : Below w.heap.size w w1) : d.H e w1 S v xs i Si cs := H_step h (fun k _ _ hl => hb.block k hl)
theorem C_tail {w : World} {ad : Addr} {s : ByteArray} {r : List ByteArray} {A' : Option Addr} (h : str.C w (some ad) (s :: r)) (hA : r = [] ∨ A' = some (ad.add 1)) : str.C w A' r := by
 rcases hA with rfl | rfl
 ·exact C_nil _
 ·refine ⟨by have := h.1; simp only [List.length_cons] at this; omega, fun i x hx => ?_⟩
  obtain ⟨ad2, cs, h1, h2, h3⟩ := h.2 (i + 1) x (by simpa using hx)
  injection h1 with h1
  subst h1
  refine ⟨ad.add 1, cs, rfl, h2, fun j u hu => ?_⟩
  have h4 := h3 j u hu
  have e : (ad.add 1).add (i * str.sz + j) = ad.add ((i + 1) * str.sz + j) := by
   rw [Addr.add_add]
   congr 1
   show 1 + (i * 1 + j) = (i + 1) * 1 + j
   omega
  rw [e]; exact h4
def PatI (B : Nat) (o : JOp) (way : List ByteArray) : Prop := ∀ (S : Nat → Prop) (j : J) (cs co : List Value) (A : Option Addr) (c : Nat) (w0 w : World), (tJ (B + way.length + 1)).O w S j cs → Below w0.heap.size w0 w → (∀ k, S k → w0.heap.size ≤ k) → str.C w0 A way → way.length ≤ c → (tOp (B + 1)).K w0 o co → EnvT w0 → EnvE w0 → (∃ d, sizeN (d + 1) j ≤ 400) →
 Calls Tryz.prog 32 #[.agg cs.toArray, .slice A way.length c, .agg co.toArray] w fun e w' => PatPost (B + way.length + 1) w S (patV o way j) e w'
set_option maxRecDepth 100000 in
theorem patI_nil {B : Nat} {o : JOp} (hb : bulkJ (B + 1) o.value ≤ 4194304) (hk : 1 ≤ o.kind ∧ o.kind ≤ 4) : PatI B o [] := by
 intro S j cs co A c w0 w hj h0 hS hw hcap ho hT hE hz
 replace hj : (tJ (B + 1)).O w S j cs := hj
 show Calls Tryz.prog 32 #[.agg cs.toArray, .slice A 0 c, .agg co.toArray] w fun e w' => PatPost (B + 1) w S (wholeV o j) e w'
 obtain ⟨v3, v4, _, _, rfl, hsj, hr3, hr4, _⟩ := tJ_O.1 hj
 obtain ⟨A1, c1, rfl, hc1, _⟩ := R_C hr3
 obtain ⟨A2, c2, rfl, hc2, _⟩ := R_C hr4
 clear hr3 hr4
 have HJ := Hd.mk (Ty.O_bound _ hj); clear hj
 obtain ⟨AW, cW, _, rfl, ⟨hcw, hrw⟩, hjo⟩ := tOp_K.1 ho
 have HKJ := Hd.mk hjo
 obtain ⟨A3, c3, A4, c4, rfl, hso, ⟨hc3, hr3⟩, hc4, hr4⟩ := tJ_K.1 hjo
 have HKO := Hd.mk ho
 clear hr3 hr4 ho hjo hrw hcw
 have H0 := Hd.mk h0; have HS0 := Hd.mk hS; have HW := Hd.mk hw; have HT := Hd.mk hT; have HE := Hd.mk hE; have HZ := Hd.mk hz
 clear h0 hS hw hT hE hz
 have hB := Hd.mk (Below.refl w.heap.size w)
 go_enter Tryz.func32, Tryz.ntmps32
 go_wp2_with fail
 apply calls_gen; intro W1 hW
 have hz_ : w.heap.size + 3 ≤ W1.heap.size := by rw [hW]; simp
 have hE : Below w.heap.size w W1 := by rw [hW]; (repeat (first | with_reducible refine below_alloc ?_ _ | with_reducible refine below_drew ?_)); exact Below.refl _ _
 have hB := hB.th hE
 have b0 := Hd.mk (show Blk W1 (w.heap.size) #[.int .i64 j.kind, .int .i64 j.n, .string j.s, .slice A1 j.list.length c1, .slice A2 j.names.length c2] 32 by rw [hW]; first | exact (((Blk.new _ _ _).alloc _).alloc _) | (simpa using (((Blk.new _ _ _).alloc _).alloc _)))
 have b1 := Hd.mk (show Blk W1 (w.heap.size + 1) #[.int .i64 o.kind, .slice AW o.way.length cW, .int .i64 o.value.kind, .int .i64 o.value.n, .string o.value.s, .slice A3 o.value.list.length c3, .slice A4 o.value.names.length c4] 37 by rw [hW]; first | exact ((Blk.new1 _ _ _ _).alloc _) | (simpa using ((Blk.new1 _ _ _ _).alloc _)))
 have b2 := Hd.mk (show Blk W1 (w.heap.size + 1 + 1) #[.int .i64 0, .int .i64 0, .string ⟨#[]⟩, .slice none 0 0, .slice none 0 0] 32 by rw [hW]; first | exact (Blk.new2 _ _ _ _ _) | (simpa using (Blk.new2 _ _ _ _ _)))
 have HJ := HJ.ob hE
 clear hW hE
 have z1 := Hd.mk hz_; clear hz_
 refine (impl_whole j _ o _ _ HJ.out (Ty.K_below _ (below_then H0.out hB.out) HKO.out) hb hk).mono ?_
 rintro e w9 hP
 obtain ⟨ra, rb, rs, RA, RB, rn, rc, rn2, rd, ok, rfl, hX, hR⟩ := pat_open hP
 have HR := Hd.mk hR; clear hR hP
 have b0 := Hd.mk (b0.out.fr hX (fun h => by have q_ := h.2; omega))
 have b1 := Hd.mk (b1.out.fr hX (fun h => by have q_ := h.2; omega))
 have b2 := Hd.mk (b2.out.fr hX (fun h => by have q_ := h.2; omega))
 have hB0 := Hd.mk (show w.heap.size + 3 ≤ W1.heap.size by have z1_ := z1.out; omega)
 have hF0 := Hd.mk ((Fr.of_below hB.out S).then_ hX (fun k h _ => h.1))
 have hsz := Hd.mk hX.size; clear hX
 obtain ⟨v00, v01, v02, v03, v04, v0z⟩ := blk5 b0.out
 obtain ⟨v10, v11, v12, v13, v14, v15, v16, v1z⟩ := blk7 b1.out
 obtain ⟨v20, v21, v22, v23, v24, v2z⟩ := blk5 b2.out
 go_wp2_with fail
 refine bodyPost_retW (v := .tuple #[.agg #[.int .i64 ra, .int .i64 rb, .string rs, .slice RA rn rc, .slice RB rn2 rd], .bool ok]) (by simp [results, Tryz.results32, go_sem, v00, v01, v02, v03, v04, v0z, v10, v11, v12, v13, v14, v15, v16, v1z, v20, v21, v22, v23, v24, v2z]) rfl ?_
 intro W hW
 clear v00 v01 v02 v03 v04 v0z v10 v11 v12 v13 v14 v15 v16 v1z v20 v21 v22 v23 v24 v2z
 have hB0_ := hB0.out; have hsz_ := hsz.out
 have eF : Fr w9 W (fun k => k = w.heap.size + 2) := by rw [hW]; (repeat (first | with_reducible refine Fr.setCell ?_ _ (fun _ => by simp <;> omega) _ | with_reducible refine Fr.alloc ?_ _ | with_reducible refine Fr.drew ?_)); exact Fr.refl _ _
 exact pat_close HR.out eF (fun k hk hl h => by (try simp only at h); rcases hk with q_ | q_; omega; (have q2_ := q_.2; omega)) (fun k hk => by rcases hk with q_ | q_; exact .inl (by omega); exact .inr q_.1) (hF0.out.then_ eF (fun k h hl => by (try simp only at h); omega))
set_option maxHeartbeats 4000000 in
set_option maxRecDepth 100000 in
theorem patI_cons {B : Nat} {o : JOp} {s : ByteArray} {r : List ByteArray} (hb : bulkJ (B + 1) o.value ≤ 4194304) (hk : 1 ≤ o.kind ∧ o.kind ≤ 4) (hss : s.size ≤ 1000) (ih : PatI B o r) : PatI B o (s :: r) := by
 intro S j cs co A c w0 w hj h0 hS hw hcap ho hT hE hz
 replace hj : (tJ (B + r.length + 1 + 1)).O w S j cs := hj
 show Calls Tryz.prog 32 #[.agg cs.toArray, .slice A (r.length + 1) c, .agg co.toArray] w fun e w' => PatPost (B + r.length + 1 + 1) w S (patV o (s :: r) j) e w'
 obtain ⟨n, hn⟩ : ∃ n, n = r.length + 1 := ⟨_, rfl⟩
 rw [← hn]
 have hcap2 : n ≤ c := by rw [hn]; exact hcap
 obtain ⟨ad, hA, hc0, hs0⟩ := C_str_at hw (Below.refl _ _) 0 (by simp)
 subst hA
 have hc0b : w0.cell? ad = some (.string s) := by rw [← show ad.add 0 = ad by simp [Addr.add]]; exact hc0
 replace hc0 : w0.cell? (ad.add 0) = some (.string s) := hc0
 clear hs0 hcap
 obtain ⟨d, hzd⟩ := hz
 have HZD := Hd.mk hzd; clear hzd
 have hz : True := trivial
 obtain ⟨v3, v4, _, _, rfl, hsj, hr3, hr4, _⟩ := tJ_O.1 hj
 obtain ⟨A1, c1, rfl, hc1, _⟩ := R_C hr3
 obtain ⟨A2, c2, rfl, hc2, _⟩ := R_C hr4
 clear hr3 hr4
 have HJ := Hd.mk (Ty.O_bound _ hj); clear hj
 obtain ⟨AW, cW, _, rfl, ⟨hcw, hrw⟩, hjo⟩ := tOp_K.1 ho
 have HKJ := Hd.mk hjo
 obtain ⟨A3, c3, A4, c4, rfl, hso, ⟨hc3, hr3⟩, hc4, hr4⟩ := tJ_K.1 hjo
 have HKO := Hd.mk ho
 clear hr3 hr4 ho hjo hrw hcw
 have H0 := Hd.mk h0; have HS0 := Hd.mk hS; have HW := Hd.mk hw; have HT := Hd.mk hT; have HE := Hd.mk hE; have HZ := Hd.mk hz
 clear h0 hS hw hT hE hz
 have hB := Hd.mk (Below.refl w.heap.size w)
 have HBU := Hd.mk hb; clear hb
 obtain ⟨kk, hkk⟩ : ∃ z, z = o.kind := ⟨_, rfl⟩
 have HKK := Hd.mk hkk
 rw [← hkk] at hk HKO ⊢
 have HOWN := Hd.mk (own_size HZD.out)
 have HLN := Hd.mk (list_len HZD.out)
 clear hkk
 cases hr : r.isEmpty
 ·have hn0 : ¬ ((n : Int) = 0) := by omega
  have hn1 : ¬ ((n : Int) = 1) := by rcases r with _ | ⟨x, r⟩; (simp at hr); (simp only [List.length_cons] at hn; omega)
  have HN := Hd.mk hn; clear hn
  have HA1 := Hd.mk (show ((o.kind == 1) && r.isEmpty) = false by rw [hr]; simp)
  have HA2 := Hd.mk (show ((o.kind == 2) && r.isEmpty) = false by rw [hr]; simp)
  clear hr hk
  go_enter Tryz.func32, Tryz.ntmps32
  go_wp2_with fail
  apply wp_gen; intro W1 hW
  have hz_ : w.heap.size + 3 ≤ W1.heap.size := by rw [hW]; simp
  have hE : Below w.heap.size w W1 := by rw [hW]; (repeat (first | with_reducible refine below_alloc ?_ _ | with_reducible refine below_drew ?_)); exact Below.refl _ _
  have hB := hB.th hE
  have b0 := Hd.mk (show Blk W1 (w.heap.size) #[.int .i64 j.kind, .int .i64 j.n, .string j.s, .slice A1 j.list.length c1, .slice A2 j.names.length c2] 32 by rw [hW]; first | exact (((Blk.new _ _ _).alloc _).alloc _) | (simpa using (((Blk.new _ _ _).alloc _).alloc _)))
  have b1 := Hd.mk (show Blk W1 (w.heap.size + 1) #[.int .i64 kk, .slice AW o.way.length cW, .int .i64 o.value.kind, .int .i64 o.value.n, .string o.value.s, .slice A3 o.value.list.length c3, .slice A4 o.value.names.length c4] 37 by rw [hW]; first | exact ((Blk.new1 _ _ _ _).alloc _) | (simpa using ((Blk.new1 _ _ _ _).alloc _)))
  have b2 := Hd.mk (show Blk W1 (w.heap.size + 1 + 1) #[.int .i64 0, .int .i64 0, .string ⟨#[]⟩, .slice none 0 0, .slice none 0 0] 32 by rw [hW]; first | exact (Blk.new2 _ _ _ _ _) | (simpa using (Blk.new2 _ _ _ _ _)))
  have HJ := HJ.ob hE
  clear hW hE
  have z1 := Hd.mk hz_; clear hz_
  have H0c := Hd.mk (below_then H0.out hB.out)
  have H0r := Hd.mk H0c.out
  have z0 := Hd.mk (show w.heap.size + 3 ≤ W1.heap.size by have z1_ := z1.out; omega)
  have xw := cell_below H0c.out hc0b
  have rxw := cell_regrown xw
  have xv := cell_below H0c.out hc0
  have rxv := cell_regrown xv
  obtain ⟨v00, v01, v02, v03, v04, v0z⟩ := blk5 b0.out
  obtain ⟨v10, v11, v12, v13, v14, v15, v16, v1z⟩ := blk7 b1.out
  obtain ⟨v20, v21, v22, v23, v24, v2z⟩ := blk5 b2.out
  obtain ⟨rv00, rv01, rv02, rv03, rv04, rv10, rv11⟩ := reg7 v00 v01 v02 v03 v04 v10 v11
  obtain ⟨rv12, rv13, rv14, rv15, rv16⟩ := reg5 v12 v13 v14 v15 v16
  obtain ⟨rv20, rv21, rv22, rv23, rv24⟩ := reg5 v20 v21 v22 v23 v24
  refine region_mixT (.q 0 (.p 1 (.q 2 (.q 3 (.b 4 .fin))))) [5] (by kernel_rfl) (by kernel_rfl) (fun _ _ _ _ _ h => h) ?_
  refine genT ?_
  intro W2 hW
  have hS := Hd.mk (show Below W1.heap.size W1 W2 by rw [hW]; exact below_drew (Below.refl _ _))
  have hz_ : W1.heap.size ≤ W2.heap.size := by rw [hW]; simp
  have hE : Below W1.heap.size W1 W2 := by rw [hW]; (repeat (first | with_reducible refine below_alloc ?_ _ | with_reducible refine below_drew ?_)); exact Below.refl _ _
  have hB := hB.th hE
  have b0 := b0.dn hE
  have b1 := b1.dn hE
  have b2 := b2.dn hE
  have HJ := HJ.ob hE
  clear hW hE
  have z2 := Hd.mk hz_; clear hz_
  iterate 4 ((first | refine mixT_q rfl ?_ | refine mixT_p rfl ?_); go_big_quiet_want; go_big_quiet_op; go_big_quiet_on; refine wpQuiet_nil ?_)
  refine mixT_b rfl ?_ (by rfl)
  go_wp2_with fail
  apply calls_gen; intro W3 hW
  have hz_ : W2.heap.size ≤ W3.heap.size := by rw [hW]; simp
  have hE : Below W2.heap.size W2 W3 := by rw [hW]; (repeat (first | with_reducible refine below_alloc ?_ _ | with_reducible refine below_drew ?_)); exact Below.refl _ _
  have hB := hB.th hE
  replace hS := Hd.mk (below_then hS.out hE)
  have b0 := b0.dn hE
  have b1 := b1.dn hE
  have b2 := b2.dn hE
  have HJ := HJ.ob hE
  clear hW hE
  have z3 := Hd.mk hz_; clear hz_
  refine (impl_placeOf j _ s _ (Ty.K_below _ (Below.refl _ _) (Ty.O_K _ HJ.out)) (by omega) (HT.out.below (below_then H0.out hB.out)) (HE.out.below (below_then H0.out hB.out))).mono ?_
  rintro e w4 ⟨rfl, hX⟩
  have b0 := b0.dn hX
  have b1 := b1.dn hX
  have b2 := b2.dn hX
  have HJ := HJ.ob hX
  have hB := hB.th hX
  replace hS := Hd.mk (below_then hS.out hX)
  have hz_ := hX.size
  clear hX
  have z4 := Hd.mk hz_; clear hz_
  rw [place_eq HOWN.out]
  obtain ⟨at_, hat⟩ : ∃ z, z = placeS j s := ⟨_, rfl⟩
  rw [← hat]
  have HAT := Hd.mk hat; clear hat
  go_wp2_with fail
  refine ⟨cls_below hS.out, ?_⟩
  refine mixT_fin ?_
  clear hS
  clear rv00 rv01 rv02 rv03 rv04 rv10 rv11 rv12 rv13 rv14 rv15 rv16 rv20 rv21 rv22 rv23 rv24
  clear v00 v01 v02 v03 v04 v0z v10 v11 v12 v13 v14 v15 v16 v1z v20 v21 v22 v23 v24 v2z
  obtain ⟨v00, v01, v02, v03, v04, v0z⟩ := blk5 b0.out
  obtain ⟨v10, v11, v12, v13, v14, v15, v16, v1z⟩ := blk7 b1.out
  obtain ⟨v20, v21, v22, v23, v24, v2z⟩ := blk5 b2.out
  refine tail_b rfl ?_ (by rfl)
  go_wp2_with fail
  refine mixQ_n ?_
  refine tail_nil ?_
  clear xw rxw xv rxv
  clear v00 v01 v02 v03 v04 v0z v10 v11 v12 v13 v14 v15 v16 v1z v20 v21 v22 v23 v24 v2z
  by_cases hat0 : at_ < 0
  ·obtain ⟨v00, v01, v02, v03, v04, v0z⟩ := blk5 b0.out
   obtain ⟨v10, v11, v12, v13, v14, v15, v16, v1z⟩ := blk7 b1.out
   obtain ⟨v20, v21, v22, v23, v24, v2z⟩ := blk5 b2.out
   go_wp2_with fail
   refine bodyPost_retW (v := .tuple #[.agg #[.int .i64 0, .int .i64 0, .string ⟨#[]⟩, .slice none 0 0, .slice none 0 0], .bool false]) (by simp [results, Tryz.results32, go_sem, v00, v01, v02, v03, v04, v0z, v10, v11, v12, v13, v14, v15, v16, v1z, v20, v21, v22, v23, v24, v2z]) rfl ?_
   intro W hW
   clear v00 v01 v02 v03 v04 v0z v10 v11 v12 v13 v14 v15 v16 v1z v20 v21 v22 v23 v24 v2z
   have eF : Fr w4 W (fun k => w.heap.size ≤ k) := by rw [hW]; (repeat (first | with_reducible refine Fr.setCell ?_ _ (fun _ => by simp <;> omega) _ | with_reducible refine Fr.alloc ?_ _ | with_reducible refine Fr.drew ?_)); exact Fr.refl _ _
   exact pat_none (pat_no HA1.out (by rw [← HAT.out]; exact hat0)) rfl ((Fr.of_below hB.out S).then_ eF (fun k h hl => by (try simp only at h); omega))
  ·obtain ⟨q, hq⟩ := Int.eq_ofNat_of_zero_le (Int.not_lt.1 hat0)
   subst hq
   have hql := place_lt HOWN.out s HAT.out.symm
   clear hat0
   have hq0 : (0 : Int) ≤ (q : Int) := by omega
   have hqn : ¬ ((q : Int) < 0) := by omega
   have HPV := Hd.mk (pat_in HA1.out HA2.out HAT.out.symm hql)
   obtain ⟨v3, v4, T3, T4, hcj, hsj2, hr3, hr4, hs3, hs4, hs34⟩ := tJ_O.1 HJ.out
   simp only [List.cons.injEq, and_true, true_and] at hcj
   obtain ⟨rfl, rfl⟩ := hcj
   have HL := Hd.mk hr3; have HN4 := Hd.mk hr4; have HT3 := Hd.mk hs3; have HT4 := Hd.mk hs4; have H34 := Hd.mk hs34
   clear hr3 hr4 hs3 hs4 hs34 HJ
   obtain ⟨gl, cl, he, hgl, _⟩ := R_form HL.out (by omega)
   injection he with e1 e2 e3
   subst e1; subst e3; clear e2
   obtain ⟨Si, Ae, Be, ae, be, hH, hOe, hSg, hgw, ⟨x0, x1, x2, x3, x4⟩, xz, hlc, hc63⟩ := R_elem5 HL.out hql
   obtain ⟨_, _, _, _, _, _, _, hgI, _, _⟩ := H_cells hH (show 0 < 5 by decide)
   have HSI := Hd.mk (H_in hH)
   have hH := Hd.mk hH; have hOe := Hd.mk hOe
   have hqi : (q : Int) < (j.list.length : Int) := by omega
   obtain ⟨v00, v01, v02, v03, v04, v0z⟩ := blk5 b0.out
   obtain ⟨v10, v11, v12, v13, v14, v15, v16, v1z⟩ := blk7 b1.out
   obtain ⟨v20, v21, v22, v23, v24, v2z⟩ := blk5 b2.out
   go_wp2_with fail
   clear v00 v01 v02 v03 v04 v0z v10 v11 v12 v13 v14 v15 v16 v1z v20 v21 v22 v23 v24 v2z
   have H0c := Hd.mk (below_then H0.out hB.out)
   have H0r := Hd.mk H0c.out
   have hB := Hd.mk (Fr.of_below hB.out S)
   have sb0 := Hd.mk b0.out
   have sb1 := Hd.mk b1.out
   have sb2 := Hd.mk b2.out
   refine region_mixC (fun x_ => Fr w4 x_ (fun k => Si k ∧ k < w.heap.size)) (.q 7 (.p 0 (.q 1 (.p 2 (.p 3 (.q 4 (.p 5 (.p 6 (.br 8 12 (.p 9 (.p 10 (.p 11 (.b 12 .fin)))) (.b 8 (.p 9 (.p 10 (.p 11 .fin))))))))))))) [13, 14] (by kernel_rfl) (Fr.drew (Fr.refl _ _)) (by kernel_rfl) (fun _ _ _ _ _ h => h) ?_
   refine genT ?_
   intro W5 hW
   have hS := Hd.mk (show Fr w4 W5 (fun k => Si k ∧ k < w.heap.size) by rw [hW]; exact Fr.drew (Fr.refl _ _))
   have hz_ : w4.heap.size ≤ W5.heap.size := by rw [hW]; simp
   have hE : Below w4.heap.size w4 W5 := by rw [hW]; (repeat (first | with_reducible refine below_alloc ?_ _ | with_reducible refine below_drew ?_)); exact Below.refl _ _
   have hB := Hd.mk (hB.out.trans (Fr.of_below hE _))
   have H0c := Hd.mk (below_then H0c.out hE)
   have b0 := b0.dn hE
   have b1 := b1.dn hE
   have b2 := b2.dn hE
   have HN4 := Hd.mk (R_below HN4.out hE)
   have hH := Hd.mk (H_belowZ hH.out hE)
   have hOe := hOe.ob hE
   clear hW hE
   have z5 := Hd.mk hz_; clear hz_
   refine mixT_see rfl (by rfl) (.agg #[.int .i64 kk, .slice AW o.way.length cW, .int .i64 o.value.kind, .int .i64 o.value.n, .string o.value.s, .slice A3 o.value.list.length c3, .slice A4 o.value.names.length c4]) (fun w_ hw_ => by have f0_ := (sb1.out.fr hw_ (fun h => by have q_ := h.2; omega)).cell 0 rfl; have f1_ := (sb1.out.fr hw_ (fun h => by have q_ := h.2; omega)).cell 1 rfl; have f2_ := (sb1.out.fr hw_ (fun h => by have q_ := h.2; omega)).cell 2 rfl; have f3_ := (sb1.out.fr hw_ (fun h => by have q_ := h.2; omega)).cell 3 rfl; have f4_ := (sb1.out.fr hw_ (fun h => by have q_ := h.2; omega)).cell 4 rfl; have f5_ := (sb1.out.fr hw_ (fun h => by have q_ := h.2; omega)).cell 5 rfl; have f6_ := (sb1.out.fr hw_ (fun h => by have q_ := h.2; omega)).cell 6 rfl; simp [execOp, go_sem, f0_, f1_, f2_, f3_, f4_, f5_, f6_]) hS.out ?_
   obtain ⟨v00, v01, v02, v03, v04, v0z⟩ := blk5 b0.out
   obtain ⟨v10, v11, v12, v13, v14, v15, v16, v1z⟩ := blk7 b1.out
   obtain ⟨v20, v21, v22, v23, v24, v2z⟩ := blk5 b2.out
   go_wp2_with fail
   refine mixQ_n ?_
   clear v00 v01 v02 v03 v04 v0z v10 v11 v12 v13 v14 v15 v16 v1z v20 v21 v22 v23 v24 v2z
   refine mixT_p rfl ?_
   go_big_quiet_want; go_big_quiet_op; go_big_quiet_on; refine wpQuiet_nil ?_
   refine mixT_see rfl (by rfl) (Value.slice (some ⟨gl, 0, none⟩) j.list.length c1) (fun w_ hw_ => by have f0_ := (sb0.out.fr hw_ (fun h => by have q_ := h.2; omega)).cell 3 rfl; simp [execOp, go_sem, f0_]) hS.out ?_
   obtain ⟨v00, v01, v02, v03, v04, v0z⟩ := blk5 b0.out
   obtain ⟨v10, v11, v12, v13, v14, v15, v16, v1z⟩ := blk7 b1.out
   obtain ⟨v20, v21, v22, v23, v24, v2z⟩ := blk5 b2.out
   go_wp2_with fail
   refine mixQ_n ?_
   clear v00 v01 v02 v03 v04 v0z v10 v11 v12 v13 v14 v15 v16 v1z v20 v21 v22 v23 v24 v2z
   iterate 2 (refine mixT_p rfl ?_; go_big_quiet_want; go_big_quiet_op; go_big_quiet_on; refine wpQuiet_nil ?_)
   refine mixT_see rfl (by rfl) (.agg #[.int .i64 j.list[q].kind, .int .i64 j.list[q].n, .string j.list[q].s, .slice Ae j.list[q].list.length ae, .slice Be j.list[q].names.length be]) (fun w_ hw_ => by have f0_ := (World.cell?_of_block (hw_.block gl hgw (fun h => absurd h.1 hgI))).trans x0; have f1_ := (World.cell?_of_block (hw_.block gl hgw (fun h => absurd h.1 hgI))).trans x1; have f2_ := (World.cell?_of_block (hw_.block gl hgw (fun h => absurd h.1 hgI))).trans x2; have f3_ := (World.cell?_of_block (hw_.block gl hgw (fun h => absurd h.1 hgI))).trans x3; have f4_ := (World.cell?_of_block (hw_.block gl hgw (fun h => absurd h.1 hgI))).trans x4; simp [execOp, go_sem, f0_, f1_, f2_, f3_, f4_]) hS.out ?_
   have y0_ := (World.cell?_of_block (hS.out.block gl hgw (fun h => absurd h.1 hgI))).trans x0; have y1_ := (World.cell?_of_block (hS.out.block gl hgw (fun h => absurd h.1 hgI))).trans x1; have y2_ := (World.cell?_of_block (hS.out.block gl hgw (fun h => absurd h.1 hgI))).trans x2; have y3_ := (World.cell?_of_block (hS.out.block gl hgw (fun h => absurd h.1 hgI))).trans x3; have y4_ := (World.cell?_of_block (hS.out.block gl hgw (fun h => absurd h.1 hgI))).trans x4
   obtain ⟨v00, v01, v02, v03, v04, v0z⟩ := blk5 b0.out
   obtain ⟨v10, v11, v12, v13, v14, v15, v16, v1z⟩ := blk7 b1.out
   obtain ⟨v20, v21, v22, v23, v24, v2z⟩ := blk5 b2.out
   go_wp2_with fail
   refine mixQ_n ?_
   clear y0_ y1_ y2_ y3_ y4_
   clear v00 v01 v02 v03 v04 v0z v10 v11 v12 v13 v14 v15 v16 v1z v20 v21 v22 v23 v24 v2z
   iterate 2 (refine mixT_p rfl ?_; go_big_quiet_want; go_big_quiet_op; go_big_quiet_on; refine wpQuiet_nil ?_)
   refine ⟨?_, ?_⟩
   ·refine stepM_of rfl ?_ (by rfl)
    go_wp2_with fail
    apply calls_gen; intro W6 hW
    have hz_ : W5.heap.size ≤ W6.heap.size := by rw [hW]; simp
    have hE : Below W5.heap.size W5 W6 := by rw [hW]; (repeat (first | with_reducible refine below_alloc ?_ _ | with_reducible refine below_drew ?_)); exact Below.refl _ _
    have hB := Hd.mk (hB.out.trans (Fr.of_below hE _))
    have H0c := Hd.mk (below_then H0c.out hE)
    replace hS := Hd.mk (hS.out.trans (Fr.of_below hE _))
    have b0 := b0.dn hE
    have b1 := b1.dn hE
    have b2 := b2.dn hE
    have HN4 := Hd.mk (R_below HN4.out hE)
    have hH := Hd.mk (H_belowZ hH.out hE)
    have hOe := hOe.ob hE
    clear hW hE
    have z6 := Hd.mk hz_; clear hz_
    have z0_ := z0.out; have z1_ := z1.out; have z2_ := z2.out; have z3_ := z3.out; have z4_ := z4.out; have z5_ := z5.out; have z6_ := z6.out
    rw [show n - 1 = r.length by have := HN.out; omega]
    obtain ⟨d2, _, hz2⟩ := sizeN_at HZD.out q hql
    refine (ih (fun k => Si k) j.list[q] _ _ _ _ w0 _ hOe.out H0c.out (fun k h => HS0.out k (HT3.out k (HSI.out k h)).1) (C_tail HW.out (.inr rfl)) (by have := HN.out; omega) HKO.out HT.out HE.out ⟨d2, hz2⟩).mono ?_
    rintro e w9 hP
    obtain ⟨ra, rb, rs, RA, RB, rn, rc, rn2, rd, ok, rfl, hX, hR⟩ := pat_open hP
    have HR := Hd.mk hR; clear hR hP
    have b0 := Hd.mk (b0.out.fr hX (fun h => by have q_ := (HT3.out _ (HSI.out _ h)).2; omega))
    have b1 := Hd.mk (b1.out.fr hX (fun h => by have q_ := (HT3.out _ (HSI.out _ h)).2; omega))
    have b2 := Hd.mk (b2.out.fr hX (fun h => by have q_ := (HT3.out _ (HSI.out _ h)).2; omega))
    have HR := Hd.mk (pat_T HR.out)
    have HN4 := Hd.mk (R_fr HN4.out hX (fun k hk hl h => H34.out k (HSI.out k h) hk))
    have hH := Hd.mk (H_fr hH.out hX (fun k _ h _ => h))
    clear H0c hOe
    replace hS := Hd.mk (hS.out.then_ hX (fun k h hl => ⟨h, (HT3.out k (HSI.out k h)).2⟩))
    have hB := Hd.mk (hB.out.then_ hX (fun k h hl => (HT3.out k (HSI.out k h)).1))
    have hz_ := hX.size
    clear hX
    have z7 := Hd.mk hz_; clear hz_
    go_wp2_with fail
    refine ⟨hS.out, ?_⟩
    iterate 3 (refine mixT_p rfl ?_; go_big_quiet_want; go_big_quiet_op; go_big_quiet_on; refine wpQuiet_nil ?_)
    refine mixT_b rfl ?_ (by rfl)
    go_wp2_with fail
    refine ⟨hS.out.alloc _, ?_⟩
    refine genT ?_; intro W7 hW
    have hz_ : w9.heap.size + 1 ≤ W7.heap.size := by rw [hW]; simp
    have hE : Below w9.heap.size w9 W7 := by rw [hW]; (repeat (first | with_reducible refine below_alloc ?_ _ | with_reducible refine below_drew ?_)); exact Below.refl _ _
    have hB := Hd.mk (hB.out.trans (Fr.of_below hE _))
    replace hS := Hd.mk (hS.out.trans (Fr.of_below hE _))
    have b0 := b0.dn hE
    have b1 := b1.dn hE
    have b2 := b2.dn hE
    have b3 := Hd.mk (show Blk W7 (w9.heap.size) #[.int .i64 0, .int .i64 0, .string ⟨#[]⟩, .slice none 0 0, .slice none 0 0] 32 by rw [hW]; first | exact (Blk.new _ _ _) | (simpa using (Blk.new _ _ _)))
    have HN4 := Hd.mk (R_below HN4.out hE)
    have hH := Hd.mk (H_belowZ hH.out hE)
    have HR := Hd.mk (patT_below HR.out hE)
    clear hW hE
    have z8 := Hd.mk hz_; clear hz_
    refine mixT_fin ?_
    clear hS
    obtain ⟨v00, v01, v02, v03, v04, v0z⟩ := blk5 b0.out
    obtain ⟨v10, v11, v12, v13, v14, v15, v16, v1z⟩ := blk7 b1.out
    obtain ⟨v20, v21, v22, v23, v24, v2z⟩ := blk5 b2.out
    obtain ⟨v30, v31, v32, v33, v34, v3z⟩ := blk5 b3.out
    refine tail_b rfl ?_ (by rfl)
    go_wp2_with fail
    refine mixQ_n ?_
    refine tail_b rfl ?_ (by rfl)
    go_wp2_with fail
    refine mixQ_n ?_
    refine tail_nil ?_
    refine exit_gen ?_; intro Wb hW
    clear v00 v01 v02 v03 v04 v0z v10 v11 v12 v13 v14 v15 v16 v1z v20 v21 v22 v23 v24 v2z v30 v31 v32 v33 v34 v3z
    have eF : Fr W7 Wb (fun k => k = w9.heap.size) := by rw [hW]; exact Fr.set5 _ _ _ _ _ _ _ _ _ _ _ _
    have z0_ := z0.out; have z1_ := z1.out; have z2_ := z2.out; have z3_ := z3.out; have z4_ := z4.out; have z5_ := z5.out; have z6_ := z6.out; have z7_ := z7.out; have z8_ := z8.out
    have b0 := Hd.mk (b0.out.fr eF (fun h => by (try simp only at h); omega))
    have b1 := Hd.mk (b1.out.fr eF (fun h => by (try simp only at h); omega))
    have b2 := Hd.mk (b2.out.fr eF (fun h => by (try simp only at h); omega))
    have b3 := Hd.mk (show Blk Wb (w9.heap.size) #[.int .i64 ra, .int .i64 rb, .string rs, .slice RA rn rc, .slice RB rn2 rd] 32 by rw [hW]; exact Blk.all b3.out [Value.int IntKind.i64 ra, .int .i64 rb, .string rs, .slice RA rn rc, .slice RB rn2 rd] rfl)
    have HN4 := Hd.mk (R_fr HN4.out eF (fun k hk hl h => by have q_ := (HT4.out k hk).2; (try simp only at h); omega))
    have hH := Hd.mk (H_fr hH.out eF (fun k hs h _ => by have q_ := (HT3.out k hs).2; (try simp only at h); omega))
    have HR := Hd.mk (patT_fr HR.out eF (fun k hk hl h => by (try simp only at h); have q2_ := hk.2; rcases hk.1 with q_ | q_; omega; (have q3_ := (HT3.out k (HSI.out k q_)).2; omega)))
    have hB := Hd.mk (hB.out.then_ eF (fun k h hl => by (try simp only at h); omega))
    have hzb := Hd.mk eF.size
    clear hW eF
    rcases HR.out with ⟨rfl, zz, hz1, hz2⟩ | ⟨rfl, hz1⟩
    ·have hz2 := Hd.mk hz2; have hz1 := Hd.mk hz1
     obtain ⟨g2, cap2, he2, _, _, _, hg2w, hgI2, hcell, hfz⟩ := H_cells hH.out (show 0 < 5 by decide)
     injection he2 with e1 _ e3
     subst e3
     injection e1 with e1
     injection e1 with e1 _ _
     subst e1
     have y0 := hcell 0 _ rfl; have y1 := hcell 1 _ rfl; have y2 := hcell 2 _ rfl; have y3 := hcell 3 _ rfl; have y4 := hcell 4 _ rfl
     simp only [tJ_sz, Nat.add_zero] at y0 y1 y2 y3 y4
     clear hcell x0 x1 x2 x3 x4 xz
     have hglw : gl < w.heap.size := (HT3.out gl hSg).2
     have hgl9 : gl < w9.heap.size := by have z0_ := z0.out; have z1_ := z1.out; have z2_ := z2.out; have z3_ := z3.out; have z4_ := z4.out; have z5_ := z5.out; have z6_ := z6.out; have z7_ := z7.out; have z8_ := z8.out; have hzb_ := hzb.out; omega
     obtain ⟨v00, v01, v02, v03, v04, v0z⟩ := blk5 b0.out
     obtain ⟨v10, v11, v12, v13, v14, v15, v16, v1z⟩ := blk7 b1.out
     obtain ⟨v20, v21, v22, v23, v24, v2z⟩ := blk5 b2.out
     obtain ⟨v30, v31, v32, v33, v34, v3z⟩ := blk5 b3.out
     go_wp2_with fail
     refine bodyPost_retW (v := .tuple #[.agg #[.int .i64 j.kind, .int .i64 j.n, .string j.s, .slice (some ⟨gl, 0, none⟩) j.list.length c1, .slice A2 j.names.length c2], .bool true]) (by simp [results, Tryz.results32, go_sem, v00, v01, v02, v03, v04, v0z, v10, v11, v12, v13, v14, v15, v16, v1z, v20, v21, v22, v23, v24, v2z, v30, v31, v32, v33, v34, v3z]) rfl ?_
     intro W hW
     clear v00 v01 v02 v03 v04 v0z v10 v11 v12 v13 v14 v15 v16 v1z v20 v21 v22 v23 v24 v2z v30 v31 v32 v33 v34 v3z
     have z0_ := z0.out; have z1_ := z1.out; have z2_ := z2.out; have z3_ := z3.out; have z4_ := z4.out; have z5_ := z5.out; have z6_ := z6.out; have z7_ := z7.out; have z8_ := z8.out; have hzb_ := hzb.out
     have hR1 := H_set5 hH.out rfl (z := zz) (S' := fun k => T3 k ∨ W6.heap.size ≤ k) hz2.out (fun h => by rcases h.1 with q_ | q_; omega; exact hgI q_) (fun k h => by rcases h.1 with q_ | q_; exact .inr (fun h3 => by have q3_ := (HT3.out k h3).2; omega); exact .inl q_) (fun k h => .inl h) (fun k h => by rcases h.1 with q_ | q_; exact .inr q_; exact .inl (HSI.out k q_))
     have hF1 := Fr.set5 Wb gl (q * 5) (q * 5 + 1) (q * 5 + 2) (q * 5 + 3) (q * 5 + 4) (Value.int IntKind.i64 ra) (Value.int IntKind.i64 rb) (Value.string rs) (Value.slice RA rn rc) (Value.slice RB rn2 rd)
     obtain ⟨Wa, hWa⟩ : ∃ z, z = (((((Wb.setCell ⟨gl, q * 5, none⟩ (Value.int IntKind.i64 ra)).setCell ⟨gl, q * 5 + 1, none⟩ (Value.int IntKind.i64 rb)).setCell ⟨gl, q * 5 + 2, none⟩ (Value.string rs)).setCell ⟨gl, q * 5 + 3, none⟩ (Value.slice RA rn rc)).setCell ⟨gl, q * 5 + 4, none⟩ (Value.slice RB rn2 rd)) := ⟨_, rfl⟩
     rw [← hWa] at hR1 hF1
     have eF : Fr Wa W (fun k => k = w.heap.size + 2) := by rw [hW, hWa]; exact Fr.set5 _ _ _ _ _ _ _ _ _ _ _ _
     clear hW hWa
     exact pat_some (z := setV j q zz) (cs := [Value.int IntKind.i64 j.kind, .int .i64 j.n, .string j.s, .slice (some ⟨gl, 0, none⟩) j.list.length c1, .slice A2 j.names.length c2]) (by rw [HPV.out, hz1.out]; rfl) rfl (tJ_O.2 ⟨_, _, fun k => T3 k ∨ W6.heap.size ≤ k, T4, rfl, hsj, R_fr hR1 eF (fun k hk hl h => by (try simp only at h); rcases hk with q_ | q_; (have q2_ := (HT3.out k q_).2; omega); omega), R_fr (R_fr HN4.out hF1 (fun k hk hl h => by have h : k = gl := h; subst h; exact H34.out _ hSg hk)) eF (fun k hk hl h => by have q_ := (HT4.out k hk).2; (try simp only at h); omega), fun k h => by
      rcases h with q_ | q_
      ·exact .inr (HT3.out k q_).1
      ·exact .inl (by omega), fun k h => .inr (HT4.out k h).1, fun k h h2 => by
      rcases h with q_ | q_
      ·exact H34.out k q_ h2
      ·have q2_ := (HT4.out k h2).2
       omega⟩) ((hB.out.then_ hF1 (fun k h _ => by have h : k = gl := h; subst h; exact (HT3.out _ hSg).1)).then_ eF (fun k h hl => by (try simp only at h); omega))
    ·have hz1 := Hd.mk hz1
     obtain ⟨v00, v01, v02, v03, v04, v0z⟩ := blk5 b0.out
     obtain ⟨v10, v11, v12, v13, v14, v15, v16, v1z⟩ := blk7 b1.out
     obtain ⟨v20, v21, v22, v23, v24, v2z⟩ := blk5 b2.out
     obtain ⟨v30, v31, v32, v33, v34, v3z⟩ := blk5 b3.out
     go_wp2_with fail
     refine bodyPost_retW (v := .tuple #[.agg #[.int .i64 0, .int .i64 0, .string ⟨#[]⟩, .slice none 0 0, .slice none 0 0], .bool false]) (by simp [results, Tryz.results32, go_sem, v00, v01, v02, v03, v04, v0z, v10, v11, v12, v13, v14, v15, v16, v1z, v20, v21, v22, v23, v24, v2z, v30, v31, v32, v33, v34, v3z]) rfl ?_
     intro W hW
     clear v00 v01 v02 v03 v04 v0z v10 v11 v12 v13 v14 v15 v16 v1z v20 v21 v22 v23 v24 v2z v30 v31 v32 v33 v34 v3z
     have z0_ := z0.out; have z1_ := z1.out; have z2_ := z2.out; have z3_ := z3.out; have z4_ := z4.out; have z5_ := z5.out; have z6_ := z6.out; have z7_ := z7.out; have z8_ := z8.out; have hzb_ := hzb.out
     have eF : Fr Wb W (fun k => w.heap.size ≤ k) := by rw [hW]; (repeat (first | with_reducible refine Fr.setCell ?_ _ (fun _ => by simp <;> omega) _ | with_reducible refine Fr.alloc ?_ _ | with_reducible refine Fr.drew ?_)); exact Fr.refl _ _
     exact pat_none (by rw [HPV.out, hz1.out]; rfl) rfl (hB.out.then_ eF (fun k h hl => by (try simp only at h); omega))
   ·refine stepM_of rfl ?_ (by rfl)
    go_wp2_with fail
    refine ⟨hS.out.alloc _, ?_⟩
    refine genT ?_; intro W6 hW
    have hz_ : W5.heap.size + 1 ≤ W6.heap.size := by rw [hW]; simp
    have hE : Below W5.heap.size W5 W6 := by rw [hW]; (repeat (first | with_reducible refine below_alloc ?_ _ | with_reducible refine below_drew ?_)); exact Below.refl _ _
    have hB := Hd.mk (hB.out.trans (Fr.of_below hE _))
    have H0c := Hd.mk (below_then H0c.out hE)
    replace hS := Hd.mk (hS.out.trans (Fr.of_below hE _))
    have b0 := b0.dn hE
    have b1 := b1.dn hE
    have b2 := b2.dn hE
    have b3 := Hd.mk (show Blk W6 (W5.heap.size) #[.int .i64 0, .int .i64 0, .string ⟨#[]⟩, .slice none 0 0, .slice none 0 0] 32 by rw [hW]; first | exact (Blk.new _ _ _) | (simpa using (Blk.new _ _ _)))
    have HN4 := Hd.mk (R_below HN4.out hE)
    have hH := Hd.mk (H_belowZ hH.out hE)
    have hOe := hOe.ob hE
    clear hW hE
    have z6 := Hd.mk hz_; clear hz_
    refine mixT_b rfl ?_ (by rfl)
    go_wp2_with fail
    apply calls_gen; intro W7 hW
    have hz_ : W6.heap.size ≤ W7.heap.size := by rw [hW]; simp
    have hE : Below W6.heap.size W6 W7 := by rw [hW]; (repeat (first | with_reducible refine below_alloc ?_ _ | with_reducible refine below_drew ?_)); exact Below.refl _ _
    have hB := Hd.mk (hB.out.trans (Fr.of_below hE _))
    have H0c := Hd.mk (below_then H0c.out hE)
    replace hS := Hd.mk (hS.out.trans (Fr.of_below hE _))
    have b0 := b0.dn hE
    have b1 := b1.dn hE
    have b2 := b2.dn hE
    have b3 := b3.dn hE
    have HN4 := Hd.mk (R_below HN4.out hE)
    have hH := Hd.mk (H_belowZ hH.out hE)
    have hOe := hOe.ob hE
    clear hW hE
    have z7 := Hd.mk hz_; clear hz_
    have z0_ := z0.out; have z1_ := z1.out; have z2_ := z2.out; have z3_ := z3.out; have z4_ := z4.out; have z5_ := z5.out; have z6_ := z6.out; have z7_ := z7.out
    rw [show n - 1 = r.length by have := HN.out; omega]
    obtain ⟨d2, _, hz2⟩ := sizeN_at HZD.out q hql
    refine (ih (fun k => Si k) j.list[q] _ _ _ _ w0 _ hOe.out H0c.out (fun k h => HS0.out k (HT3.out k (HSI.out k h)).1) (C_tail HW.out (.inr rfl)) (by have := HN.out; omega) HKO.out HT.out HE.out ⟨d2, hz2⟩).mono ?_
    rintro e w9 hP
    obtain ⟨ra, rb, rs, RA, RB, rn, rc, rn2, rd, ok, rfl, hX, hR⟩ := pat_open hP
    have HR := Hd.mk hR; clear hR hP
    have b0 := Hd.mk (b0.out.fr hX (fun h => by have q_ := (HT3.out _ (HSI.out _ h)).2; omega))
    have b1 := Hd.mk (b1.out.fr hX (fun h => by have q_ := (HT3.out _ (HSI.out _ h)).2; omega))
    have b2 := Hd.mk (b2.out.fr hX (fun h => by have q_ := (HT3.out _ (HSI.out _ h)).2; omega))
    have b3 := Hd.mk (b3.out.fr hX (fun h => by have q_ := (HT3.out _ (HSI.out _ h)).2; omega))
    have HR := Hd.mk (pat_T HR.out)
    have HN4 := Hd.mk (R_fr HN4.out hX (fun k hk hl h => H34.out k (HSI.out k h) hk))
    have hH := Hd.mk (H_fr hH.out hX (fun k _ h _ => h))
    clear H0c hOe
    replace hS := Hd.mk (hS.out.then_ hX (fun k h hl => ⟨h, (HT3.out k (HSI.out k h)).2⟩))
    have hB := Hd.mk (hB.out.then_ hX (fun k h hl => (HT3.out k (HSI.out k h)).1))
    have hz_ := hX.size
    clear hX
    have z8 := Hd.mk hz_; clear hz_
    go_wp2_with fail
    refine ⟨hS.out, ?_⟩
    iterate 3 (refine mixT_p rfl ?_; go_big_quiet_want; go_big_quiet_op; go_big_quiet_on; refine wpQuiet_nil ?_)
    refine mixT_fin ?_
    clear hS
    obtain ⟨v00, v01, v02, v03, v04, v0z⟩ := blk5 b0.out
    obtain ⟨v10, v11, v12, v13, v14, v15, v16, v1z⟩ := blk7 b1.out
    obtain ⟨v20, v21, v22, v23, v24, v2z⟩ := blk5 b2.out
    obtain ⟨v30, v31, v32, v33, v34, v3z⟩ := blk5 b3.out
    refine tail_b rfl ?_ (by rfl)
    go_wp2_with fail
    refine mixQ_n ?_
    refine tail_b rfl ?_ (by rfl)
    go_wp2_with fail
    refine mixQ_n ?_
    refine tail_nil ?_
    refine exit_gen ?_; intro Wb hW
    clear v00 v01 v02 v03 v04 v0z v10 v11 v12 v13 v14 v15 v16 v1z v20 v21 v22 v23 v24 v2z v30 v31 v32 v33 v34 v3z
    have eF : Fr w9 Wb (fun k => k = W5.heap.size) := by rw [hW]; exact Fr.set5 _ _ _ _ _ _ _ _ _ _ _ _
    have z0_ := z0.out; have z1_ := z1.out; have z2_ := z2.out; have z3_ := z3.out; have z4_ := z4.out; have z5_ := z5.out; have z6_ := z6.out; have z7_ := z7.out; have z8_ := z8.out
    have b0 := Hd.mk (b0.out.fr eF (fun h => by (try simp only at h); omega))
    have b1 := Hd.mk (b1.out.fr eF (fun h => by (try simp only at h); omega))
    have b2 := Hd.mk (b2.out.fr eF (fun h => by (try simp only at h); omega))
    have b3 := Hd.mk (show Blk Wb (W5.heap.size) #[.int .i64 ra, .int .i64 rb, .string rs, .slice RA rn rc, .slice RB rn2 rd] 32 by rw [hW]; exact Blk.all b3.out [Value.int IntKind.i64 ra, .int .i64 rb, .string rs, .slice RA rn rc, .slice RB rn2 rd] rfl)
    have HN4 := Hd.mk (R_fr HN4.out eF (fun k hk hl h => by have q_ := (HT4.out k hk).2; (try simp only at h); omega))
    have hH := Hd.mk (H_fr hH.out eF (fun k hs h _ => by have q_ := (HT3.out k hs).2; (try simp only at h); omega))
    have HR := Hd.mk (patT_fr HR.out eF (fun k hk hl h => by (try simp only at h); have q2_ := hk.2; rcases hk.1 with q_ | q_; omega; (have q3_ := (HT3.out k (HSI.out k q_)).2; omega)))
    have hB := Hd.mk (hB.out.then_ eF (fun k h hl => by (try simp only at h); omega))
    have hzb := Hd.mk eF.size
    clear hW eF
    rcases HR.out with ⟨rfl, zz, hz1, hz2⟩ | ⟨rfl, hz1⟩
    ·have hz2 := Hd.mk hz2; have hz1 := Hd.mk hz1
     obtain ⟨g2, cap2, he2, _, _, _, hg2w, hgI2, hcell, hfz⟩ := H_cells hH.out (show 0 < 5 by decide)
     injection he2 with e1 _ e3
     subst e3
     injection e1 with e1
     injection e1 with e1 _ _
     subst e1
     have y0 := hcell 0 _ rfl; have y1 := hcell 1 _ rfl; have y2 := hcell 2 _ rfl; have y3 := hcell 3 _ rfl; have y4 := hcell 4 _ rfl
     simp only [tJ_sz, Nat.add_zero] at y0 y1 y2 y3 y4
     clear hcell x0 x1 x2 x3 x4 xz
     have hglw : gl < w.heap.size := (HT3.out gl hSg).2
     have hgl9 : gl < W5.heap.size := by have z0_ := z0.out; have z1_ := z1.out; have z2_ := z2.out; have z3_ := z3.out; have z4_ := z4.out; have z5_ := z5.out; have z6_ := z6.out; have z7_ := z7.out; have z8_ := z8.out; have hzb_ := hzb.out; omega
     obtain ⟨v00, v01, v02, v03, v04, v0z⟩ := blk5 b0.out
     obtain ⟨v10, v11, v12, v13, v14, v15, v16, v1z⟩ := blk7 b1.out
     obtain ⟨v20, v21, v22, v23, v24, v2z⟩ := blk5 b2.out
     obtain ⟨v30, v31, v32, v33, v34, v3z⟩ := blk5 b3.out
     go_wp2_with fail
     refine bodyPost_retW (v := .tuple #[.agg #[.int .i64 j.kind, .int .i64 j.n, .string j.s, .slice (some ⟨gl, 0, none⟩) j.list.length c1, .slice A2 j.names.length c2], .bool true]) (by simp [results, Tryz.results32, go_sem, v00, v01, v02, v03, v04, v0z, v10, v11, v12, v13, v14, v15, v16, v1z, v20, v21, v22, v23, v24, v2z, v30, v31, v32, v33, v34, v3z]) rfl ?_
     intro W hW
     clear v00 v01 v02 v03 v04 v0z v10 v11 v12 v13 v14 v15 v16 v1z v20 v21 v22 v23 v24 v2z v30 v31 v32 v33 v34 v3z
     have z0_ := z0.out; have z1_ := z1.out; have z2_ := z2.out; have z3_ := z3.out; have z4_ := z4.out; have z5_ := z5.out; have z6_ := z6.out; have z7_ := z7.out; have z8_ := z8.out; have hzb_ := hzb.out
     have hR1 := H_set5 hH.out rfl (z := zz) (S' := fun k => T3 k ∨ W7.heap.size ≤ k) hz2.out (fun h => by rcases h.1 with q_ | q_; omega; exact hgI q_) (fun k h => by rcases h.1 with q_ | q_; exact .inr (fun h3 => by have q3_ := (HT3.out k h3).2; omega); exact .inl q_) (fun k h => .inl h) (fun k h => by rcases h.1 with q_ | q_; exact .inr q_; exact .inl (HSI.out k q_))
     have hF1 := Fr.set5 Wb gl (q * 5) (q * 5 + 1) (q * 5 + 2) (q * 5 + 3) (q * 5 + 4) (Value.int IntKind.i64 ra) (Value.int IntKind.i64 rb) (Value.string rs) (Value.slice RA rn rc) (Value.slice RB rn2 rd)
     obtain ⟨Wa, hWa⟩ : ∃ z, z = (((((Wb.setCell ⟨gl, q * 5, none⟩ (Value.int IntKind.i64 ra)).setCell ⟨gl, q * 5 + 1, none⟩ (Value.int IntKind.i64 rb)).setCell ⟨gl, q * 5 + 2, none⟩ (Value.string rs)).setCell ⟨gl, q * 5 + 3, none⟩ (Value.slice RA rn rc)).setCell ⟨gl, q * 5 + 4, none⟩ (Value.slice RB rn2 rd)) := ⟨_, rfl⟩
     rw [← hWa] at hR1 hF1
     have eF : Fr Wa W (fun k => k = w.heap.size + 2) := by rw [hW, hWa]; exact Fr.set5 _ _ _ _ _ _ _ _ _ _ _ _
     clear hW hWa
     exact pat_some (z := setV j q zz) (cs := [Value.int IntKind.i64 j.kind, .int .i64 j.n, .string j.s, .slice (some ⟨gl, 0, none⟩) j.list.length c1, .slice A2 j.names.length c2]) (by rw [HPV.out, hz1.out]; rfl) rfl (tJ_O.2 ⟨_, _, fun k => T3 k ∨ W7.heap.size ≤ k, T4, rfl, hsj, R_fr hR1 eF (fun k hk hl h => by (try simp only at h); rcases hk with q_ | q_; (have q2_ := (HT3.out k q_).2; omega); omega), R_fr (R_fr HN4.out hF1 (fun k hk hl h => by have h : k = gl := h; subst h; exact H34.out _ hSg hk)) eF (fun k hk hl h => by have q_ := (HT4.out k hk).2; (try simp only at h); omega), fun k h => by
      rcases h with q_ | q_
      ·exact .inr (HT3.out k q_).1
      ·exact .inl (by omega), fun k h => .inr (HT4.out k h).1, fun k h h2 => by
      rcases h with q_ | q_
      ·exact H34.out k q_ h2
      ·have q2_ := (HT4.out k h2).2
       omega⟩) ((hB.out.then_ hF1 (fun k h _ => by have h : k = gl := h; subst h; exact (HT3.out _ hSg).1)).then_ eF (fun k h hl => by (try simp only at h); omega))
    ·have hz1 := Hd.mk hz1
     obtain ⟨v00, v01, v02, v03, v04, v0z⟩ := blk5 b0.out
     obtain ⟨v10, v11, v12, v13, v14, v15, v16, v1z⟩ := blk7 b1.out
     obtain ⟨v20, v21, v22, v23, v24, v2z⟩ := blk5 b2.out
     obtain ⟨v30, v31, v32, v33, v34, v3z⟩ := blk5 b3.out
     go_wp2_with fail
     refine bodyPost_retW (v := .tuple #[.agg #[.int .i64 0, .int .i64 0, .string ⟨#[]⟩, .slice none 0 0, .slice none 0 0], .bool false]) (by simp [results, Tryz.results32, go_sem, v00, v01, v02, v03, v04, v0z, v10, v11, v12, v13, v14, v15, v16, v1z, v20, v21, v22, v23, v24, v2z, v30, v31, v32, v33, v34, v3z]) rfl ?_
     intro W hW
     clear v00 v01 v02 v03 v04 v0z v10 v11 v12 v13 v14 v15 v16 v1z v20 v21 v22 v23 v24 v2z v30 v31 v32 v33 v34 v3z
     have z0_ := z0.out; have z1_ := z1.out; have z2_ := z2.out; have z3_ := z3.out; have z4_ := z4.out; have z5_ := z5.out; have z6_ := z6.out; have z7_ := z7.out; have z8_ := z8.out; have hzb_ := hzb.out
     have eF : Fr Wb W (fun k => w.heap.size ≤ k) := by rw [hW]; (repeat (first | with_reducible refine Fr.setCell ?_ _ (fun _ => by simp <;> omega) _ | with_reducible refine Fr.alloc ?_ _ | with_reducible refine Fr.drew ?_)); exact Fr.refl _ _
     exact pat_none (by rw [HPV.out, hz1.out]; rfl) rfl (hB.out.then_ eF (fun k h hl => by (try simp only at h); omega))
 ·obtain rfl : r = [] := by simpa using hr
  obtain rfl : n = 1 := hn
  clear hr
  by_cases hk1 : kk = 1
  ·subst hk1
   have HPV := Hd.mk (pat_add (o := o) (s := s) (j := j) (by rw [← HKK.out]; rfl))
   clear hk
   go_enter Tryz.func32, Tryz.ntmps32
   go_wp2_with fail
   apply wp_gen; intro W1 hW
   have hz_ : w.heap.size + 3 ≤ W1.heap.size := by rw [hW]; simp
   have hE : Below w.heap.size w W1 := by rw [hW]; (repeat (first | with_reducible refine below_alloc ?_ _ | with_reducible refine below_drew ?_)); exact Below.refl _ _
   have hB := hB.th hE
   have b0 := Hd.mk (show Blk W1 (w.heap.size) #[.int .i64 j.kind, .int .i64 j.n, .string j.s, .slice A1 j.list.length c1, .slice A2 j.names.length c2] 32 by rw [hW]; first | exact (((Blk.new _ _ _).alloc _).alloc _) | (simpa using (((Blk.new _ _ _).alloc _).alloc _)))
   have b1 := Hd.mk (show Blk W1 (w.heap.size + 1) #[.int .i64 1, .slice AW o.way.length cW, .int .i64 o.value.kind, .int .i64 o.value.n, .string o.value.s, .slice A3 o.value.list.length c3, .slice A4 o.value.names.length c4] 37 by rw [hW]; first | exact ((Blk.new1 _ _ _ _).alloc _) | (simpa using ((Blk.new1 _ _ _ _).alloc _)))
   have b2 := Hd.mk (show Blk W1 (w.heap.size + 1 + 1) #[.int .i64 0, .int .i64 0, .string ⟨#[]⟩, .slice none 0 0, .slice none 0 0] 32 by rw [hW]; first | exact (Blk.new2 _ _ _ _ _) | (simpa using (Blk.new2 _ _ _ _ _)))
   have HJ := HJ.ob hE
   clear hW hE
   have z1 := Hd.mk hz_; clear hz_
   have H0c := Hd.mk (below_then H0.out hB.out)
   have H0r := Hd.mk H0c.out
   have z0 := Hd.mk (show w.heap.size + 3 ≤ W1.heap.size by have z1_ := z1.out; omega)
   have hB := Hd.mk (Fr.of_below hB.out S)
   have sb0 := Hd.mk b0.out
   have sb1 := Hd.mk b1.out
   have sb2 := Hd.mk b2.out
   refine region_mixC (fun x_ => Fr W1 x_ (fun k => S k ∧ k < w.heap.size)) (.q 0 (.p 1 (.q 2 (.q 3 (.p 4 (.q 5 (.b 6 (.b 7 (.p 8 (.p 9 .fin)))))))))) [10, 11] (by kernel_rfl) (Fr.drew (Fr.refl _ _)) (by kernel_rfl) (fun _ _ _ _ _ h => h) ?_
   refine genT ?_
   intro W2 hW
   have hS := Hd.mk (show Fr W1 W2 (fun k => S k ∧ k < w.heap.size) by rw [hW]; exact Fr.drew (Fr.refl _ _))
   have hz_ : W1.heap.size ≤ W2.heap.size := by rw [hW]; simp
   have hE : Below W1.heap.size W1 W2 := by rw [hW]; (repeat (first | with_reducible refine below_alloc ?_ _ | with_reducible refine below_drew ?_)); exact Below.refl _ _
   have hB := Hd.mk (hB.out.trans (Fr.of_below hE _))
   have H0c := Hd.mk (below_then H0c.out hE)
   have b0 := b0.dn hE
   have b1 := b1.dn hE
   have b2 := b2.dn hE
   have HJ := HJ.ob hE
   clear hW hE
   have z2 := Hd.mk hz_; clear hz_
   refine mixT_see rfl (by rfl) (.agg #[.int .i64 j.kind, .int .i64 j.n, .string j.s, .slice A1 j.list.length c1, .slice A2 j.names.length c2]) (fun w_ hw_ => by have f0_ := (sb0.out.fr hw_ (fun h => by have q_ := h.2; omega)).cell 0 rfl; have f1_ := (sb0.out.fr hw_ (fun h => by have q_ := h.2; omega)).cell 1 rfl; have f2_ := (sb0.out.fr hw_ (fun h => by have q_ := h.2; omega)).cell 2 rfl; have f3_ := (sb0.out.fr hw_ (fun h => by have q_ := h.2; omega)).cell 3 rfl; have f4_ := (sb0.out.fr hw_ (fun h => by have q_ := h.2; omega)).cell 4 rfl; simp [execOp, go_sem, f0_, f1_, f2_, f3_, f4_]) hS.out ?_
   obtain ⟨v00, v01, v02, v03, v04, v0z⟩ := blk5 b0.out
   obtain ⟨v10, v11, v12, v13, v14, v15, v16, v1z⟩ := blk7 b1.out
   obtain ⟨v20, v21, v22, v23, v24, v2z⟩ := blk5 b2.out
   go_wp2_with fail
   refine mixQ_n ?_
   clear v00 v01 v02 v03 v04 v0z v10 v11 v12 v13 v14 v15 v16 v1z v20 v21 v22 v23 v24 v2z
   refine mixT_p rfl ?_
   go_big_quiet_want; go_big_quiet_op; go_big_quiet_on; refine wpQuiet_nil ?_
   refine mixT_see rfl (by rfl) (.pointer (some ad)) (fun w_ hw_ => by first | (simp [execOp, go_sem]; done) | kernel_rfl) hS.out ?_
   have xw_ := cell_below H0c.out hc0b; have xv_ := cell_below H0c.out hc0
   obtain ⟨v00, v01, v02, v03, v04, v0z⟩ := blk5 b0.out
   obtain ⟨v10, v11, v12, v13, v14, v15, v16, v1z⟩ := blk7 b1.out
   obtain ⟨v20, v21, v22, v23, v24, v2z⟩ := blk5 b2.out
   go_wp2_with fail
   refine mixQ_n ?_
   clear xw_ xv_
   clear v00 v01 v02 v03 v04 v0z v10 v11 v12 v13 v14 v15 v16 v1z v20 v21 v22 v23 v24 v2z
   refine mixT_see rfl (by rfl) (.string s) (fun w_ hw_ => by have f0_ := cell_old hc0 H0r.out hw_ (fun k h => HS0.out k h.1); have f1_ := cell_old hc0b H0r.out hw_ (fun k h => HS0.out k h.1); simp [execOp, go_sem, f0_, f1_]) hS.out ?_
   have xw_ := cell_below H0c.out hc0b; have xv_ := cell_below H0c.out hc0
   obtain ⟨v00, v01, v02, v03, v04, v0z⟩ := blk5 b0.out
   obtain ⟨v10, v11, v12, v13, v14, v15, v16, v1z⟩ := blk7 b1.out
   obtain ⟨v20, v21, v22, v23, v24, v2z⟩ := blk5 b2.out
   go_wp2_with fail
   refine mixQ_n ?_
   clear xw_ xv_
   clear v00 v01 v02 v03 v04 v0z v10 v11 v12 v13 v14 v15 v16 v1z v20 v21 v22 v23 v24 v2z
   refine mixT_p rfl ?_
   go_big_quiet_want; go_big_quiet_op; go_big_quiet_on; refine wpQuiet_nil ?_
   refine mixT_see rfl (by rfl) (.agg #[.int .i64 o.value.kind, .int .i64 o.value.n, .string o.value.s, .slice A3 o.value.list.length c3, .slice A4 o.value.names.length c4]) (fun w_ hw_ => by have f0_ := (sb1.out.fr hw_ (fun h => by have q_ := h.2; omega)).cell 2 rfl; have f1_ := (sb1.out.fr hw_ (fun h => by have q_ := h.2; omega)).cell 3 rfl; have f2_ := (sb1.out.fr hw_ (fun h => by have q_ := h.2; omega)).cell 4 rfl; have f3_ := (sb1.out.fr hw_ (fun h => by have q_ := h.2; omega)).cell 5 rfl; have f4_ := (sb1.out.fr hw_ (fun h => by have q_ := h.2; omega)).cell 6 rfl; simp [execOp, go_sem, f0_, f1_, f2_, f3_, f4_]) hS.out ?_
   obtain ⟨v00, v01, v02, v03, v04, v0z⟩ := blk5 b0.out
   obtain ⟨v10, v11, v12, v13, v14, v15, v16, v1z⟩ := blk7 b1.out
   obtain ⟨v20, v21, v22, v23, v24, v2z⟩ := blk5 b2.out
   go_wp2_with fail
   refine mixQ_n ?_
   clear v00 v01 v02 v03 v04 v0z v10 v11 v12 v13 v14 v15 v16 v1z v20 v21 v22 v23 v24 v2z
   refine mixT_b rfl ?_ (by rfl)
   go_wp2_with fail
   apply calls_gen; intro W3 hW
   have hz_ : W2.heap.size ≤ W3.heap.size := by rw [hW]; simp
   have hE : Below W2.heap.size W2 W3 := by rw [hW]; (repeat (first | with_reducible refine below_alloc ?_ _ | with_reducible refine below_drew ?_)); exact Below.refl _ _
   have hB := Hd.mk (hB.out.trans (Fr.of_below hE _))
   have H0c := Hd.mk (below_then H0c.out hE)
   replace hS := Hd.mk (hS.out.trans (Fr.of_below hE _))
   have b0 := b0.dn hE
   have b1 := b1.dn hE
   have b2 := b2.dn hE
   have HJ := HJ.ob hE
   clear hW hE
   have z3 := Hd.mk hz_; clear hz_
   refine (impl_copyJson o.value _ _ (Ty.K_below _ H0c.out HKJ.out) HBU.out).mono ?_
   rintro e w4 ⟨cy, rfl, hY, hX⟩
   have b0 := b0.dn hX
   have b1 := b1.dn hX
   have b2 := b2.dn hX
   have HJ := HJ.ob hX
   have hB := Hd.mk (hB.out.trans (Fr.of_below hX _))
   replace hS := Hd.mk (hS.out.trans (Fr.of_below hX _))
   have hz_ := hX.size
   have H0c := Hd.mk (below_then H0c.out hX)
   clear hX
   have z4 := Hd.mk hz_; clear hz_
   obtain ⟨v3, v4, _, _, hcy, _, h3_, h4_, _⟩ := tJ_O.1 hY
   obtain ⟨A7, c7, rfl, _, _⟩ := R_C h3_
   obtain ⟨A8, c8, rfl, _, _⟩ := R_C h4_
   clear h3_ h4_
   subst hcy
   replace hY := Hd.mk (show (tJ (B + 1)).O w4 (rng W3.heap.size w4.heap.size) o.value _ from Ty.O_bound _ hY)
   go_wp2_with fail
   refine ⟨hS.out, ?_⟩
   refine mixT_b rfl ?_ (by rfl)
   go_wp2_with fail
   apply calls_gen; intro W5 hW
   have hz_ : w4.heap.size ≤ W5.heap.size := by rw [hW]; simp
   have hE : Below w4.heap.size w4 W5 := by rw [hW]; (repeat (first | with_reducible refine below_alloc ?_ _ | with_reducible refine below_drew ?_)); exact Below.refl _ _
   have hB := Hd.mk (hB.out.trans (Fr.of_below hE _))
   have H0c := Hd.mk (below_then H0c.out hE)
   replace hS := Hd.mk (hS.out.trans (Fr.of_below hE _))
   have b0 := b0.dn hE
   have b1 := b1.dn hE
   have b2 := b2.dn hE
   have HJ := HJ.ob hE
   have hY := hY.ob hE
   clear hW hE
   have z5 := Hd.mk hz_; clear hz_
   have z0_ := z0.out; have z1_ := z1.out; have z2_ := z2.out; have z3_ := z3.out; have z4_ := z4.out; have z5_ := z5.out
   refine (impl_addPart (m := B) (S := fun k => S k ∧ k < w.heap.size) (SV := rng W3.heap.size w4.heap.size) j o.value s _ _ _ HJ.out hY.out (fun k h h2 => by have q_ := h.2; have q2_ := h2.1; omega) hss HOWN.out HLN.out (HT.out.below H0c.out) (HE.out.below H0c.out)).mono ?_
   rintro e w9 hP
   obtain ⟨ra, rb, rs, RA, RB, rn, rc, rn2, rd, ok, rfl, hX, hR⟩ := pat_open hP
   have HR := Hd.mk hR; clear hR hP
   have b0 := Hd.mk (b0.out.fr hX (fun h => by rcases h with q_ | q_; (have q2_ := q_.2; omega); (have q2_ := q_.1; omega)))
   have b1 := Hd.mk (b1.out.fr hX (fun h => by rcases h with q_ | q_; (have q2_ := q_.2; omega); (have q2_ := q_.1; omega)))
   have b2 := Hd.mk (b2.out.fr hX (fun h => by rcases h with q_ | q_; (have q2_ := q_.2; omega); (have q2_ := q_.1; omega)))
   clear H0c
   replace hS := Hd.mk (hS.out.then_ hX (fun k h hl => by rcases h with q_ | q_; exact q_; (have q2_ := q_.1; omega)))
   have hB := Hd.mk (hB.out.then_ hX (fun k h hl => by rcases h with q_ | q_; exact q_.1; (have q2_ := q_.1; omega)))
   have hz_ := hX.size
   clear hX HJ hY
   have z6 := Hd.mk hz_; clear hz_
   go_wp2_with fail
   refine ⟨hS.out, ?_⟩
   iterate 2 (refine mixT_p rfl ?_; go_big_quiet_want; go_big_quiet_op; go_big_quiet_on; refine wpQuiet_nil ?_)
   refine mixT_fin ?_
   clear hS
   obtain ⟨v00, v01, v02, v03, v04, v0z⟩ := blk5 b0.out
   obtain ⟨v10, v11, v12, v13, v14, v15, v16, v1z⟩ := blk7 b1.out
   obtain ⟨v20, v21, v22, v23, v24, v2z⟩ := blk5 b2.out
   refine tail_b rfl ?_ (by rfl)
   go_wp2_with fail
   refine mixQ_n ?_
   refine tail_b rfl ?_ (by rfl)
   go_wp2_with fail
   refine mixQ_n ?_
   refine tail_nil ?_
   go_wp2_with fail
   refine bodyPost_retW (v := .tuple #[.agg #[.int .i64 ra, .int .i64 rb, .string rs, .slice RA rn rc, .slice RB rn2 rd], .bool ok]) (by simp [results, Tryz.results32, go_sem, v00, v01, v02, v03, v04, v0z, v10, v11, v12, v13, v14, v15, v16, v1z, v20, v21, v22, v23, v24, v2z]) rfl ?_
   intro W hW
   clear v00 v01 v02 v03 v04 v0z v10 v11 v12 v13 v14 v15 v16 v1z v20 v21 v22 v23 v24 v2z
   have z0_ := z0.out; have z1_ := z1.out; have z2_ := z2.out; have z3_ := z3.out; have z4_ := z4.out; have z5_ := z5.out; have z6_ := z6.out
   have eF : Fr w9 W (fun k => k = w.heap.size + 2) := by rw [hW]; (repeat (first | with_reducible refine Fr.setCell ?_ _ (fun _ => by simp <;> omega) _ | with_reducible refine Fr.alloc ?_ _ | with_reducible refine Fr.drew ?_)); exact Fr.refl _ _
   rw [HPV.out]
   exact pat_close HR.out eF (fun k hk hl h => by (try simp only at h); rcases hk with q_ | q_ | q_; omega; (have q2_ := q_.2; omega); (have q2_ := q_.1; omega)) (fun k hk => by rcases hk with q_ | q_ | q_; exact .inl (by omega); exact .inr q_.1; (have q2_ := q_.1; exact .inl (by omega))) (hB.out.then_ eF (fun k h hl => by (try simp only at h); omega))
  ·by_cases hk2 : kk = 2
   ·subst hk2
    have HA1 := Hd.mk (show ((o.kind == 1) && ([] : List ByteArray).isEmpty) = false by rw [← HKK.out]; rfl)
    clear hk hk1
    go_enter Tryz.func32, Tryz.ntmps32
    go_wp2_with fail
    apply wp_gen; intro W1 hW
    have hz_ : w.heap.size + 3 ≤ W1.heap.size := by rw [hW]; simp
    have hE : Below w.heap.size w W1 := by rw [hW]; (repeat (first | with_reducible refine below_alloc ?_ _ | with_reducible refine below_drew ?_)); exact Below.refl _ _
    have hB := hB.th hE
    have b0 := Hd.mk (show Blk W1 (w.heap.size) #[.int .i64 j.kind, .int .i64 j.n, .string j.s, .slice A1 j.list.length c1, .slice A2 j.names.length c2] 32 by rw [hW]; first | exact (((Blk.new _ _ _).alloc _).alloc _) | (simpa using (((Blk.new _ _ _).alloc _).alloc _)))
    have b1 := Hd.mk (show Blk W1 (w.heap.size + 1) #[.int .i64 2, .slice AW o.way.length cW, .int .i64 o.value.kind, .int .i64 o.value.n, .string o.value.s, .slice A3 o.value.list.length c3, .slice A4 o.value.names.length c4] 37 by rw [hW]; first | exact ((Blk.new1 _ _ _ _).alloc _) | (simpa using ((Blk.new1 _ _ _ _).alloc _)))
    have b2 := Hd.mk (show Blk W1 (w.heap.size + 1 + 1) #[.int .i64 0, .int .i64 0, .string ⟨#[]⟩, .slice none 0 0, .slice none 0 0] 32 by rw [hW]; first | exact (Blk.new2 _ _ _ _ _) | (simpa using (Blk.new2 _ _ _ _ _)))
    have HJ := HJ.ob hE
    clear hW hE
    have z1 := Hd.mk hz_; clear hz_
    have H0c := Hd.mk (below_then H0.out hB.out)
    have H0r := Hd.mk H0c.out
    have z0 := Hd.mk (show w.heap.size + 3 ≤ W1.heap.size by have z1_ := z1.out; omega)
    have xw := cell_below H0c.out hc0b
    have rxw := cell_regrown xw
    have xv := cell_below H0c.out hc0
    have rxv := cell_regrown xv
    obtain ⟨v00, v01, v02, v03, v04, v0z⟩ := blk5 b0.out
    obtain ⟨v10, v11, v12, v13, v14, v15, v16, v1z⟩ := blk7 b1.out
    obtain ⟨v20, v21, v22, v23, v24, v2z⟩ := blk5 b2.out
    obtain ⟨rv00, rv01, rv02, rv03, rv04, rv10, rv11⟩ := reg7 v00 v01 v02 v03 v04 v10 v11
    obtain ⟨rv12, rv13, rv14, rv15, rv16⟩ := reg5 v12 v13 v14 v15 v16
    obtain ⟨rv20, rv21, rv22, rv23, rv24⟩ := reg5 v20 v21 v22 v23 v24
    refine region_mixT (.q 0 (.p 1 (.q 2 (.q 3 (.b 4 .fin))))) [5] (by kernel_rfl) (by kernel_rfl) (fun _ _ _ _ _ h => h) ?_
    refine genT ?_
    intro W2 hW
    have hS := Hd.mk (show Below W1.heap.size W1 W2 by rw [hW]; exact below_drew (Below.refl _ _))
    have hz_ : W1.heap.size ≤ W2.heap.size := by rw [hW]; simp
    have hE : Below W1.heap.size W1 W2 := by rw [hW]; (repeat (first | with_reducible refine below_alloc ?_ _ | with_reducible refine below_drew ?_)); exact Below.refl _ _
    have hB := hB.th hE
    have b0 := b0.dn hE
    have b1 := b1.dn hE
    have b2 := b2.dn hE
    have HJ := HJ.ob hE
    clear hW hE
    have z2 := Hd.mk hz_; clear hz_
    iterate 4 ((first | refine mixT_q rfl ?_ | refine mixT_p rfl ?_); go_big_quiet_want; go_big_quiet_op; go_big_quiet_on; refine wpQuiet_nil ?_)
    refine mixT_b rfl ?_ (by rfl)
    go_wp2_with fail
    apply calls_gen; intro W3 hW
    have hz_ : W2.heap.size ≤ W3.heap.size := by rw [hW]; simp
    have hE : Below W2.heap.size W2 W3 := by rw [hW]; (repeat (first | with_reducible refine below_alloc ?_ _ | with_reducible refine below_drew ?_)); exact Below.refl _ _
    have hB := hB.th hE
    replace hS := Hd.mk (below_then hS.out hE)
    have b0 := b0.dn hE
    have b1 := b1.dn hE
    have b2 := b2.dn hE
    have HJ := HJ.ob hE
    clear hW hE
    have z3 := Hd.mk hz_; clear hz_
    refine (impl_placeOf j _ s _ (Ty.K_below _ (Below.refl _ _) (Ty.O_K _ HJ.out)) (by omega) (HT.out.below (below_then H0.out hB.out)) (HE.out.below (below_then H0.out hB.out))).mono ?_
    rintro e w4 ⟨rfl, hX⟩
    have b0 := b0.dn hX
    have b1 := b1.dn hX
    have b2 := b2.dn hX
    have HJ := HJ.ob hX
    have hB := hB.th hX
    replace hS := Hd.mk (below_then hS.out hX)
    have hz_ := hX.size
    clear hX
    have z4 := Hd.mk hz_; clear hz_
    rw [place_eq HOWN.out]
    obtain ⟨at_, hat⟩ : ∃ z, z = placeS j s := ⟨_, rfl⟩
    rw [← hat]
    have HAT := Hd.mk hat; clear hat
    go_wp2_with fail
    refine ⟨cls_below hS.out, ?_⟩
    refine mixT_fin ?_
    clear hS
    clear rv00 rv01 rv02 rv03 rv04 rv10 rv11 rv12 rv13 rv14 rv15 rv16 rv20 rv21 rv22 rv23 rv24
    clear v00 v01 v02 v03 v04 v0z v10 v11 v12 v13 v14 v15 v16 v1z v20 v21 v22 v23 v24 v2z
    obtain ⟨v00, v01, v02, v03, v04, v0z⟩ := blk5 b0.out
    obtain ⟨v10, v11, v12, v13, v14, v15, v16, v1z⟩ := blk7 b1.out
    obtain ⟨v20, v21, v22, v23, v24, v2z⟩ := blk5 b2.out
    refine tail_b rfl ?_ (by rfl)
    go_wp2_with fail
    refine mixQ_n ?_
    refine tail_nil ?_
    clear xw rxw xv rxv
    clear v00 v01 v02 v03 v04 v0z v10 v11 v12 v13 v14 v15 v16 v1z v20 v21 v22 v23 v24 v2z
    by_cases hat0 : at_ < 0
    ·obtain ⟨v00, v01, v02, v03, v04, v0z⟩ := blk5 b0.out
     obtain ⟨v10, v11, v12, v13, v14, v15, v16, v1z⟩ := blk7 b1.out
     obtain ⟨v20, v21, v22, v23, v24, v2z⟩ := blk5 b2.out
     go_wp2_with fail
     refine bodyPost_retW (v := .tuple #[.agg #[.int .i64 0, .int .i64 0, .string ⟨#[]⟩, .slice none 0 0, .slice none 0 0], .bool false]) (by simp [results, Tryz.results32, go_sem, v00, v01, v02, v03, v04, v0z, v10, v11, v12, v13, v14, v15, v16, v1z, v20, v21, v22, v23, v24, v2z]) rfl ?_
     intro W hW
     clear v00 v01 v02 v03 v04 v0z v10 v11 v12 v13 v14 v15 v16 v1z v20 v21 v22 v23 v24 v2z
     have eF : Fr w4 W (fun k => w.heap.size ≤ k) := by rw [hW]; (repeat (first | with_reducible refine Fr.setCell ?_ _ (fun _ => by simp <;> omega) _ | with_reducible refine Fr.alloc ?_ _ | with_reducible refine Fr.drew ?_)); exact Fr.refl _ _
     exact pat_none (pat_no HA1.out (by rw [← HAT.out]; exact hat0)) rfl ((Fr.of_below hB.out S).then_ eF (fun k h hl => by (try simp only at h); omega))
    ·obtain ⟨q, hq⟩ := Int.eq_ofNat_of_zero_le (Int.not_lt.1 hat0)
     subst hq
     have hql := place_lt HOWN.out s HAT.out.symm
     clear hat0
     have hq0 : (0 : Int) ≤ (q : Int) := by omega
     have hqn : ¬ ((q : Int) < 0) := by omega
     have HPV := Hd.mk (pat_drop (o := o) (s := s) (j := j) (by rw [← HKK.out]; rfl) HAT.out.symm)
     obtain ⟨v00, v01, v02, v03, v04, v0z⟩ := blk5 b0.out
     obtain ⟨v10, v11, v12, v13, v14, v15, v16, v1z⟩ := blk7 b1.out
     obtain ⟨v20, v21, v22, v23, v24, v2z⟩ := blk5 b2.out
     go_wp2_with fail
     clear v00 v01 v02 v03 v04 v0z v10 v11 v12 v13 v14 v15 v16 v1z v20 v21 v22 v23 v24 v2z
     apply calls_gen; intro W5 hW
     have hz_ : w4.heap.size ≤ W5.heap.size := by rw [hW]; simp
     have hE : Below w4.heap.size w4 W5 := by rw [hW]; (repeat (first | with_reducible refine below_alloc ?_ _ | with_reducible refine below_drew ?_)); exact Below.refl _ _
     have hB := hB.th hE
     have b0 := b0.dn hE
     have b1 := b1.dn hE
     have b2 := b2.dn hE
     have HJ := HJ.ob hE
     clear hW hE
     have z5 := Hd.mk hz_; clear hz_
     have z0_ := z0.out; have z1_ := z1.out; have z2_ := z2.out; have z3_ := z3.out; have z4_ := z4.out; have z5_ := z5.out
     refine (impl_dropPart (m := B) j _ q _ HJ.out hql (fun h5 => (own5 HOWN.out h5).2.2.2) (by have := HLN.out; omega)).mono ?_
     rintro e w9 ⟨cd, rfl, hO9, hX⟩
     obtain ⟨v3, v4, _, _, hcy, _, h3_, h4_, _⟩ := tJ_O.1 hO9
     obtain ⟨A7, c7, rfl, _, _⟩ := R_C h3_
     obtain ⟨A8, c8, rfl, _, _⟩ := R_C h4_
     clear h3_ h4_
     subst hcy
     have HO9 := Hd.mk hO9; clear hO9
     have b0 := Hd.mk (b0.out.fr hX (fun h => by have q_ := h.2; omega))
     have b1 := Hd.mk (b1.out.fr hX (fun h => by have q_ := h.2; omega))
     have b2 := Hd.mk (b2.out.fr hX (fun h => by have q_ := h.2; omega))
     have hsz := Hd.mk hX.size
     have hF0 := Hd.mk ((Fr.of_below hB.out S).then_ hX (fun k h _ => h.1)); clear hX
     obtain ⟨v00, v01, v02, v03, v04, v0z⟩ := blk5 b0.out
     obtain ⟨v10, v11, v12, v13, v14, v15, v16, v1z⟩ := blk7 b1.out
     obtain ⟨v20, v21, v22, v23, v24, v2z⟩ := blk5 b2.out
     go_wp2_with fail
     refine bodyPost_retW (v := .tuple #[.agg #[.int .i64 (dropV j q).kind, .int .i64 (dropV j q).n, .string (dropV j q).s, .slice A7 (dropV j q).list.length c7, .slice A8 (dropV j q).names.length c8], .bool true]) (by simp [results, Tryz.results32, go_sem, v00, v01, v02, v03, v04, v0z, v10, v11, v12, v13, v14, v15, v16, v1z, v20, v21, v22, v23, v24, v2z]) rfl ?_
     intro W hW
     clear v00 v01 v02 v03 v04 v0z v10 v11 v12 v13 v14 v15 v16 v1z v20 v21 v22 v23 v24 v2z
     have hsz_ := hsz.out
     have eF : Fr w9 W (fun k => k = w.heap.size + 2) := by rw [hW]; (repeat (first | with_reducible refine Fr.setCell ?_ _ (fun _ => by simp <;> omega) _ | with_reducible refine Fr.alloc ?_ _ | with_reducible refine Fr.drew ?_)); exact Fr.refl _ _
     exact pat_some (z := dropV j q) (cs := [Value.int IntKind.i64 (dropV j q).kind, .int .i64 (dropV j q).n, .string (dropV j q).s, .slice A7 (dropV j q).list.length c7, .slice A8 (dropV j q).names.length c8]) HPV.out rfl (Ty.O_mono _ (fun k hk => by rcases hk with q_ | q_; exact .inl (by omega); exact .inr q_.1) (Ty.O_fr HO9.out eF (fun k hk hl h => by (try simp only at h); rcases hk with q_ | q_; omega; (have q2_ := q_.2; omega)))) (hF0.out.then_ eF (fun k h hl => by (try simp only at h); omega))
   ·have hd1 : decide (kk = 1) = false := decide_eq_false hk1
    have hd2 : decide (kk = 2) = false := decide_eq_false hk2
    have HA1 := Hd.mk (show ((o.kind == 1) && ([] : List ByteArray).isEmpty) = false by rw [← HKK.out]; simpa using hk1)
    have HA2 := Hd.mk (show ((o.kind == 2) && ([] : List ByteArray).isEmpty) = false by rw [← HKK.out]; simpa using hk2)
    have HN := Hd.mk (show 1 = ([] : List ByteArray).length + 1 from rfl)
    clear hk
    rcases Nat.eq_or_lt_of_le hcap2 with hcc | hcc
    ·subst hcc
     go_enter Tryz.func32, Tryz.ntmps32
     go_wp2_with fail
     apply wp_gen; intro W1 hW
     have hz_ : w.heap.size + 3 ≤ W1.heap.size := by rw [hW]; simp
     have hE : Below w.heap.size w W1 := by rw [hW]; (repeat (first | with_reducible refine below_alloc ?_ _ | with_reducible refine below_drew ?_)); exact Below.refl _ _
     have hB := hB.th hE
     have b0 := Hd.mk (show Blk W1 (w.heap.size) #[.int .i64 j.kind, .int .i64 j.n, .string j.s, .slice A1 j.list.length c1, .slice A2 j.names.length c2] 32 by rw [hW]; first | exact (((Blk.new _ _ _).alloc _).alloc _) | (simpa using (((Blk.new _ _ _).alloc _).alloc _)))
     have b1 := Hd.mk (show Blk W1 (w.heap.size + 1) #[.int .i64 kk, .slice AW o.way.length cW, .int .i64 o.value.kind, .int .i64 o.value.n, .string o.value.s, .slice A3 o.value.list.length c3, .slice A4 o.value.names.length c4] 37 by rw [hW]; first | exact ((Blk.new1 _ _ _ _).alloc _) | (simpa using ((Blk.new1 _ _ _ _).alloc _)))
     have b2 := Hd.mk (show Blk W1 (w.heap.size + 1 + 1) #[.int .i64 0, .int .i64 0, .string ⟨#[]⟩, .slice none 0 0, .slice none 0 0] 32 by rw [hW]; first | exact (Blk.new2 _ _ _ _ _) | (simpa using (Blk.new2 _ _ _ _ _)))
     have HJ := HJ.ob hE
     clear hW hE
     have z1 := Hd.mk hz_; clear hz_
     have H0c := Hd.mk (below_then H0.out hB.out)
     have H0r := Hd.mk H0c.out
     have z0 := Hd.mk (show w.heap.size + 3 ≤ W1.heap.size by have z1_ := z1.out; omega)
     have xw := cell_below H0c.out hc0b
     have rxw := cell_regrown xw
     have xv := cell_below H0c.out hc0
     have rxv := cell_regrown xv
     obtain ⟨v00, v01, v02, v03, v04, v0z⟩ := blk5 b0.out
     obtain ⟨v10, v11, v12, v13, v14, v15, v16, v1z⟩ := blk7 b1.out
     obtain ⟨v20, v21, v22, v23, v24, v2z⟩ := blk5 b2.out
     obtain ⟨rv00, rv01, rv02, rv03, rv04, rv10, rv11⟩ := reg7 v00 v01 v02 v03 v04 v10 v11
     obtain ⟨rv12, rv13, rv14, rv15, rv16⟩ := reg5 v12 v13 v14 v15 v16
     obtain ⟨rv20, rv21, rv22, rv23, rv24⟩ := reg5 v20 v21 v22 v23 v24
     refine region_mixT (.q 0 (.p 1 (.q 2 (.q 3 (.b 4 .fin))))) [5] (by kernel_rfl) (by kernel_rfl) (fun _ _ _ _ _ h => h) ?_
     refine genT ?_
     intro W2 hW
     have hS := Hd.mk (show Below W1.heap.size W1 W2 by rw [hW]; exact below_drew (Below.refl _ _))
     have hz_ : W1.heap.size ≤ W2.heap.size := by rw [hW]; simp
     have hE : Below W1.heap.size W1 W2 := by rw [hW]; (repeat (first | with_reducible refine below_alloc ?_ _ | with_reducible refine below_drew ?_)); exact Below.refl _ _
     have hB := hB.th hE
     have b0 := b0.dn hE
     have b1 := b1.dn hE
     have b2 := b2.dn hE
     have HJ := HJ.ob hE
     clear hW hE
     have z2 := Hd.mk hz_; clear hz_
     iterate 4 ((first | refine mixT_q rfl ?_ | refine mixT_p rfl ?_); go_big_quiet_want; go_big_quiet_op; go_big_quiet_on; refine wpQuiet_nil ?_)
     refine mixT_b rfl ?_ (by rfl)
     go_wp2_with fail
     apply calls_gen; intro W3 hW
     have hz_ : W2.heap.size ≤ W3.heap.size := by rw [hW]; simp
     have hE : Below W2.heap.size W2 W3 := by rw [hW]; (repeat (first | with_reducible refine below_alloc ?_ _ | with_reducible refine below_drew ?_)); exact Below.refl _ _
     have hB := hB.th hE
     replace hS := Hd.mk (below_then hS.out hE)
     have b0 := b0.dn hE
     have b1 := b1.dn hE
     have b2 := b2.dn hE
     have HJ := HJ.ob hE
     clear hW hE
     have z3 := Hd.mk hz_; clear hz_
     refine (impl_placeOf j _ s _ (Ty.K_below _ (Below.refl _ _) (Ty.O_K _ HJ.out)) (by omega) (HT.out.below (below_then H0.out hB.out)) (HE.out.below (below_then H0.out hB.out))).mono ?_
     rintro e w4 ⟨rfl, hX⟩
     have b0 := b0.dn hX
     have b1 := b1.dn hX
     have b2 := b2.dn hX
     have HJ := HJ.ob hX
     have hB := hB.th hX
     replace hS := Hd.mk (below_then hS.out hX)
     have hz_ := hX.size
     clear hX
     have z4 := Hd.mk hz_; clear hz_
     rw [place_eq HOWN.out]
     obtain ⟨at_, hat⟩ : ∃ z, z = placeS j s := ⟨_, rfl⟩
     rw [← hat]
     have HAT := Hd.mk hat; clear hat
     go_wp2_with fail
     refine ⟨cls_below hS.out, ?_⟩
     refine mixT_fin ?_
     clear hS
     clear rv00 rv01 rv02 rv03 rv04 rv10 rv11 rv12 rv13 rv14 rv15 rv16 rv20 rv21 rv22 rv23 rv24
     clear v00 v01 v02 v03 v04 v0z v10 v11 v12 v13 v14 v15 v16 v1z v20 v21 v22 v23 v24 v2z
     obtain ⟨v00, v01, v02, v03, v04, v0z⟩ := blk5 b0.out
     obtain ⟨v10, v11, v12, v13, v14, v15, v16, v1z⟩ := blk7 b1.out
     obtain ⟨v20, v21, v22, v23, v24, v2z⟩ := blk5 b2.out
     refine tail_b rfl ?_ (by rfl)
     go_wp2_with fail
     refine mixQ_n ?_
     refine tail_nil ?_
     clear xw rxw xv rxv
     clear v00 v01 v02 v03 v04 v0z v10 v11 v12 v13 v14 v15 v16 v1z v20 v21 v22 v23 v24 v2z
     by_cases hat0 : at_ < 0
     ·obtain ⟨v00, v01, v02, v03, v04, v0z⟩ := blk5 b0.out
      obtain ⟨v10, v11, v12, v13, v14, v15, v16, v1z⟩ := blk7 b1.out
      obtain ⟨v20, v21, v22, v23, v24, v2z⟩ := blk5 b2.out
      go_wp2_with fail
      refine bodyPost_retW (v := .tuple #[.agg #[.int .i64 0, .int .i64 0, .string ⟨#[]⟩, .slice none 0 0, .slice none 0 0], .bool false]) (by simp [results, Tryz.results32, go_sem, v00, v01, v02, v03, v04, v0z, v10, v11, v12, v13, v14, v15, v16, v1z, v20, v21, v22, v23, v24, v2z]) rfl ?_
      intro W hW
      clear v00 v01 v02 v03 v04 v0z v10 v11 v12 v13 v14 v15 v16 v1z v20 v21 v22 v23 v24 v2z
      have eF : Fr w4 W (fun k => w.heap.size ≤ k) := by rw [hW]; (repeat (first | with_reducible refine Fr.setCell ?_ _ (fun _ => by simp <;> omega) _ | with_reducible refine Fr.alloc ?_ _ | with_reducible refine Fr.drew ?_)); exact Fr.refl _ _
      exact pat_none (pat_no HA1.out (by rw [← HAT.out]; exact hat0)) rfl ((Fr.of_below hB.out S).then_ eF (fun k h hl => by (try simp only at h); omega))
     ·obtain ⟨q, hq⟩ := Int.eq_ofNat_of_zero_le (Int.not_lt.1 hat0)
      subst hq
      have hql := place_lt HOWN.out s HAT.out.symm
      clear hat0
      have hq0 : (0 : Int) ≤ (q : Int) := by omega
      have hqn : ¬ ((q : Int) < 0) := by omega
      have HPV := Hd.mk (pat_in HA1.out HA2.out HAT.out.symm hql)
      obtain ⟨v3, v4, T3, T4, hcj, hsj2, hr3, hr4, hs3, hs4, hs34⟩ := tJ_O.1 HJ.out
      simp only [List.cons.injEq, and_true, true_and] at hcj
      obtain ⟨rfl, rfl⟩ := hcj
      have HL := Hd.mk hr3; have HN4 := Hd.mk hr4; have HT3 := Hd.mk hs3; have HT4 := Hd.mk hs4; have H34 := Hd.mk hs34
      clear hr3 hr4 hs3 hs4 hs34 HJ
      obtain ⟨gl, cl, he, hgl, _⟩ := R_form HL.out (by omega)
      injection he with e1 e2 e3
      subst e1; subst e3; clear e2
      obtain ⟨Si, Ae, Be, ae, be, hH, hOe, hSg, hgw, ⟨x0, x1, x2, x3, x4⟩, xz, hlc, hc63⟩ := R_elem5 HL.out hql
      obtain ⟨_, _, _, _, _, _, _, hgI, _, _⟩ := H_cells hH (show 0 < 5 by decide)
      have HSI := Hd.mk (H_in hH)
      have hH := Hd.mk hH; have hOe := Hd.mk hOe
      have hqi : (q : Int) < (j.list.length : Int) := by omega
      obtain ⟨v00, v01, v02, v03, v04, v0z⟩ := blk5 b0.out
      obtain ⟨v10, v11, v12, v13, v14, v15, v16, v1z⟩ := blk7 b1.out
      obtain ⟨v20, v21, v22, v23, v24, v2z⟩ := blk5 b2.out
      go_wp2_with fail
      clear v00 v01 v02 v03 v04 v0z v10 v11 v12 v13 v14 v15 v16 v1z v20 v21 v22 v23 v24 v2z
      have H0c := Hd.mk (below_then H0.out hB.out)
      have H0r := Hd.mk H0c.out
      have hB := Hd.mk (Fr.of_below hB.out S)
      have sb0 := Hd.mk b0.out
      have sb1 := Hd.mk b1.out
      have sb2 := Hd.mk b2.out
      refine region_mixC (fun x_ => Fr w4 x_ (fun k => Si k ∧ k < w.heap.size)) (.q 7 (.p 0 (.q 1 (.p 2 (.p 3 (.q 4 (.p 5 (.p 6 (.br 8 12 (.p 9 (.p 10 (.p 11 (.b 12 .fin)))) (.b 8 (.p 9 (.p 10 (.p 11 .fin))))))))))))) [13, 14] (by kernel_rfl) (Fr.drew (Fr.refl _ _)) (by kernel_rfl) (fun _ _ _ _ _ h => h) ?_
      refine genT ?_
      intro W5 hW
      have hS := Hd.mk (show Fr w4 W5 (fun k => Si k ∧ k < w.heap.size) by rw [hW]; exact Fr.drew (Fr.refl _ _))
      have hz_ : w4.heap.size ≤ W5.heap.size := by rw [hW]; simp
      have hE : Below w4.heap.size w4 W5 := by rw [hW]; (repeat (first | with_reducible refine below_alloc ?_ _ | with_reducible refine below_drew ?_)); exact Below.refl _ _
      have hB := Hd.mk (hB.out.trans (Fr.of_below hE _))
      have H0c := Hd.mk (below_then H0c.out hE)
      have b0 := b0.dn hE
      have b1 := b1.dn hE
      have b2 := b2.dn hE
      have HN4 := Hd.mk (R_below HN4.out hE)
      have hH := Hd.mk (H_belowZ hH.out hE)
      have hOe := hOe.ob hE
      clear hW hE
      have z5 := Hd.mk hz_; clear hz_
      refine mixT_see rfl (by rfl) (.agg #[.int .i64 kk, .slice AW o.way.length cW, .int .i64 o.value.kind, .int .i64 o.value.n, .string o.value.s, .slice A3 o.value.list.length c3, .slice A4 o.value.names.length c4]) (fun w_ hw_ => by have f0_ := (sb1.out.fr hw_ (fun h => by have q_ := h.2; omega)).cell 0 rfl; have f1_ := (sb1.out.fr hw_ (fun h => by have q_ := h.2; omega)).cell 1 rfl; have f2_ := (sb1.out.fr hw_ (fun h => by have q_ := h.2; omega)).cell 2 rfl; have f3_ := (sb1.out.fr hw_ (fun h => by have q_ := h.2; omega)).cell 3 rfl; have f4_ := (sb1.out.fr hw_ (fun h => by have q_ := h.2; omega)).cell 4 rfl; have f5_ := (sb1.out.fr hw_ (fun h => by have q_ := h.2; omega)).cell 5 rfl; have f6_ := (sb1.out.fr hw_ (fun h => by have q_ := h.2; omega)).cell 6 rfl; simp [execOp, go_sem, f0_, f1_, f2_, f3_, f4_, f5_, f6_]) hS.out ?_
      obtain ⟨v00, v01, v02, v03, v04, v0z⟩ := blk5 b0.out
      obtain ⟨v10, v11, v12, v13, v14, v15, v16, v1z⟩ := blk7 b1.out
      obtain ⟨v20, v21, v22, v23, v24, v2z⟩ := blk5 b2.out
      go_wp2_with fail
      refine mixQ_n ?_
      clear v00 v01 v02 v03 v04 v0z v10 v11 v12 v13 v14 v15 v16 v1z v20 v21 v22 v23 v24 v2z
      refine mixT_p rfl ?_
      go_big_quiet_want; go_big_quiet_op; go_big_quiet_on; refine wpQuiet_nil ?_
      refine mixT_see rfl (by rfl) (Value.slice (some ⟨gl, 0, none⟩) j.list.length c1) (fun w_ hw_ => by have f0_ := (sb0.out.fr hw_ (fun h => by have q_ := h.2; omega)).cell 3 rfl; simp [execOp, go_sem, f0_]) hS.out ?_
      obtain ⟨v00, v01, v02, v03, v04, v0z⟩ := blk5 b0.out
      obtain ⟨v10, v11, v12, v13, v14, v15, v16, v1z⟩ := blk7 b1.out
      obtain ⟨v20, v21, v22, v23, v24, v2z⟩ := blk5 b2.out
      go_wp2_with fail
      refine mixQ_n ?_
      clear v00 v01 v02 v03 v04 v0z v10 v11 v12 v13 v14 v15 v16 v1z v20 v21 v22 v23 v24 v2z
      iterate 2 (refine mixT_p rfl ?_; go_big_quiet_want; go_big_quiet_op; go_big_quiet_on; refine wpQuiet_nil ?_)
      refine mixT_see rfl (by rfl) (.agg #[.int .i64 j.list[q].kind, .int .i64 j.list[q].n, .string j.list[q].s, .slice Ae j.list[q].list.length ae, .slice Be j.list[q].names.length be]) (fun w_ hw_ => by have f0_ := (World.cell?_of_block (hw_.block gl hgw (fun h => absurd h.1 hgI))).trans x0; have f1_ := (World.cell?_of_block (hw_.block gl hgw (fun h => absurd h.1 hgI))).trans x1; have f2_ := (World.cell?_of_block (hw_.block gl hgw (fun h => absurd h.1 hgI))).trans x2; have f3_ := (World.cell?_of_block (hw_.block gl hgw (fun h => absurd h.1 hgI))).trans x3; have f4_ := (World.cell?_of_block (hw_.block gl hgw (fun h => absurd h.1 hgI))).trans x4; simp [execOp, go_sem, f0_, f1_, f2_, f3_, f4_]) hS.out ?_
      have y0_ := (World.cell?_of_block (hS.out.block gl hgw (fun h => absurd h.1 hgI))).trans x0; have y1_ := (World.cell?_of_block (hS.out.block gl hgw (fun h => absurd h.1 hgI))).trans x1; have y2_ := (World.cell?_of_block (hS.out.block gl hgw (fun h => absurd h.1 hgI))).trans x2; have y3_ := (World.cell?_of_block (hS.out.block gl hgw (fun h => absurd h.1 hgI))).trans x3; have y4_ := (World.cell?_of_block (hS.out.block gl hgw (fun h => absurd h.1 hgI))).trans x4
      obtain ⟨v00, v01, v02, v03, v04, v0z⟩ := blk5 b0.out
      obtain ⟨v10, v11, v12, v13, v14, v15, v16, v1z⟩ := blk7 b1.out
      obtain ⟨v20, v21, v22, v23, v24, v2z⟩ := blk5 b2.out
      go_wp2_with fail
      refine mixQ_n ?_
      clear y0_ y1_ y2_ y3_ y4_
      clear v00 v01 v02 v03 v04 v0z v10 v11 v12 v13 v14 v15 v16 v1z v20 v21 v22 v23 v24 v2z
      iterate 2 (refine mixT_p rfl ?_; go_big_quiet_want; go_big_quiet_op; go_big_quiet_on; refine wpQuiet_nil ?_)
      refine ⟨?_, ?_⟩
      ·refine stepM_of rfl ?_ (by rfl)
       go_wp2_with fail
       apply calls_gen; intro W6 hW
       have hz_ : W5.heap.size ≤ W6.heap.size := by rw [hW]; simp
       have hE : Below W5.heap.size W5 W6 := by rw [hW]; (repeat (first | with_reducible refine below_alloc ?_ _ | with_reducible refine below_drew ?_)); exact Below.refl _ _
       have hB := Hd.mk (hB.out.trans (Fr.of_below hE _))
       have H0c := Hd.mk (below_then H0c.out hE)
       replace hS := Hd.mk (hS.out.trans (Fr.of_below hE _))
       have b0 := b0.dn hE
       have b1 := b1.dn hE
       have b2 := b2.dn hE
       have HN4 := Hd.mk (R_below HN4.out hE)
       have hH := Hd.mk (H_belowZ hH.out hE)
       have hOe := hOe.ob hE
       clear hW hE
       have z6 := Hd.mk hz_; clear hz_
       have z0_ := z0.out; have z1_ := z1.out; have z2_ := z2.out; have z3_ := z3.out; have z4_ := z4.out; have z5_ := z5.out; have z6_ := z6.out
       obtain ⟨d2, _, hz2⟩ := sizeN_at HZD.out q hql
       refine (ih (fun k => Si k) j.list[q] _ _ _ _ w0 _ hOe.out H0c.out (fun k h => HS0.out k (HT3.out k (HSI.out k h)).1) (C_tail HW.out (.inl rfl)) (by have := HN.out; exact Nat.zero_le _) HKO.out HT.out HE.out ⟨d2, hz2⟩).mono ?_
       rintro e w9 hP
       obtain ⟨ra, rb, rs, RA, RB, rn, rc, rn2, rd, ok, rfl, hX, hR⟩ := pat_open hP
       have HR := Hd.mk hR; clear hR hP
       have b0 := Hd.mk (b0.out.fr hX (fun h => by have q_ := (HT3.out _ (HSI.out _ h)).2; omega))
       have b1 := Hd.mk (b1.out.fr hX (fun h => by have q_ := (HT3.out _ (HSI.out _ h)).2; omega))
       have b2 := Hd.mk (b2.out.fr hX (fun h => by have q_ := (HT3.out _ (HSI.out _ h)).2; omega))
       have HR := Hd.mk (pat_T HR.out)
       have HN4 := Hd.mk (R_fr HN4.out hX (fun k hk hl h => H34.out k (HSI.out k h) hk))
       have hH := Hd.mk (H_fr hH.out hX (fun k _ h _ => h))
       clear H0c hOe
       replace hS := Hd.mk (hS.out.then_ hX (fun k h hl => ⟨h, (HT3.out k (HSI.out k h)).2⟩))
       have hB := Hd.mk (hB.out.then_ hX (fun k h hl => (HT3.out k (HSI.out k h)).1))
       have hz_ := hX.size
       clear hX
       have z7 := Hd.mk hz_; clear hz_
       go_wp2_with fail
       refine ⟨hS.out, ?_⟩
       iterate 3 (refine mixT_p rfl ?_; go_big_quiet_want; go_big_quiet_op; go_big_quiet_on; refine wpQuiet_nil ?_)
       refine mixT_b rfl ?_ (by rfl)
       go_wp2_with fail
       refine ⟨hS.out.alloc _, ?_⟩
       refine genT ?_; intro W7 hW
       have hz_ : w9.heap.size + 1 ≤ W7.heap.size := by rw [hW]; simp
       have hE : Below w9.heap.size w9 W7 := by rw [hW]; (repeat (first | with_reducible refine below_alloc ?_ _ | with_reducible refine below_drew ?_)); exact Below.refl _ _
       have hB := Hd.mk (hB.out.trans (Fr.of_below hE _))
       replace hS := Hd.mk (hS.out.trans (Fr.of_below hE _))
       have b0 := b0.dn hE
       have b1 := b1.dn hE
       have b2 := b2.dn hE
       have b3 := Hd.mk (show Blk W7 (w9.heap.size) #[.int .i64 0, .int .i64 0, .string ⟨#[]⟩, .slice none 0 0, .slice none 0 0] 32 by rw [hW]; first | exact (Blk.new _ _ _) | (simpa using (Blk.new _ _ _)))
       have HN4 := Hd.mk (R_below HN4.out hE)
       have hH := Hd.mk (H_belowZ hH.out hE)
       have HR := Hd.mk (patT_below HR.out hE)
       clear hW hE
       have z8 := Hd.mk hz_; clear hz_
       refine mixT_fin ?_
       clear hS
       obtain ⟨v00, v01, v02, v03, v04, v0z⟩ := blk5 b0.out
       obtain ⟨v10, v11, v12, v13, v14, v15, v16, v1z⟩ := blk7 b1.out
       obtain ⟨v20, v21, v22, v23, v24, v2z⟩ := blk5 b2.out
       obtain ⟨v30, v31, v32, v33, v34, v3z⟩ := blk5 b3.out
       refine tail_b rfl ?_ (by rfl)
       go_wp2_with fail
       refine mixQ_n ?_
       refine tail_b rfl ?_ (by rfl)
       go_wp2_with fail
       refine mixQ_n ?_
       refine tail_nil ?_
       refine exit_gen ?_; intro Wb hW
       clear v00 v01 v02 v03 v04 v0z v10 v11 v12 v13 v14 v15 v16 v1z v20 v21 v22 v23 v24 v2z v30 v31 v32 v33 v34 v3z
       have eF : Fr W7 Wb (fun k => k = w9.heap.size) := by rw [hW]; exact Fr.set5 _ _ _ _ _ _ _ _ _ _ _ _
       have z0_ := z0.out; have z1_ := z1.out; have z2_ := z2.out; have z3_ := z3.out; have z4_ := z4.out; have z5_ := z5.out; have z6_ := z6.out; have z7_ := z7.out; have z8_ := z8.out
       have b0 := Hd.mk (b0.out.fr eF (fun h => by (try simp only at h); omega))
       have b1 := Hd.mk (b1.out.fr eF (fun h => by (try simp only at h); omega))
       have b2 := Hd.mk (b2.out.fr eF (fun h => by (try simp only at h); omega))
       have b3 := Hd.mk (show Blk Wb (w9.heap.size) #[.int .i64 ra, .int .i64 rb, .string rs, .slice RA rn rc, .slice RB rn2 rd] 32 by rw [hW]; exact Blk.all b3.out [Value.int IntKind.i64 ra, .int .i64 rb, .string rs, .slice RA rn rc, .slice RB rn2 rd] rfl)
       have HN4 := Hd.mk (R_fr HN4.out eF (fun k hk hl h => by have q_ := (HT4.out k hk).2; (try simp only at h); omega))
       have hH := Hd.mk (H_fr hH.out eF (fun k hs h _ => by have q_ := (HT3.out k hs).2; (try simp only at h); omega))
       have HR := Hd.mk (patT_fr HR.out eF (fun k hk hl h => by (try simp only at h); have q2_ := hk.2; rcases hk.1 with q_ | q_; omega; (have q3_ := (HT3.out k (HSI.out k q_)).2; omega)))
       have hB := Hd.mk (hB.out.then_ eF (fun k h hl => by (try simp only at h); omega))
       have hzb := Hd.mk eF.size
       clear hW eF
       rcases HR.out with ⟨rfl, zz, hz1, hz2⟩ | ⟨rfl, hz1⟩
       ·have hz2 := Hd.mk hz2; have hz1 := Hd.mk hz1
        obtain ⟨g2, cap2, he2, _, _, _, hg2w, hgI2, hcell, hfz⟩ := H_cells hH.out (show 0 < 5 by decide)
        injection he2 with e1 _ e3
        subst e3
        injection e1 with e1
        injection e1 with e1 _ _
        subst e1
        have y0 := hcell 0 _ rfl; have y1 := hcell 1 _ rfl; have y2 := hcell 2 _ rfl; have y3 := hcell 3 _ rfl; have y4 := hcell 4 _ rfl
        simp only [tJ_sz, Nat.add_zero] at y0 y1 y2 y3 y4
        clear hcell x0 x1 x2 x3 x4 xz
        have hglw : gl < w.heap.size := (HT3.out gl hSg).2
        have hgl9 : gl < w9.heap.size := by have z0_ := z0.out; have z1_ := z1.out; have z2_ := z2.out; have z3_ := z3.out; have z4_ := z4.out; have z5_ := z5.out; have z6_ := z6.out; have z7_ := z7.out; have z8_ := z8.out; have hzb_ := hzb.out; omega
        obtain ⟨v00, v01, v02, v03, v04, v0z⟩ := blk5 b0.out
        obtain ⟨v10, v11, v12, v13, v14, v15, v16, v1z⟩ := blk7 b1.out
        obtain ⟨v20, v21, v22, v23, v24, v2z⟩ := blk5 b2.out
        obtain ⟨v30, v31, v32, v33, v34, v3z⟩ := blk5 b3.out
        go_wp2_with fail
        refine bodyPost_retW (v := .tuple #[.agg #[.int .i64 j.kind, .int .i64 j.n, .string j.s, .slice (some ⟨gl, 0, none⟩) j.list.length c1, .slice A2 j.names.length c2], .bool true]) (by simp [results, Tryz.results32, go_sem, v00, v01, v02, v03, v04, v0z, v10, v11, v12, v13, v14, v15, v16, v1z, v20, v21, v22, v23, v24, v2z, v30, v31, v32, v33, v34, v3z]) rfl ?_
        intro W hW
        clear v00 v01 v02 v03 v04 v0z v10 v11 v12 v13 v14 v15 v16 v1z v20 v21 v22 v23 v24 v2z v30 v31 v32 v33 v34 v3z
        have z0_ := z0.out; have z1_ := z1.out; have z2_ := z2.out; have z3_ := z3.out; have z4_ := z4.out; have z5_ := z5.out; have z6_ := z6.out; have z7_ := z7.out; have z8_ := z8.out; have hzb_ := hzb.out
        have hR1 := H_set5 hH.out rfl (z := zz) (S' := fun k => T3 k ∨ W6.heap.size ≤ k) hz2.out (fun h => by rcases h.1 with q_ | q_; omega; exact hgI q_) (fun k h => by rcases h.1 with q_ | q_; exact .inr (fun h3 => by have q3_ := (HT3.out k h3).2; omega); exact .inl q_) (fun k h => .inl h) (fun k h => by rcases h.1 with q_ | q_; exact .inr q_; exact .inl (HSI.out k q_))
        have hF1 := Fr.set5 Wb gl (q * 5) (q * 5 + 1) (q * 5 + 2) (q * 5 + 3) (q * 5 + 4) (Value.int IntKind.i64 ra) (Value.int IntKind.i64 rb) (Value.string rs) (Value.slice RA rn rc) (Value.slice RB rn2 rd)
        obtain ⟨Wa, hWa⟩ : ∃ z, z = (((((Wb.setCell ⟨gl, q * 5, none⟩ (Value.int IntKind.i64 ra)).setCell ⟨gl, q * 5 + 1, none⟩ (Value.int IntKind.i64 rb)).setCell ⟨gl, q * 5 + 2, none⟩ (Value.string rs)).setCell ⟨gl, q * 5 + 3, none⟩ (Value.slice RA rn rc)).setCell ⟨gl, q * 5 + 4, none⟩ (Value.slice RB rn2 rd)) := ⟨_, rfl⟩
        rw [← hWa] at hR1 hF1
        have eF : Fr Wa W (fun k => k = w.heap.size + 2) := by rw [hW, hWa]; exact Fr.set5 _ _ _ _ _ _ _ _ _ _ _ _
        clear hW hWa
        exact pat_some (z := setV j q zz) (cs := [Value.int IntKind.i64 j.kind, .int .i64 j.n, .string j.s, .slice (some ⟨gl, 0, none⟩) j.list.length c1, .slice A2 j.names.length c2]) (by rw [HPV.out, hz1.out]; rfl) rfl (tJ_O.2 ⟨_, _, fun k => T3 k ∨ W6.heap.size ≤ k, T4, rfl, hsj, R_fr hR1 eF (fun k hk hl h => by (try simp only at h); rcases hk with q_ | q_; (have q2_ := (HT3.out k q_).2; omega); omega), R_fr (R_fr HN4.out hF1 (fun k hk hl h => by have h : k = gl := h; subst h; exact H34.out _ hSg hk)) eF (fun k hk hl h => by have q_ := (HT4.out k hk).2; (try simp only at h); omega), fun k h => by
         rcases h with q_ | q_
         ·exact .inr (HT3.out k q_).1
         ·exact .inl (by omega), fun k h => .inr (HT4.out k h).1, fun k h h2 => by
         rcases h with q_ | q_
         ·exact H34.out k q_ h2
         ·have q2_ := (HT4.out k h2).2
          omega⟩) ((hB.out.then_ hF1 (fun k h _ => by have h : k = gl := h; subst h; exact (HT3.out _ hSg).1)).then_ eF (fun k h hl => by (try simp only at h); omega))
       ·have hz1 := Hd.mk hz1
        obtain ⟨v00, v01, v02, v03, v04, v0z⟩ := blk5 b0.out
        obtain ⟨v10, v11, v12, v13, v14, v15, v16, v1z⟩ := blk7 b1.out
        obtain ⟨v20, v21, v22, v23, v24, v2z⟩ := blk5 b2.out
        obtain ⟨v30, v31, v32, v33, v34, v3z⟩ := blk5 b3.out
        go_wp2_with fail
        refine bodyPost_retW (v := .tuple #[.agg #[.int .i64 0, .int .i64 0, .string ⟨#[]⟩, .slice none 0 0, .slice none 0 0], .bool false]) (by simp [results, Tryz.results32, go_sem, v00, v01, v02, v03, v04, v0z, v10, v11, v12, v13, v14, v15, v16, v1z, v20, v21, v22, v23, v24, v2z, v30, v31, v32, v33, v34, v3z]) rfl ?_
        intro W hW
        clear v00 v01 v02 v03 v04 v0z v10 v11 v12 v13 v14 v15 v16 v1z v20 v21 v22 v23 v24 v2z v30 v31 v32 v33 v34 v3z
        have z0_ := z0.out; have z1_ := z1.out; have z2_ := z2.out; have z3_ := z3.out; have z4_ := z4.out; have z5_ := z5.out; have z6_ := z6.out; have z7_ := z7.out; have z8_ := z8.out; have hzb_ := hzb.out
        have eF : Fr Wb W (fun k => w.heap.size ≤ k) := by rw [hW]; (repeat (first | with_reducible refine Fr.setCell ?_ _ (fun _ => by simp <;> omega) _ | with_reducible refine Fr.alloc ?_ _ | with_reducible refine Fr.drew ?_)); exact Fr.refl _ _
        exact pat_none (by rw [HPV.out, hz1.out]; rfl) rfl (hB.out.then_ eF (fun k h hl => by (try simp only at h); omega))
      ·refine stepM_of rfl ?_ (by rfl)
       go_wp2_with fail
       refine ⟨hS.out.alloc _, ?_⟩
       refine genT ?_; intro W6 hW
       have hz_ : W5.heap.size + 1 ≤ W6.heap.size := by rw [hW]; simp
       have hE : Below W5.heap.size W5 W6 := by rw [hW]; (repeat (first | with_reducible refine below_alloc ?_ _ | with_reducible refine below_drew ?_)); exact Below.refl _ _
       have hB := Hd.mk (hB.out.trans (Fr.of_below hE _))
       have H0c := Hd.mk (below_then H0c.out hE)
       replace hS := Hd.mk (hS.out.trans (Fr.of_below hE _))
       have b0 := b0.dn hE
       have b1 := b1.dn hE
       have b2 := b2.dn hE
       have b3 := Hd.mk (show Blk W6 (W5.heap.size) #[.int .i64 0, .int .i64 0, .string ⟨#[]⟩, .slice none 0 0, .slice none 0 0] 32 by rw [hW]; first | exact (Blk.new _ _ _) | (simpa using (Blk.new _ _ _)))
       have HN4 := Hd.mk (R_below HN4.out hE)
       have hH := Hd.mk (H_belowZ hH.out hE)
       have hOe := hOe.ob hE
       clear hW hE
       have z6 := Hd.mk hz_; clear hz_
       refine mixT_b rfl ?_ (by rfl)
       go_wp2_with fail
       apply calls_gen; intro W7 hW
       have hz_ : W6.heap.size ≤ W7.heap.size := by rw [hW]; simp
       have hE : Below W6.heap.size W6 W7 := by rw [hW]; (repeat (first | with_reducible refine below_alloc ?_ _ | with_reducible refine below_drew ?_)); exact Below.refl _ _
       have hB := Hd.mk (hB.out.trans (Fr.of_below hE _))
       have H0c := Hd.mk (below_then H0c.out hE)
       replace hS := Hd.mk (hS.out.trans (Fr.of_below hE _))
       have b0 := b0.dn hE
       have b1 := b1.dn hE
       have b2 := b2.dn hE
       have b3 := b3.dn hE
       have HN4 := Hd.mk (R_below HN4.out hE)
       have hH := Hd.mk (H_belowZ hH.out hE)
       have hOe := hOe.ob hE
       clear hW hE
       have z7 := Hd.mk hz_; clear hz_
       have z0_ := z0.out; have z1_ := z1.out; have z2_ := z2.out; have z3_ := z3.out; have z4_ := z4.out; have z5_ := z5.out; have z6_ := z6.out; have z7_ := z7.out
       obtain ⟨d2, _, hz2⟩ := sizeN_at HZD.out q hql
       refine (ih (fun k => Si k) j.list[q] _ _ _ _ w0 _ hOe.out H0c.out (fun k h => HS0.out k (HT3.out k (HSI.out k h)).1) (C_tail HW.out (.inl rfl)) (by have := HN.out; exact Nat.zero_le _) HKO.out HT.out HE.out ⟨d2, hz2⟩).mono ?_
       rintro e w9 hP
       obtain ⟨ra, rb, rs, RA, RB, rn, rc, rn2, rd, ok, rfl, hX, hR⟩ := pat_open hP
       have HR := Hd.mk hR; clear hR hP
       have b0 := Hd.mk (b0.out.fr hX (fun h => by have q_ := (HT3.out _ (HSI.out _ h)).2; omega))
       have b1 := Hd.mk (b1.out.fr hX (fun h => by have q_ := (HT3.out _ (HSI.out _ h)).2; omega))
       have b2 := Hd.mk (b2.out.fr hX (fun h => by have q_ := (HT3.out _ (HSI.out _ h)).2; omega))
       have b3 := Hd.mk (b3.out.fr hX (fun h => by have q_ := (HT3.out _ (HSI.out _ h)).2; omega))
       have HR := Hd.mk (pat_T HR.out)
       have HN4 := Hd.mk (R_fr HN4.out hX (fun k hk hl h => H34.out k (HSI.out k h) hk))
       have hH := Hd.mk (H_fr hH.out hX (fun k _ h _ => h))
       clear H0c hOe
       replace hS := Hd.mk (hS.out.then_ hX (fun k h hl => ⟨h, (HT3.out k (HSI.out k h)).2⟩))
       have hB := Hd.mk (hB.out.then_ hX (fun k h hl => (HT3.out k (HSI.out k h)).1))
       have hz_ := hX.size
       clear hX
       have z8 := Hd.mk hz_; clear hz_
       go_wp2_with fail
       refine ⟨hS.out, ?_⟩
       iterate 3 (refine mixT_p rfl ?_; go_big_quiet_want; go_big_quiet_op; go_big_quiet_on; refine wpQuiet_nil ?_)
       refine mixT_fin ?_
       clear hS
       obtain ⟨v00, v01, v02, v03, v04, v0z⟩ := blk5 b0.out
       obtain ⟨v10, v11, v12, v13, v14, v15, v16, v1z⟩ := blk7 b1.out
       obtain ⟨v20, v21, v22, v23, v24, v2z⟩ := blk5 b2.out
       obtain ⟨v30, v31, v32, v33, v34, v3z⟩ := blk5 b3.out
       refine tail_b rfl ?_ (by rfl)
       go_wp2_with fail
       refine mixQ_n ?_
       refine tail_b rfl ?_ (by rfl)
       go_wp2_with fail
       refine mixQ_n ?_
       refine tail_nil ?_
       refine exit_gen ?_; intro Wb hW
       clear v00 v01 v02 v03 v04 v0z v10 v11 v12 v13 v14 v15 v16 v1z v20 v21 v22 v23 v24 v2z v30 v31 v32 v33 v34 v3z
       have eF : Fr w9 Wb (fun k => k = W5.heap.size) := by rw [hW]; exact Fr.set5 _ _ _ _ _ _ _ _ _ _ _ _
       have z0_ := z0.out; have z1_ := z1.out; have z2_ := z2.out; have z3_ := z3.out; have z4_ := z4.out; have z5_ := z5.out; have z6_ := z6.out; have z7_ := z7.out; have z8_ := z8.out
       have b0 := Hd.mk (b0.out.fr eF (fun h => by (try simp only at h); omega))
       have b1 := Hd.mk (b1.out.fr eF (fun h => by (try simp only at h); omega))
       have b2 := Hd.mk (b2.out.fr eF (fun h => by (try simp only at h); omega))
       have b3 := Hd.mk (show Blk Wb (W5.heap.size) #[.int .i64 ra, .int .i64 rb, .string rs, .slice RA rn rc, .slice RB rn2 rd] 32 by rw [hW]; exact Blk.all b3.out [Value.int IntKind.i64 ra, .int .i64 rb, .string rs, .slice RA rn rc, .slice RB rn2 rd] rfl)
       have HN4 := Hd.mk (R_fr HN4.out eF (fun k hk hl h => by have q_ := (HT4.out k hk).2; (try simp only at h); omega))
       have hH := Hd.mk (H_fr hH.out eF (fun k hs h _ => by have q_ := (HT3.out k hs).2; (try simp only at h); omega))
       have HR := Hd.mk (patT_fr HR.out eF (fun k hk hl h => by (try simp only at h); have q2_ := hk.2; rcases hk.1 with q_ | q_; omega; (have q3_ := (HT3.out k (HSI.out k q_)).2; omega)))
       have hB := Hd.mk (hB.out.then_ eF (fun k h hl => by (try simp only at h); omega))
       have hzb := Hd.mk eF.size
       clear hW eF
       rcases HR.out with ⟨rfl, zz, hz1, hz2⟩ | ⟨rfl, hz1⟩
       ·have hz2 := Hd.mk hz2; have hz1 := Hd.mk hz1
        obtain ⟨g2, cap2, he2, _, _, _, hg2w, hgI2, hcell, hfz⟩ := H_cells hH.out (show 0 < 5 by decide)
        injection he2 with e1 _ e3
        subst e3
        injection e1 with e1
        injection e1 with e1 _ _
        subst e1
        have y0 := hcell 0 _ rfl; have y1 := hcell 1 _ rfl; have y2 := hcell 2 _ rfl; have y3 := hcell 3 _ rfl; have y4 := hcell 4 _ rfl
        simp only [tJ_sz, Nat.add_zero] at y0 y1 y2 y3 y4
        clear hcell x0 x1 x2 x3 x4 xz
        have hglw : gl < w.heap.size := (HT3.out gl hSg).2
        have hgl9 : gl < W5.heap.size := by have z0_ := z0.out; have z1_ := z1.out; have z2_ := z2.out; have z3_ := z3.out; have z4_ := z4.out; have z5_ := z5.out; have z6_ := z6.out; have z7_ := z7.out; have z8_ := z8.out; have hzb_ := hzb.out; omega
        obtain ⟨v00, v01, v02, v03, v04, v0z⟩ := blk5 b0.out
        obtain ⟨v10, v11, v12, v13, v14, v15, v16, v1z⟩ := blk7 b1.out
        obtain ⟨v20, v21, v22, v23, v24, v2z⟩ := blk5 b2.out
        obtain ⟨v30, v31, v32, v33, v34, v3z⟩ := blk5 b3.out
        go_wp2_with fail
        refine bodyPost_retW (v := .tuple #[.agg #[.int .i64 j.kind, .int .i64 j.n, .string j.s, .slice (some ⟨gl, 0, none⟩) j.list.length c1, .slice A2 j.names.length c2], .bool true]) (by simp [results, Tryz.results32, go_sem, v00, v01, v02, v03, v04, v0z, v10, v11, v12, v13, v14, v15, v16, v1z, v20, v21, v22, v23, v24, v2z, v30, v31, v32, v33, v34, v3z]) rfl ?_
        intro W hW
        clear v00 v01 v02 v03 v04 v0z v10 v11 v12 v13 v14 v15 v16 v1z v20 v21 v22 v23 v24 v2z v30 v31 v32 v33 v34 v3z
        have z0_ := z0.out; have z1_ := z1.out; have z2_ := z2.out; have z3_ := z3.out; have z4_ := z4.out; have z5_ := z5.out; have z6_ := z6.out; have z7_ := z7.out; have z8_ := z8.out; have hzb_ := hzb.out
        have hR1 := H_set5 hH.out rfl (z := zz) (S' := fun k => T3 k ∨ W7.heap.size ≤ k) hz2.out (fun h => by rcases h.1 with q_ | q_; omega; exact hgI q_) (fun k h => by rcases h.1 with q_ | q_; exact .inr (fun h3 => by have q3_ := (HT3.out k h3).2; omega); exact .inl q_) (fun k h => .inl h) (fun k h => by rcases h.1 with q_ | q_; exact .inr q_; exact .inl (HSI.out k q_))
        have hF1 := Fr.set5 Wb gl (q * 5) (q * 5 + 1) (q * 5 + 2) (q * 5 + 3) (q * 5 + 4) (Value.int IntKind.i64 ra) (Value.int IntKind.i64 rb) (Value.string rs) (Value.slice RA rn rc) (Value.slice RB rn2 rd)
        obtain ⟨Wa, hWa⟩ : ∃ z, z = (((((Wb.setCell ⟨gl, q * 5, none⟩ (Value.int IntKind.i64 ra)).setCell ⟨gl, q * 5 + 1, none⟩ (Value.int IntKind.i64 rb)).setCell ⟨gl, q * 5 + 2, none⟩ (Value.string rs)).setCell ⟨gl, q * 5 + 3, none⟩ (Value.slice RA rn rc)).setCell ⟨gl, q * 5 + 4, none⟩ (Value.slice RB rn2 rd)) := ⟨_, rfl⟩
        rw [← hWa] at hR1 hF1
        have eF : Fr Wa W (fun k => k = w.heap.size + 2) := by rw [hW, hWa]; exact Fr.set5 _ _ _ _ _ _ _ _ _ _ _ _
        clear hW hWa
        exact pat_some (z := setV j q zz) (cs := [Value.int IntKind.i64 j.kind, .int .i64 j.n, .string j.s, .slice (some ⟨gl, 0, none⟩) j.list.length c1, .slice A2 j.names.length c2]) (by rw [HPV.out, hz1.out]; rfl) rfl (tJ_O.2 ⟨_, _, fun k => T3 k ∨ W7.heap.size ≤ k, T4, rfl, hsj, R_fr hR1 eF (fun k hk hl h => by (try simp only at h); rcases hk with q_ | q_; (have q2_ := (HT3.out k q_).2; omega); omega), R_fr (R_fr HN4.out hF1 (fun k hk hl h => by have h : k = gl := h; subst h; exact H34.out _ hSg hk)) eF (fun k hk hl h => by have q_ := (HT4.out k hk).2; (try simp only at h); omega), fun k h => by
         rcases h with q_ | q_
         ·exact .inr (HT3.out k q_).1
         ·exact .inl (by omega), fun k h => .inr (HT4.out k h).1, fun k h h2 => by
         rcases h with q_ | q_
         ·exact H34.out k q_ h2
         ·have q2_ := (HT4.out k h2).2
          omega⟩) ((hB.out.then_ hF1 (fun k h _ => by have h : k = gl := h; subst h; exact (HT3.out _ hSg).1)).then_ eF (fun k h hl => by (try simp only at h); omega))
       ·have hz1 := Hd.mk hz1
        obtain ⟨v00, v01, v02, v03, v04, v0z⟩ := blk5 b0.out
        obtain ⟨v10, v11, v12, v13, v14, v15, v16, v1z⟩ := blk7 b1.out
        obtain ⟨v20, v21, v22, v23, v24, v2z⟩ := blk5 b2.out
        obtain ⟨v30, v31, v32, v33, v34, v3z⟩ := blk5 b3.out
        go_wp2_with fail
        refine bodyPost_retW (v := .tuple #[.agg #[.int .i64 0, .int .i64 0, .string ⟨#[]⟩, .slice none 0 0, .slice none 0 0], .bool false]) (by simp [results, Tryz.results32, go_sem, v00, v01, v02, v03, v04, v0z, v10, v11, v12, v13, v14, v15, v16, v1z, v20, v21, v22, v23, v24, v2z, v30, v31, v32, v33, v34, v3z]) rfl ?_
        intro W hW
        clear v00 v01 v02 v03 v04 v0z v10 v11 v12 v13 v14 v15 v16 v1z v20 v21 v22 v23 v24 v2z v30 v31 v32 v33 v34 v3z
        have z0_ := z0.out; have z1_ := z1.out; have z2_ := z2.out; have z3_ := z3.out; have z4_ := z4.out; have z5_ := z5.out; have z6_ := z6.out; have z7_ := z7.out; have z8_ := z8.out; have hzb_ := hzb.out
        have eF : Fr Wb W (fun k => w.heap.size ≤ k) := by rw [hW]; (repeat (first | with_reducible refine Fr.setCell ?_ _ (fun _ => by simp <;> omega) _ | with_reducible refine Fr.alloc ?_ _ | with_reducible refine Fr.drew ?_)); exact Fr.refl _ _
        exact pat_none (by rw [HPV.out, hz1.out]; rfl) rfl (hB.out.then_ eF (fun k h hl => by (try simp only at h); omega))
    ·have hcc2 : ¬ (c = 1) := by omega
     go_enter Tryz.func32, Tryz.ntmps32
     go_wp2_with fail
     apply wp_gen; intro W1 hW
     have hz_ : w.heap.size + 3 ≤ W1.heap.size := by rw [hW]; simp
     have hE : Below w.heap.size w W1 := by rw [hW]; (repeat (first | with_reducible refine below_alloc ?_ _ | with_reducible refine below_drew ?_)); exact Below.refl _ _
     have hB := hB.th hE
     have b0 := Hd.mk (show Blk W1 (w.heap.size) #[.int .i64 j.kind, .int .i64 j.n, .string j.s, .slice A1 j.list.length c1, .slice A2 j.names.length c2] 32 by rw [hW]; first | exact (((Blk.new _ _ _).alloc _).alloc _) | (simpa using (((Blk.new _ _ _).alloc _).alloc _)))
     have b1 := Hd.mk (show Blk W1 (w.heap.size + 1) #[.int .i64 kk, .slice AW o.way.length cW, .int .i64 o.value.kind, .int .i64 o.value.n, .string o.value.s, .slice A3 o.value.list.length c3, .slice A4 o.value.names.length c4] 37 by rw [hW]; first | exact ((Blk.new1 _ _ _ _).alloc _) | (simpa using ((Blk.new1 _ _ _ _).alloc _)))
     have b2 := Hd.mk (show Blk W1 (w.heap.size + 1 + 1) #[.int .i64 0, .int .i64 0, .string ⟨#[]⟩, .slice none 0 0, .slice none 0 0] 32 by rw [hW]; first | exact (Blk.new2 _ _ _ _ _) | (simpa using (Blk.new2 _ _ _ _ _)))
     have HJ := HJ.ob hE
     clear hW hE
     have z1 := Hd.mk hz_; clear hz_
     have H0c := Hd.mk (below_then H0.out hB.out)
     have H0r := Hd.mk H0c.out
     have z0 := Hd.mk (show w.heap.size + 3 ≤ W1.heap.size by have z1_ := z1.out; omega)
     have xw := cell_below H0c.out hc0b
     have rxw := cell_regrown xw
     have xv := cell_below H0c.out hc0
     have rxv := cell_regrown xv
     obtain ⟨v00, v01, v02, v03, v04, v0z⟩ := blk5 b0.out
     obtain ⟨v10, v11, v12, v13, v14, v15, v16, v1z⟩ := blk7 b1.out
     obtain ⟨v20, v21, v22, v23, v24, v2z⟩ := blk5 b2.out
     obtain ⟨rv00, rv01, rv02, rv03, rv04, rv10, rv11⟩ := reg7 v00 v01 v02 v03 v04 v10 v11
     obtain ⟨rv12, rv13, rv14, rv15, rv16⟩ := reg5 v12 v13 v14 v15 v16
     obtain ⟨rv20, rv21, rv22, rv23, rv24⟩ := reg5 v20 v21 v22 v23 v24
     refine region_mixT (.q 0 (.p 1 (.q 2 (.q 3 (.b 4 .fin))))) [5] (by kernel_rfl) (by kernel_rfl) (fun _ _ _ _ _ h => h) ?_
     refine genT ?_
     intro W2 hW
     have hS := Hd.mk (show Below W1.heap.size W1 W2 by rw [hW]; exact below_drew (Below.refl _ _))
     have hz_ : W1.heap.size ≤ W2.heap.size := by rw [hW]; simp
     have hE : Below W1.heap.size W1 W2 := by rw [hW]; (repeat (first | with_reducible refine below_alloc ?_ _ | with_reducible refine below_drew ?_)); exact Below.refl _ _
     have hB := hB.th hE
     have b0 := b0.dn hE
     have b1 := b1.dn hE
     have b2 := b2.dn hE
     have HJ := HJ.ob hE
     clear hW hE
     have z2 := Hd.mk hz_; clear hz_
     iterate 4 ((first | refine mixT_q rfl ?_ | refine mixT_p rfl ?_); go_big_quiet_want; go_big_quiet_op; go_big_quiet_on; refine wpQuiet_nil ?_)
     refine mixT_b rfl ?_ (by rfl)
     go_wp2_with fail
     apply calls_gen; intro W3 hW
     have hz_ : W2.heap.size ≤ W3.heap.size := by rw [hW]; simp
     have hE : Below W2.heap.size W2 W3 := by rw [hW]; (repeat (first | with_reducible refine below_alloc ?_ _ | with_reducible refine below_drew ?_)); exact Below.refl _ _
     have hB := hB.th hE
     replace hS := Hd.mk (below_then hS.out hE)
     have b0 := b0.dn hE
     have b1 := b1.dn hE
     have b2 := b2.dn hE
     have HJ := HJ.ob hE
     clear hW hE
     have z3 := Hd.mk hz_; clear hz_
     refine (impl_placeOf j _ s _ (Ty.K_below _ (Below.refl _ _) (Ty.O_K _ HJ.out)) (by omega) (HT.out.below (below_then H0.out hB.out)) (HE.out.below (below_then H0.out hB.out))).mono ?_
     rintro e w4 ⟨rfl, hX⟩
     have b0 := b0.dn hX
     have b1 := b1.dn hX
     have b2 := b2.dn hX
     have HJ := HJ.ob hX
     have hB := hB.th hX
     replace hS := Hd.mk (below_then hS.out hX)
     have hz_ := hX.size
     clear hX
     have z4 := Hd.mk hz_; clear hz_
     rw [place_eq HOWN.out]
     obtain ⟨at_, hat⟩ : ∃ z, z = placeS j s := ⟨_, rfl⟩
     rw [← hat]
     have HAT := Hd.mk hat; clear hat
     go_wp2_with fail
     refine ⟨cls_below hS.out, ?_⟩
     refine mixT_fin ?_
     clear hS
     clear rv00 rv01 rv02 rv03 rv04 rv10 rv11 rv12 rv13 rv14 rv15 rv16 rv20 rv21 rv22 rv23 rv24
     clear v00 v01 v02 v03 v04 v0z v10 v11 v12 v13 v14 v15 v16 v1z v20 v21 v22 v23 v24 v2z
     obtain ⟨v00, v01, v02, v03, v04, v0z⟩ := blk5 b0.out
     obtain ⟨v10, v11, v12, v13, v14, v15, v16, v1z⟩ := blk7 b1.out
     obtain ⟨v20, v21, v22, v23, v24, v2z⟩ := blk5 b2.out
     refine tail_b rfl ?_ (by rfl)
     go_wp2_with fail
     refine mixQ_n ?_
     refine tail_nil ?_
     clear xw rxw xv rxv
     clear v00 v01 v02 v03 v04 v0z v10 v11 v12 v13 v14 v15 v16 v1z v20 v21 v22 v23 v24 v2z
     by_cases hat0 : at_ < 0
     ·obtain ⟨v00, v01, v02, v03, v04, v0z⟩ := blk5 b0.out
      obtain ⟨v10, v11, v12, v13, v14, v15, v16, v1z⟩ := blk7 b1.out
      obtain ⟨v20, v21, v22, v23, v24, v2z⟩ := blk5 b2.out
      go_wp2_with fail
      refine bodyPost_retW (v := .tuple #[.agg #[.int .i64 0, .int .i64 0, .string ⟨#[]⟩, .slice none 0 0, .slice none 0 0], .bool false]) (by simp [results, Tryz.results32, go_sem, v00, v01, v02, v03, v04, v0z, v10, v11, v12, v13, v14, v15, v16, v1z, v20, v21, v22, v23, v24, v2z]) rfl ?_
      intro W hW
      clear v00 v01 v02 v03 v04 v0z v10 v11 v12 v13 v14 v15 v16 v1z v20 v21 v22 v23 v24 v2z
      have eF : Fr w4 W (fun k => w.heap.size ≤ k) := by rw [hW]; (repeat (first | with_reducible refine Fr.setCell ?_ _ (fun _ => by simp <;> omega) _ | with_reducible refine Fr.alloc ?_ _ | with_reducible refine Fr.drew ?_)); exact Fr.refl _ _
      exact pat_none (pat_no HA1.out (by rw [← HAT.out]; exact hat0)) rfl ((Fr.of_below hB.out S).then_ eF (fun k h hl => by (try simp only at h); omega))
     ·obtain ⟨q, hq⟩ := Int.eq_ofNat_of_zero_le (Int.not_lt.1 hat0)
      subst hq
      have hql := place_lt HOWN.out s HAT.out.symm
      clear hat0
      have hq0 : (0 : Int) ≤ (q : Int) := by omega
      have hqn : ¬ ((q : Int) < 0) := by omega
      have HPV := Hd.mk (pat_in HA1.out HA2.out HAT.out.symm hql)
      obtain ⟨v3, v4, T3, T4, hcj, hsj2, hr3, hr4, hs3, hs4, hs34⟩ := tJ_O.1 HJ.out
      simp only [List.cons.injEq, and_true, true_and] at hcj
      obtain ⟨rfl, rfl⟩ := hcj
      have HL := Hd.mk hr3; have HN4 := Hd.mk hr4; have HT3 := Hd.mk hs3; have HT4 := Hd.mk hs4; have H34 := Hd.mk hs34
      clear hr3 hr4 hs3 hs4 hs34 HJ
      obtain ⟨gl, cl, he, hgl, _⟩ := R_form HL.out (by omega)
      injection he with e1 e2 e3
      subst e1; subst e3; clear e2
      obtain ⟨Si, Ae, Be, ae, be, hH, hOe, hSg, hgw, ⟨x0, x1, x2, x3, x4⟩, xz, hlc, hc63⟩ := R_elem5 HL.out hql
      obtain ⟨_, _, _, _, _, _, _, hgI, _, _⟩ := H_cells hH (show 0 < 5 by decide)
      have HSI := Hd.mk (H_in hH)
      have hH := Hd.mk hH; have hOe := Hd.mk hOe
      have hqi : (q : Int) < (j.list.length : Int) := by omega
      obtain ⟨v00, v01, v02, v03, v04, v0z⟩ := blk5 b0.out
      obtain ⟨v10, v11, v12, v13, v14, v15, v16, v1z⟩ := blk7 b1.out
      obtain ⟨v20, v21, v22, v23, v24, v2z⟩ := blk5 b2.out
      go_wp2_with fail
      clear v00 v01 v02 v03 v04 v0z v10 v11 v12 v13 v14 v15 v16 v1z v20 v21 v22 v23 v24 v2z
      have H0c := Hd.mk (below_then H0.out hB.out)
      have H0r := Hd.mk H0c.out
      have hB := Hd.mk (Fr.of_below hB.out S)
      have sb0 := Hd.mk b0.out
      have sb1 := Hd.mk b1.out
      have sb2 := Hd.mk b2.out
      refine region_mixC (fun x_ => Fr w4 x_ (fun k => Si k ∧ k < w.heap.size)) (.q 7 (.p 0 (.q 1 (.p 2 (.p 3 (.q 4 (.p 5 (.p 6 (.br 8 12 (.p 9 (.p 10 (.p 11 (.b 12 .fin)))) (.b 8 (.p 9 (.p 10 (.p 11 .fin))))))))))))) [13, 14] (by kernel_rfl) (Fr.drew (Fr.refl _ _)) (by kernel_rfl) (fun _ _ _ _ _ h => h) ?_
      refine genT ?_
      intro W5 hW
      have hS := Hd.mk (show Fr w4 W5 (fun k => Si k ∧ k < w.heap.size) by rw [hW]; exact Fr.drew (Fr.refl _ _))
      have hz_ : w4.heap.size ≤ W5.heap.size := by rw [hW]; simp
      have hE : Below w4.heap.size w4 W5 := by rw [hW]; (repeat (first | with_reducible refine below_alloc ?_ _ | with_reducible refine below_drew ?_)); exact Below.refl _ _
      have hB := Hd.mk (hB.out.trans (Fr.of_below hE _))
      have H0c := Hd.mk (below_then H0c.out hE)
      have b0 := b0.dn hE
      have b1 := b1.dn hE
      have b2 := b2.dn hE
      have HN4 := Hd.mk (R_below HN4.out hE)
      have hH := Hd.mk (H_belowZ hH.out hE)
      have hOe := hOe.ob hE
      clear hW hE
      have z5 := Hd.mk hz_; clear hz_
      refine mixT_see rfl (by rfl) (.agg #[.int .i64 kk, .slice AW o.way.length cW, .int .i64 o.value.kind, .int .i64 o.value.n, .string o.value.s, .slice A3 o.value.list.length c3, .slice A4 o.value.names.length c4]) (fun w_ hw_ => by have f0_ := (sb1.out.fr hw_ (fun h => by have q_ := h.2; omega)).cell 0 rfl; have f1_ := (sb1.out.fr hw_ (fun h => by have q_ := h.2; omega)).cell 1 rfl; have f2_ := (sb1.out.fr hw_ (fun h => by have q_ := h.2; omega)).cell 2 rfl; have f3_ := (sb1.out.fr hw_ (fun h => by have q_ := h.2; omega)).cell 3 rfl; have f4_ := (sb1.out.fr hw_ (fun h => by have q_ := h.2; omega)).cell 4 rfl; have f5_ := (sb1.out.fr hw_ (fun h => by have q_ := h.2; omega)).cell 5 rfl; have f6_ := (sb1.out.fr hw_ (fun h => by have q_ := h.2; omega)).cell 6 rfl; simp [execOp, go_sem, f0_, f1_, f2_, f3_, f4_, f5_, f6_]) hS.out ?_
      obtain ⟨v00, v01, v02, v03, v04, v0z⟩ := blk5 b0.out
      obtain ⟨v10, v11, v12, v13, v14, v15, v16, v1z⟩ := blk7 b1.out
      obtain ⟨v20, v21, v22, v23, v24, v2z⟩ := blk5 b2.out
      go_wp2_with fail
      refine mixQ_n ?_
      clear v00 v01 v02 v03 v04 v0z v10 v11 v12 v13 v14 v15 v16 v1z v20 v21 v22 v23 v24 v2z
      refine mixT_p rfl ?_
      go_big_quiet_want; go_big_quiet_op; go_big_quiet_on; refine wpQuiet_nil ?_
      refine mixT_see rfl (by rfl) (Value.slice (some ⟨gl, 0, none⟩) j.list.length c1) (fun w_ hw_ => by have f0_ := (sb0.out.fr hw_ (fun h => by have q_ := h.2; omega)).cell 3 rfl; simp [execOp, go_sem, f0_]) hS.out ?_
      obtain ⟨v00, v01, v02, v03, v04, v0z⟩ := blk5 b0.out
      obtain ⟨v10, v11, v12, v13, v14, v15, v16, v1z⟩ := blk7 b1.out
      obtain ⟨v20, v21, v22, v23, v24, v2z⟩ := blk5 b2.out
      go_wp2_with fail
      refine mixQ_n ?_
      clear v00 v01 v02 v03 v04 v0z v10 v11 v12 v13 v14 v15 v16 v1z v20 v21 v22 v23 v24 v2z
      iterate 2 (refine mixT_p rfl ?_; go_big_quiet_want; go_big_quiet_op; go_big_quiet_on; refine wpQuiet_nil ?_)
      refine mixT_see rfl (by rfl) (.agg #[.int .i64 j.list[q].kind, .int .i64 j.list[q].n, .string j.list[q].s, .slice Ae j.list[q].list.length ae, .slice Be j.list[q].names.length be]) (fun w_ hw_ => by have f0_ := (World.cell?_of_block (hw_.block gl hgw (fun h => absurd h.1 hgI))).trans x0; have f1_ := (World.cell?_of_block (hw_.block gl hgw (fun h => absurd h.1 hgI))).trans x1; have f2_ := (World.cell?_of_block (hw_.block gl hgw (fun h => absurd h.1 hgI))).trans x2; have f3_ := (World.cell?_of_block (hw_.block gl hgw (fun h => absurd h.1 hgI))).trans x3; have f4_ := (World.cell?_of_block (hw_.block gl hgw (fun h => absurd h.1 hgI))).trans x4; simp [execOp, go_sem, f0_, f1_, f2_, f3_, f4_]) hS.out ?_
      have y0_ := (World.cell?_of_block (hS.out.block gl hgw (fun h => absurd h.1 hgI))).trans x0; have y1_ := (World.cell?_of_block (hS.out.block gl hgw (fun h => absurd h.1 hgI))).trans x1; have y2_ := (World.cell?_of_block (hS.out.block gl hgw (fun h => absurd h.1 hgI))).trans x2; have y3_ := (World.cell?_of_block (hS.out.block gl hgw (fun h => absurd h.1 hgI))).trans x3; have y4_ := (World.cell?_of_block (hS.out.block gl hgw (fun h => absurd h.1 hgI))).trans x4
      obtain ⟨v00, v01, v02, v03, v04, v0z⟩ := blk5 b0.out
      obtain ⟨v10, v11, v12, v13, v14, v15, v16, v1z⟩ := blk7 b1.out
      obtain ⟨v20, v21, v22, v23, v24, v2z⟩ := blk5 b2.out
      go_wp2_with fail
      refine mixQ_n ?_
      clear y0_ y1_ y2_ y3_ y4_
      clear v00 v01 v02 v03 v04 v0z v10 v11 v12 v13 v14 v15 v16 v1z v20 v21 v22 v23 v24 v2z
      iterate 2 (refine mixT_p rfl ?_; go_big_quiet_want; go_big_quiet_op; go_big_quiet_on; refine wpQuiet_nil ?_)
      refine ⟨?_, ?_⟩
      ·refine stepM_of rfl ?_ (by rfl)
       go_wp2_with fail
       apply calls_gen; intro W6 hW
       have hz_ : W5.heap.size ≤ W6.heap.size := by rw [hW]; simp
       have hE : Below W5.heap.size W5 W6 := by rw [hW]; (repeat (first | with_reducible refine below_alloc ?_ _ | with_reducible refine below_drew ?_)); exact Below.refl _ _
       have hB := Hd.mk (hB.out.trans (Fr.of_below hE _))
       have H0c := Hd.mk (below_then H0c.out hE)
       replace hS := Hd.mk (hS.out.trans (Fr.of_below hE _))
       have b0 := b0.dn hE
       have b1 := b1.dn hE
       have b2 := b2.dn hE
       have HN4 := Hd.mk (R_below HN4.out hE)
       have hH := Hd.mk (H_belowZ hH.out hE)
       have hOe := hOe.ob hE
       clear hW hE
       have z6 := Hd.mk hz_; clear hz_
       have z0_ := z0.out; have z1_ := z1.out; have z2_ := z2.out; have z3_ := z3.out; have z4_ := z4.out; have z5_ := z5.out; have z6_ := z6.out
       obtain ⟨d2, _, hz2⟩ := sizeN_at HZD.out q hql
       refine (ih (fun k => Si k) j.list[q] _ _ _ _ w0 _ hOe.out H0c.out (fun k h => HS0.out k (HT3.out k (HSI.out k h)).1) (C_tail HW.out (.inl rfl)) (by have := HN.out; exact Nat.zero_le _) HKO.out HT.out HE.out ⟨d2, hz2⟩).mono ?_
       rintro e w9 hP
       obtain ⟨ra, rb, rs, RA, RB, rn, rc, rn2, rd, ok, rfl, hX, hR⟩ := pat_open hP
       have HR := Hd.mk hR; clear hR hP
       have b0 := Hd.mk (b0.out.fr hX (fun h => by have q_ := (HT3.out _ (HSI.out _ h)).2; omega))
       have b1 := Hd.mk (b1.out.fr hX (fun h => by have q_ := (HT3.out _ (HSI.out _ h)).2; omega))
       have b2 := Hd.mk (b2.out.fr hX (fun h => by have q_ := (HT3.out _ (HSI.out _ h)).2; omega))
       have HR := Hd.mk (pat_T HR.out)
       have HN4 := Hd.mk (R_fr HN4.out hX (fun k hk hl h => H34.out k (HSI.out k h) hk))
       have hH := Hd.mk (H_fr hH.out hX (fun k _ h _ => h))
       clear H0c hOe
       replace hS := Hd.mk (hS.out.then_ hX (fun k h hl => ⟨h, (HT3.out k (HSI.out k h)).2⟩))
       have hB := Hd.mk (hB.out.then_ hX (fun k h hl => (HT3.out k (HSI.out k h)).1))
       have hz_ := hX.size
       clear hX
       have z7 := Hd.mk hz_; clear hz_
       go_wp2_with fail
       refine ⟨hS.out, ?_⟩
       iterate 3 (refine mixT_p rfl ?_; go_big_quiet_want; go_big_quiet_op; go_big_quiet_on; refine wpQuiet_nil ?_)
       refine mixT_b rfl ?_ (by rfl)
       go_wp2_with fail
       refine ⟨hS.out.alloc _, ?_⟩
       refine genT ?_; intro W7 hW
       have hz_ : w9.heap.size + 1 ≤ W7.heap.size := by rw [hW]; simp
       have hE : Below w9.heap.size w9 W7 := by rw [hW]; (repeat (first | with_reducible refine below_alloc ?_ _ | with_reducible refine below_drew ?_)); exact Below.refl _ _
       have hB := Hd.mk (hB.out.trans (Fr.of_below hE _))
       replace hS := Hd.mk (hS.out.trans (Fr.of_below hE _))
       have b0 := b0.dn hE
       have b1 := b1.dn hE
       have b2 := b2.dn hE
       have b3 := Hd.mk (show Blk W7 (w9.heap.size) #[.int .i64 0, .int .i64 0, .string ⟨#[]⟩, .slice none 0 0, .slice none 0 0] 32 by rw [hW]; first | exact (Blk.new _ _ _) | (simpa using (Blk.new _ _ _)))
       have HN4 := Hd.mk (R_below HN4.out hE)
       have hH := Hd.mk (H_belowZ hH.out hE)
       have HR := Hd.mk (patT_below HR.out hE)
       clear hW hE
       have z8 := Hd.mk hz_; clear hz_
       refine mixT_fin ?_
       clear hS
       obtain ⟨v00, v01, v02, v03, v04, v0z⟩ := blk5 b0.out
       obtain ⟨v10, v11, v12, v13, v14, v15, v16, v1z⟩ := blk7 b1.out
       obtain ⟨v20, v21, v22, v23, v24, v2z⟩ := blk5 b2.out
       obtain ⟨v30, v31, v32, v33, v34, v3z⟩ := blk5 b3.out
       refine tail_b rfl ?_ (by rfl)
       go_wp2_with fail
       refine mixQ_n ?_
       refine tail_b rfl ?_ (by rfl)
       go_wp2_with fail
       refine mixQ_n ?_
       refine tail_nil ?_
       refine exit_gen ?_; intro Wb hW
       clear v00 v01 v02 v03 v04 v0z v10 v11 v12 v13 v14 v15 v16 v1z v20 v21 v22 v23 v24 v2z v30 v31 v32 v33 v34 v3z
       have eF : Fr W7 Wb (fun k => k = w9.heap.size) := by rw [hW]; exact Fr.set5 _ _ _ _ _ _ _ _ _ _ _ _
       have z0_ := z0.out; have z1_ := z1.out; have z2_ := z2.out; have z3_ := z3.out; have z4_ := z4.out; have z5_ := z5.out; have z6_ := z6.out; have z7_ := z7.out; have z8_ := z8.out
       have b0 := Hd.mk (b0.out.fr eF (fun h => by (try simp only at h); omega))
       have b1 := Hd.mk (b1.out.fr eF (fun h => by (try simp only at h); omega))
       have b2 := Hd.mk (b2.out.fr eF (fun h => by (try simp only at h); omega))
       have b3 := Hd.mk (show Blk Wb (w9.heap.size) #[.int .i64 ra, .int .i64 rb, .string rs, .slice RA rn rc, .slice RB rn2 rd] 32 by rw [hW]; exact Blk.all b3.out [Value.int IntKind.i64 ra, .int .i64 rb, .string rs, .slice RA rn rc, .slice RB rn2 rd] rfl)
       have HN4 := Hd.mk (R_fr HN4.out eF (fun k hk hl h => by have q_ := (HT4.out k hk).2; (try simp only at h); omega))
       have hH := Hd.mk (H_fr hH.out eF (fun k hs h _ => by have q_ := (HT3.out k hs).2; (try simp only at h); omega))
       have HR := Hd.mk (patT_fr HR.out eF (fun k hk hl h => by (try simp only at h); have q2_ := hk.2; rcases hk.1 with q_ | q_; omega; (have q3_ := (HT3.out k (HSI.out k q_)).2; omega)))
       have hB := Hd.mk (hB.out.then_ eF (fun k h hl => by (try simp only at h); omega))
       have hzb := Hd.mk eF.size
       clear hW eF
       rcases HR.out with ⟨rfl, zz, hz1, hz2⟩ | ⟨rfl, hz1⟩
       ·have hz2 := Hd.mk hz2; have hz1 := Hd.mk hz1
        obtain ⟨g2, cap2, he2, _, _, _, hg2w, hgI2, hcell, hfz⟩ := H_cells hH.out (show 0 < 5 by decide)
        injection he2 with e1 _ e3
        subst e3
        injection e1 with e1
        injection e1 with e1 _ _
        subst e1
        have y0 := hcell 0 _ rfl; have y1 := hcell 1 _ rfl; have y2 := hcell 2 _ rfl; have y3 := hcell 3 _ rfl; have y4 := hcell 4 _ rfl
        simp only [tJ_sz, Nat.add_zero] at y0 y1 y2 y3 y4
        clear hcell x0 x1 x2 x3 x4 xz
        have hglw : gl < w.heap.size := (HT3.out gl hSg).2
        have hgl9 : gl < w9.heap.size := by have z0_ := z0.out; have z1_ := z1.out; have z2_ := z2.out; have z3_ := z3.out; have z4_ := z4.out; have z5_ := z5.out; have z6_ := z6.out; have z7_ := z7.out; have z8_ := z8.out; have hzb_ := hzb.out; omega
        obtain ⟨v00, v01, v02, v03, v04, v0z⟩ := blk5 b0.out
        obtain ⟨v10, v11, v12, v13, v14, v15, v16, v1z⟩ := blk7 b1.out
        obtain ⟨v20, v21, v22, v23, v24, v2z⟩ := blk5 b2.out
        obtain ⟨v30, v31, v32, v33, v34, v3z⟩ := blk5 b3.out
        go_wp2_with fail
        refine bodyPost_retW (v := .tuple #[.agg #[.int .i64 j.kind, .int .i64 j.n, .string j.s, .slice (some ⟨gl, 0, none⟩) j.list.length c1, .slice A2 j.names.length c2], .bool true]) (by simp [results, Tryz.results32, go_sem, v00, v01, v02, v03, v04, v0z, v10, v11, v12, v13, v14, v15, v16, v1z, v20, v21, v22, v23, v24, v2z, v30, v31, v32, v33, v34, v3z]) rfl ?_
        intro W hW
        clear v00 v01 v02 v03 v04 v0z v10 v11 v12 v13 v14 v15 v16 v1z v20 v21 v22 v23 v24 v2z v30 v31 v32 v33 v34 v3z
        have z0_ := z0.out; have z1_ := z1.out; have z2_ := z2.out; have z3_ := z3.out; have z4_ := z4.out; have z5_ := z5.out; have z6_ := z6.out; have z7_ := z7.out; have z8_ := z8.out; have hzb_ := hzb.out
        have hR1 := H_set5 hH.out rfl (z := zz) (S' := fun k => T3 k ∨ W6.heap.size ≤ k) hz2.out (fun h => by rcases h.1 with q_ | q_; omega; exact hgI q_) (fun k h => by rcases h.1 with q_ | q_; exact .inr (fun h3 => by have q3_ := (HT3.out k h3).2; omega); exact .inl q_) (fun k h => .inl h) (fun k h => by rcases h.1 with q_ | q_; exact .inr q_; exact .inl (HSI.out k q_))
        have hF1 := Fr.set5 Wb gl (q * 5) (q * 5 + 1) (q * 5 + 2) (q * 5 + 3) (q * 5 + 4) (Value.int IntKind.i64 ra) (Value.int IntKind.i64 rb) (Value.string rs) (Value.slice RA rn rc) (Value.slice RB rn2 rd)
        obtain ⟨Wa, hWa⟩ : ∃ z, z = (((((Wb.setCell ⟨gl, q * 5, none⟩ (Value.int IntKind.i64 ra)).setCell ⟨gl, q * 5 + 1, none⟩ (Value.int IntKind.i64 rb)).setCell ⟨gl, q * 5 + 2, none⟩ (Value.string rs)).setCell ⟨gl, q * 5 + 3, none⟩ (Value.slice RA rn rc)).setCell ⟨gl, q * 5 + 4, none⟩ (Value.slice RB rn2 rd)) := ⟨_, rfl⟩
        rw [← hWa] at hR1 hF1
        have eF : Fr Wa W (fun k => k = w.heap.size + 2) := by rw [hW, hWa]; exact Fr.set5 _ _ _ _ _ _ _ _ _ _ _ _
        clear hW hWa
        exact pat_some (z := setV j q zz) (cs := [Value.int IntKind.i64 j.kind, .int .i64 j.n, .string j.s, .slice (some ⟨gl, 0, none⟩) j.list.length c1, .slice A2 j.names.length c2]) (by rw [HPV.out, hz1.out]; rfl) rfl (tJ_O.2 ⟨_, _, fun k => T3 k ∨ W6.heap.size ≤ k, T4, rfl, hsj, R_fr hR1 eF (fun k hk hl h => by (try simp only at h); rcases hk with q_ | q_; (have q2_ := (HT3.out k q_).2; omega); omega), R_fr (R_fr HN4.out hF1 (fun k hk hl h => by have h : k = gl := h; subst h; exact H34.out _ hSg hk)) eF (fun k hk hl h => by have q_ := (HT4.out k hk).2; (try simp only at h); omega), fun k h => by
         rcases h with q_ | q_
         ·exact .inr (HT3.out k q_).1
         ·exact .inl (by omega), fun k h => .inr (HT4.out k h).1, fun k h h2 => by
         rcases h with q_ | q_
         ·exact H34.out k q_ h2
         ·have q2_ := (HT4.out k h2).2
          omega⟩) ((hB.out.then_ hF1 (fun k h _ => by have h : k = gl := h; subst h; exact (HT3.out _ hSg).1)).then_ eF (fun k h hl => by (try simp only at h); omega))
       ·have hz1 := Hd.mk hz1
        obtain ⟨v00, v01, v02, v03, v04, v0z⟩ := blk5 b0.out
        obtain ⟨v10, v11, v12, v13, v14, v15, v16, v1z⟩ := blk7 b1.out
        obtain ⟨v20, v21, v22, v23, v24, v2z⟩ := blk5 b2.out
        obtain ⟨v30, v31, v32, v33, v34, v3z⟩ := blk5 b3.out
        go_wp2_with fail
        refine bodyPost_retW (v := .tuple #[.agg #[.int .i64 0, .int .i64 0, .string ⟨#[]⟩, .slice none 0 0, .slice none 0 0], .bool false]) (by simp [results, Tryz.results32, go_sem, v00, v01, v02, v03, v04, v0z, v10, v11, v12, v13, v14, v15, v16, v1z, v20, v21, v22, v23, v24, v2z, v30, v31, v32, v33, v34, v3z]) rfl ?_
        intro W hW
        clear v00 v01 v02 v03 v04 v0z v10 v11 v12 v13 v14 v15 v16 v1z v20 v21 v22 v23 v24 v2z v30 v31 v32 v33 v34 v3z
        have z0_ := z0.out; have z1_ := z1.out; have z2_ := z2.out; have z3_ := z3.out; have z4_ := z4.out; have z5_ := z5.out; have z6_ := z6.out; have z7_ := z7.out; have z8_ := z8.out; have hzb_ := hzb.out
        have eF : Fr Wb W (fun k => w.heap.size ≤ k) := by rw [hW]; (repeat (first | with_reducible refine Fr.setCell ?_ _ (fun _ => by simp <;> omega) _ | with_reducible refine Fr.alloc ?_ _ | with_reducible refine Fr.drew ?_)); exact Fr.refl _ _
        exact pat_none (by rw [HPV.out, hz1.out]; rfl) rfl (hB.out.then_ eF (fun k h hl => by (try simp only at h); omega))
      ·refine stepM_of rfl ?_ (by rfl)
       go_wp2_with fail
       refine ⟨hS.out.alloc _, ?_⟩
       refine genT ?_; intro W6 hW
       have hz_ : W5.heap.size + 1 ≤ W6.heap.size := by rw [hW]; simp
       have hE : Below W5.heap.size W5 W6 := by rw [hW]; (repeat (first | with_reducible refine below_alloc ?_ _ | with_reducible refine below_drew ?_)); exact Below.refl _ _
       have hB := Hd.mk (hB.out.trans (Fr.of_below hE _))
       have H0c := Hd.mk (below_then H0c.out hE)
       replace hS := Hd.mk (hS.out.trans (Fr.of_below hE _))
       have b0 := b0.dn hE
       have b1 := b1.dn hE
       have b2 := b2.dn hE
       have b3 := Hd.mk (show Blk W6 (W5.heap.size) #[.int .i64 0, .int .i64 0, .string ⟨#[]⟩, .slice none 0 0, .slice none 0 0] 32 by rw [hW]; first | exact (Blk.new _ _ _) | (simpa using (Blk.new _ _ _)))
       have HN4 := Hd.mk (R_below HN4.out hE)
       have hH := Hd.mk (H_belowZ hH.out hE)
       have hOe := hOe.ob hE
       clear hW hE
       have z6 := Hd.mk hz_; clear hz_
       refine mixT_b rfl ?_ (by rfl)
       go_wp2_with fail
       apply calls_gen; intro W7 hW
       have hz_ : W6.heap.size ≤ W7.heap.size := by rw [hW]; simp
       have hE : Below W6.heap.size W6 W7 := by rw [hW]; (repeat (first | with_reducible refine below_alloc ?_ _ | with_reducible refine below_drew ?_)); exact Below.refl _ _
       have hB := Hd.mk (hB.out.trans (Fr.of_below hE _))
       have H0c := Hd.mk (below_then H0c.out hE)
       replace hS := Hd.mk (hS.out.trans (Fr.of_below hE _))
       have b0 := b0.dn hE
       have b1 := b1.dn hE
       have b2 := b2.dn hE
       have b3 := b3.dn hE
       have HN4 := Hd.mk (R_below HN4.out hE)
       have hH := Hd.mk (H_belowZ hH.out hE)
       have hOe := hOe.ob hE
       clear hW hE
       have z7 := Hd.mk hz_; clear hz_
       have z0_ := z0.out; have z1_ := z1.out; have z2_ := z2.out; have z3_ := z3.out; have z4_ := z4.out; have z5_ := z5.out; have z6_ := z6.out; have z7_ := z7.out
       obtain ⟨d2, _, hz2⟩ := sizeN_at HZD.out q hql
       refine (ih (fun k => Si k) j.list[q] _ _ _ _ w0 _ hOe.out H0c.out (fun k h => HS0.out k (HT3.out k (HSI.out k h)).1) (C_tail HW.out (.inl rfl)) (by have := HN.out; exact Nat.zero_le _) HKO.out HT.out HE.out ⟨d2, hz2⟩).mono ?_
       rintro e w9 hP
       obtain ⟨ra, rb, rs, RA, RB, rn, rc, rn2, rd, ok, rfl, hX, hR⟩ := pat_open hP
       have HR := Hd.mk hR; clear hR hP
       have b0 := Hd.mk (b0.out.fr hX (fun h => by have q_ := (HT3.out _ (HSI.out _ h)).2; omega))
       have b1 := Hd.mk (b1.out.fr hX (fun h => by have q_ := (HT3.out _ (HSI.out _ h)).2; omega))
       have b2 := Hd.mk (b2.out.fr hX (fun h => by have q_ := (HT3.out _ (HSI.out _ h)).2; omega))
       have b3 := Hd.mk (b3.out.fr hX (fun h => by have q_ := (HT3.out _ (HSI.out _ h)).2; omega))
       have HR := Hd.mk (pat_T HR.out)
       have HN4 := Hd.mk (R_fr HN4.out hX (fun k hk hl h => H34.out k (HSI.out k h) hk))
       have hH := Hd.mk (H_fr hH.out hX (fun k _ h _ => h))
       clear H0c hOe
       replace hS := Hd.mk (hS.out.then_ hX (fun k h hl => ⟨h, (HT3.out k (HSI.out k h)).2⟩))
       have hB := Hd.mk (hB.out.then_ hX (fun k h hl => (HT3.out k (HSI.out k h)).1))
       have hz_ := hX.size
       clear hX
       have z8 := Hd.mk hz_; clear hz_
       go_wp2_with fail
       refine ⟨hS.out, ?_⟩
       iterate 3 (refine mixT_p rfl ?_; go_big_quiet_want; go_big_quiet_op; go_big_quiet_on; refine wpQuiet_nil ?_)
       refine mixT_fin ?_
       clear hS
       obtain ⟨v00, v01, v02, v03, v04, v0z⟩ := blk5 b0.out
       obtain ⟨v10, v11, v12, v13, v14, v15, v16, v1z⟩ := blk7 b1.out
       obtain ⟨v20, v21, v22, v23, v24, v2z⟩ := blk5 b2.out
       obtain ⟨v30, v31, v32, v33, v34, v3z⟩ := blk5 b3.out
       refine tail_b rfl ?_ (by rfl)
       go_wp2_with fail
       refine mixQ_n ?_
       refine tail_b rfl ?_ (by rfl)
       go_wp2_with fail
       refine mixQ_n ?_
       refine tail_nil ?_
       refine exit_gen ?_; intro Wb hW
       clear v00 v01 v02 v03 v04 v0z v10 v11 v12 v13 v14 v15 v16 v1z v20 v21 v22 v23 v24 v2z v30 v31 v32 v33 v34 v3z
       have eF : Fr w9 Wb (fun k => k = W5.heap.size) := by rw [hW]; exact Fr.set5 _ _ _ _ _ _ _ _ _ _ _ _
       have z0_ := z0.out; have z1_ := z1.out; have z2_ := z2.out; have z3_ := z3.out; have z4_ := z4.out; have z5_ := z5.out; have z6_ := z6.out; have z7_ := z7.out; have z8_ := z8.out
       have b0 := Hd.mk (b0.out.fr eF (fun h => by (try simp only at h); omega))
       have b1 := Hd.mk (b1.out.fr eF (fun h => by (try simp only at h); omega))
       have b2 := Hd.mk (b2.out.fr eF (fun h => by (try simp only at h); omega))
       have b3 := Hd.mk (show Blk Wb (W5.heap.size) #[.int .i64 ra, .int .i64 rb, .string rs, .slice RA rn rc, .slice RB rn2 rd] 32 by rw [hW]; exact Blk.all b3.out [Value.int IntKind.i64 ra, .int .i64 rb, .string rs, .slice RA rn rc, .slice RB rn2 rd] rfl)
       have HN4 := Hd.mk (R_fr HN4.out eF (fun k hk hl h => by have q_ := (HT4.out k hk).2; (try simp only at h); omega))
       have hH := Hd.mk (H_fr hH.out eF (fun k hs h _ => by have q_ := (HT3.out k hs).2; (try simp only at h); omega))
       have HR := Hd.mk (patT_fr HR.out eF (fun k hk hl h => by (try simp only at h); have q2_ := hk.2; rcases hk.1 with q_ | q_; omega; (have q3_ := (HT3.out k (HSI.out k q_)).2; omega)))
       have hB := Hd.mk (hB.out.then_ eF (fun k h hl => by (try simp only at h); omega))
       have hzb := Hd.mk eF.size
       clear hW eF
       rcases HR.out with ⟨rfl, zz, hz1, hz2⟩ | ⟨rfl, hz1⟩
       ·have hz2 := Hd.mk hz2; have hz1 := Hd.mk hz1
        obtain ⟨g2, cap2, he2, _, _, _, hg2w, hgI2, hcell, hfz⟩ := H_cells hH.out (show 0 < 5 by decide)
        injection he2 with e1 _ e3
        subst e3
        injection e1 with e1
        injection e1 with e1 _ _
        subst e1
        have y0 := hcell 0 _ rfl; have y1 := hcell 1 _ rfl; have y2 := hcell 2 _ rfl; have y3 := hcell 3 _ rfl; have y4 := hcell 4 _ rfl
        simp only [tJ_sz, Nat.add_zero] at y0 y1 y2 y3 y4
        clear hcell x0 x1 x2 x3 x4 xz
        have hglw : gl < w.heap.size := (HT3.out gl hSg).2
        have hgl9 : gl < W5.heap.size := by have z0_ := z0.out; have z1_ := z1.out; have z2_ := z2.out; have z3_ := z3.out; have z4_ := z4.out; have z5_ := z5.out; have z6_ := z6.out; have z7_ := z7.out; have z8_ := z8.out; have hzb_ := hzb.out; omega
        obtain ⟨v00, v01, v02, v03, v04, v0z⟩ := blk5 b0.out
        obtain ⟨v10, v11, v12, v13, v14, v15, v16, v1z⟩ := blk7 b1.out
        obtain ⟨v20, v21, v22, v23, v24, v2z⟩ := blk5 b2.out
        obtain ⟨v30, v31, v32, v33, v34, v3z⟩ := blk5 b3.out
        go_wp2_with fail
        refine bodyPost_retW (v := .tuple #[.agg #[.int .i64 j.kind, .int .i64 j.n, .string j.s, .slice (some ⟨gl, 0, none⟩) j.list.length c1, .slice A2 j.names.length c2], .bool true]) (by simp [results, Tryz.results32, go_sem, v00, v01, v02, v03, v04, v0z, v10, v11, v12, v13, v14, v15, v16, v1z, v20, v21, v22, v23, v24, v2z, v30, v31, v32, v33, v34, v3z]) rfl ?_
        intro W hW
        clear v00 v01 v02 v03 v04 v0z v10 v11 v12 v13 v14 v15 v16 v1z v20 v21 v22 v23 v24 v2z v30 v31 v32 v33 v34 v3z
        have z0_ := z0.out; have z1_ := z1.out; have z2_ := z2.out; have z3_ := z3.out; have z4_ := z4.out; have z5_ := z5.out; have z6_ := z6.out; have z7_ := z7.out; have z8_ := z8.out; have hzb_ := hzb.out
        have hR1 := H_set5 hH.out rfl (z := zz) (S' := fun k => T3 k ∨ W7.heap.size ≤ k) hz2.out (fun h => by rcases h.1 with q_ | q_; omega; exact hgI q_) (fun k h => by rcases h.1 with q_ | q_; exact .inr (fun h3 => by have q3_ := (HT3.out k h3).2; omega); exact .inl q_) (fun k h => .inl h) (fun k h => by rcases h.1 with q_ | q_; exact .inr q_; exact .inl (HSI.out k q_))
        have hF1 := Fr.set5 Wb gl (q * 5) (q * 5 + 1) (q * 5 + 2) (q * 5 + 3) (q * 5 + 4) (Value.int IntKind.i64 ra) (Value.int IntKind.i64 rb) (Value.string rs) (Value.slice RA rn rc) (Value.slice RB rn2 rd)
        obtain ⟨Wa, hWa⟩ : ∃ z, z = (((((Wb.setCell ⟨gl, q * 5, none⟩ (Value.int IntKind.i64 ra)).setCell ⟨gl, q * 5 + 1, none⟩ (Value.int IntKind.i64 rb)).setCell ⟨gl, q * 5 + 2, none⟩ (Value.string rs)).setCell ⟨gl, q * 5 + 3, none⟩ (Value.slice RA rn rc)).setCell ⟨gl, q * 5 + 4, none⟩ (Value.slice RB rn2 rd)) := ⟨_, rfl⟩
        rw [← hWa] at hR1 hF1
        have eF : Fr Wa W (fun k => k = w.heap.size + 2) := by rw [hW, hWa]; exact Fr.set5 _ _ _ _ _ _ _ _ _ _ _ _
        clear hW hWa
        exact pat_some (z := setV j q zz) (cs := [Value.int IntKind.i64 j.kind, .int .i64 j.n, .string j.s, .slice (some ⟨gl, 0, none⟩) j.list.length c1, .slice A2 j.names.length c2]) (by rw [HPV.out, hz1.out]; rfl) rfl (tJ_O.2 ⟨_, _, fun k => T3 k ∨ W7.heap.size ≤ k, T4, rfl, hsj, R_fr hR1 eF (fun k hk hl h => by (try simp only at h); rcases hk with q_ | q_; (have q2_ := (HT3.out k q_).2; omega); omega), R_fr (R_fr HN4.out hF1 (fun k hk hl h => by have h : k = gl := h; subst h; exact H34.out _ hSg hk)) eF (fun k hk hl h => by have q_ := (HT4.out k hk).2; (try simp only at h); omega), fun k h => by
         rcases h with q_ | q_
         ·exact .inr (HT3.out k q_).1
         ·exact .inl (by omega), fun k h => .inr (HT4.out k h).1, fun k h h2 => by
         rcases h with q_ | q_
         ·exact H34.out k q_ h2
         ·have q2_ := (HT4.out k h2).2
          omega⟩) ((hB.out.then_ hF1 (fun k h _ => by have h : k = gl := h; subst h; exact (HT3.out _ hSg).1)).then_ eF (fun k h hl => by (try simp only at h); omega))
       ·have hz1 := Hd.mk hz1
        obtain ⟨v00, v01, v02, v03, v04, v0z⟩ := blk5 b0.out
        obtain ⟨v10, v11, v12, v13, v14, v15, v16, v1z⟩ := blk7 b1.out
        obtain ⟨v20, v21, v22, v23, v24, v2z⟩ := blk5 b2.out
        obtain ⟨v30, v31, v32, v33, v34, v3z⟩ := blk5 b3.out
        go_wp2_with fail
        refine bodyPost_retW (v := .tuple #[.agg #[.int .i64 0, .int .i64 0, .string ⟨#[]⟩, .slice none 0 0, .slice none 0 0], .bool false]) (by simp [results, Tryz.results32, go_sem, v00, v01, v02, v03, v04, v0z, v10, v11, v12, v13, v14, v15, v16, v1z, v20, v21, v22, v23, v24, v2z, v30, v31, v32, v33, v34, v3z]) rfl ?_
        intro W hW
        clear v00 v01 v02 v03 v04 v0z v10 v11 v12 v13 v14 v15 v16 v1z v20 v21 v22 v23 v24 v2z v30 v31 v32 v33 v34 v3z
        have z0_ := z0.out; have z1_ := z1.out; have z2_ := z2.out; have z3_ := z3.out; have z4_ := z4.out; have z5_ := z5.out; have z6_ := z6.out; have z7_ := z7.out; have z8_ := z8.out; have hzb_ := hzb.out
        have eF : Fr Wb W (fun k => w.heap.size ≤ k) := by rw [hW]; (repeat (first | with_reducible refine Fr.setCell ?_ _ (fun _ => by simp <;> omega) _ | with_reducible refine Fr.alloc ?_ _ | with_reducible refine Fr.drew ?_)); exact Fr.refl _ _
        exact pat_none (by rw [HPV.out, hz1.out]; rfl) rfl (hB.out.then_ eF (fun k h hl => by (try simp only at h); omega))
theorem patI_all {B : Nat} {o : JOp} (hb : bulkJ (B + 1) o.value ≤ 4194304) (hk : 1 ≤ o.kind ∧ o.kind ≤ 4) : ∀ way : List ByteArray, (∀ s ∈ way, s.size ≤ 1000) → PatI B o way
 | [], _ => patI_nil hb hk
 | s :: r, h => patI_cons hb hk (h s (by simp)) (patI_all hb hk r (fun x hx => h x (by simp [hx])))
noncomputable def opOk (o : JOp) : Bool := o.way.all textB && (inB o.kind 1 4 && (decide ((o.way.length : Int) ≤ 6) && (jsonOk o.value && (o.kind != 2 || eqv o.value J.null))))
theorem null_K {m : Nat} {w : World} : (tJ (m + 1)).K w J.null [.int .i64 0, .int .i64 0, .string ByteArray.empty, .slice none 0 0, .slice none 0 0] :=
 tJ_K.2 ⟨none, 0, none, 0, rfl, Nat.zero_le _, ⟨Nat.le_refl _, C_nil _⟩, Nat.le_refl _, C_nil _⟩
theorem bytes_nil {s : ByteArray} : (s.toList == []) = true ↔ s = ByteArray.empty := by
 have : (s.toList == ByteArray.empty.toList) = true ↔ s = ByteArray.empty := bytes_eq
 simpa using this
set_option maxRecDepth 100000 in
theorem impl_isZero {m : Nat} (x : J) (cs : List Value) (w : World) (hk : (tJ (m + 1)).K w x cs) :
  Calls Tryz.prog 51 #[.agg cs.toArray] w fun e w' => e = .returned (.bool (eqv x J.null)) ∧ Below w.heap.size w w' := by
 obtain ⟨A1, c1, A2, c2, rfl, hs, ⟨hc1, hr1⟩, hc2, hr2⟩ := tJ_K.1 hk
 clear hk
 have hm1 := hr1.1
 have hm2 := hr2.1
 clear hr1 hr2
 have hB := Hd.mk (below_alloc (Below.refl w.heap.size w) (Obj.cells #[.int .i64 x.kind, .int .i64 x.n, .string x.s, .slice A1 x.list.length c1, .slice A2 x.names.length c2] 32))
 go_enter Tryz.func51, Tryz.ntmps51
 cases h0 : (x.kind == 0)
 ·have HN := Hd.mk (eqv_no (a := x) (b := J.null) (fun h => by rw [h] at h0; simp [J.null] at h0))
  go_wp2_with fail
  go_ret
  exact ⟨by rw [HN.out]; rfl, by exact hB.out⟩
 cases h1 : (x.n == 0)
 ·have HN := Hd.mk (eqv_no (a := x) (b := J.null) (fun h => by rw [h] at h1; simp [J.null] at h1))
  go_wp2_with fail
  go_ret
  exact ⟨by rw [HN.out]; rfl, by exact hB.out⟩
 cases h2 : (x.s.toList == [])
 ·have HN := Hd.mk (eqv_no (a := x) (b := J.null) (fun h => by rw [h] at h2; simp [J.null] at h2))
  go_wp2_with fail
  go_ret
  exact ⟨by rw [HN.out]; rfl, by exact hB.out⟩
 cases h3 : ((x.list.length : Int) == 0)
 ·have HN := Hd.mk (eqv_no (a := x) (b := J.null) (fun h => by rw [h] at h3; simp [J.null] at h3))
  go_wp2_with fail
  go_ret
  exact ⟨by rw [HN.out]; rfl, by exact hB.out⟩
 cases h4 : ((x.names.length : Int) == 0)
 ·have HN := Hd.mk (eqv_no (a := x) (b := J.null) (fun h => by rw [h] at h4; simp [J.null] at h4))
  go_wp2_with fail
  go_ret
  exact ⟨by rw [HN.out]; rfl, by exact hB.out⟩
 have HN := Hd.mk (eqv_iff.2 (show x = J.null from J_ext (by simpa [J.null] using h0) (by simpa [J.null] using h1) (bytes_nil.1 h2) (List.eq_nil_of_length_eq_zero (by have := beq_iff_eq.1 h3; omega)) (List.eq_nil_of_length_eq_zero (by have := beq_iff_eq.1 h4; omega))))
 go_wp2_with fail
 go_ret
 exact ⟨by rw [HN.out]; rfl, by exact hB.out⟩
set_option maxRecDepth 100000 in
theorem impl_OpOk {m : Nat} (x : JOp) (cs : List Value) (w : World) (hk : (tOp (m + 1)).K w x cs) :
  Calls Tryz.prog 31 #[.agg cs.toArray] w fun e w' => e = .returned (.bool (opOk x)) ∧ Below w.heap.size w w' := by
 obtain ⟨A1, c1, _, rfl, ⟨hc1, hr1⟩, hj⟩ := tOp_K.1 hk
 have HJ := hj
 obtain ⟨A2, c2, A3, c3, rfl, hs, ⟨hc2, hr2⟩, hc3, hr3⟩ := tJ_K.1 hj
 clear hk hj
 have hm1 := hr1.1
 have HR := Hd.mk hr1; clear hr1 hr2 hr3
 replace HJ := Hd.mk HJ
 have hB := Hd.mk (below_alloc (Below.refl w.heap.size w) (Obj.cells #[.int .i64 x.kind, .slice A1 x.way.length c1, .int .i64 x.value.kind, .int .i64 x.value.n, .string x.value.s, .slice A2 x.value.list.length c2, .slice A3 x.value.names.length c3] 37))
 have b0 := Blk.new w #[.int .i64 x.kind, .slice A1 x.way.length c1, .int .i64 x.value.kind, .int .i64 x.value.n, .string x.value.s, .slice A2 x.value.list.length c2, .slice A3 x.value.names.length c3] 37
 go_enter Tryz.func31, Tryz.ntmps31
 go_wp2_with fail
 go_loopw [8] (fun i wr => ∃ k : Nat, k ≤ x.way.length ∧ i = .int .i64 k ∧ Hd ((x.way.take k).all textB = true) ∧ Hd (Below w.heap.size w wr) ∧ Blk wr w.heap.size #[.int .i64 x.kind, .slice A1 x.way.length c1, .int .i64 x.value.kind, .int .i64 x.value.n, .string x.value.s, .slice A2 x.value.list.length c2, .slice A3 x.value.names.length c3] 37) (fun i _ => x.way.length - (intOf i).toNat)
 case atStart => exact ⟨0, Nat.zero_le _, rfl, ⟨rfl⟩, hB, b0⟩
 case round =>
  clear hB b0
  obtain ⟨k, hk, rfl, HA, hB, b0⟩ := hrel
  have f0 : wr.cell? ⟨w.heap.size, 0, none⟩ = some (.int .i64 x.kind) := b0.cell 0 rfl
  have f1 : wr.cell? ⟨w.heap.size, 1, none⟩ = some (.slice A1 x.way.length c1) := b0.cell 1 rfl
  have f2 : wr.cell? ⟨w.heap.size, 2, none⟩ = some (.int .i64 x.value.kind) := b0.cell 2 rfl
  have f3 : wr.cell? ⟨w.heap.size, 3, none⟩ = some (.int .i64 x.value.n) := b0.cell 3 rfl
  have f4 : wr.cell? ⟨w.heap.size, 4, none⟩ = some (.string x.value.s) := b0.cell 4 rfl
  have f5 : wr.cell? ⟨w.heap.size, 5, none⟩ = some (.slice A2 x.value.list.length c2) := b0.cell 5 rfl
  have f6 : wr.cell? ⟨w.heap.size, 6, none⟩ = some (.slice A3 x.value.names.length c3) := b0.cell 6 rfl
  by_cases hlt : k < x.way.length
  ·obtain ⟨ad, rfl, hx, hsz⟩ := C_str_at HR.out hB.out k hlt
   have HA2 := Hd.mk (all_take textB x.way k hlt HA.out)
   go_wp2_with fail
   refine (impl_textOk _ _ hsz).mono ?_
   rintro e w9 ⟨rfl, rfl⟩
   cases hb : textB x.way[k]
   ·have HN := Hd.mk (show opOk x = false by rw [opOk, all_false textB x.way (k + 1) (by rw [HA2.out]; exact hb)]; rfl)
    go_wp2_with fail
    go_ret
    exact ⟨by rw [HN.out]; rfl, hB.out⟩
   ·have HN := Hd.mk hb
    go_wp2_with fail
    clear f0 f1 f2 f3 f4 f5 f6
    go_roundw
    case rel => exact ⟨k + 1, by omega, by go_num, ⟨by rw [HA2.out]; exact HN.out⟩, hB, b0⟩
    case measure => simp [intOf]; omega
  ·obtain rfl : k = x.way.length := by omega
   have HW := Hd.mk (show x.way.all textB = true by have := HA.out; rwa [List.take_length] at this)
   go_wp2_with fail
   refine (impl_within _ _ _ _).mono ?_
   rintro e w2 ⟨rfl, rfl⟩
   have HE := Hd.mk (show opOk x = (inB x.kind 1 4 && (decide ((x.way.length : Int) ≤ 6) && (jsonOk x.value && (x.kind != 2 || eqv x.value J.null)))) by rw [opOk, HW.out]; rfl)
   cases h1 : inB x.kind 1 4
   ·have HN := Hd.mk (show opOk x = false by rw [HE.out, h1]; rfl)
    go_wp2_with fail
    go_ret
    exact ⟨by rw [HN.out]; rfl, by exact hB.out⟩
   replace HE := Hd.mk (show opOk x = (decide ((x.way.length : Int) ≤ 6) && (jsonOk x.value && (x.kind != 2 || eqv x.value J.null))) by rw [HE.out, h1]; rfl)
   clear h1
   by_cases h2 : (x.way.length : Int) ≤ 6
   rotate_left
   ·have HN := Hd.mk (show opOk x = false by rw [HE.out, decide_eq_false h2]; rfl)
    go_wp2_with fail
    go_ret
    exact ⟨by rw [HN.out]; rfl, by exact hB.out⟩
   replace HE := Hd.mk (show opOk x = (jsonOk x.value && (x.kind != 2 || eqv x.value J.null)) by rw [HE.out, decide_eq_true h2]; rfl)
   go_wp2_with fail
   refine (impl_JsonOk x.value _ _ ((tJ (m + 1)).K_below hB.out HJ.out)).mono ?_
   rintro e w3 ⟨rfl, hX⟩
   clear f0 f1 f2 f3 f4 f5 f6
   replace b0 := b0.below hX
   replace hB := Hd.mk (below_then hB.out hX)
   clear hX
   have f0 : w3.cell? ⟨w.heap.size, 0, none⟩ = some (.int .i64 x.kind) := b0.cell 0 rfl
   have f1 : w3.cell? ⟨w.heap.size, 1, none⟩ = some (.slice A1 x.way.length c1) := b0.cell 1 rfl
   have f2 : w3.cell? ⟨w.heap.size, 2, none⟩ = some (.int .i64 x.value.kind) := b0.cell 2 rfl
   have f3 : w3.cell? ⟨w.heap.size, 3, none⟩ = some (.int .i64 x.value.n) := b0.cell 3 rfl
   have f4 : w3.cell? ⟨w.heap.size, 4, none⟩ = some (.string x.value.s) := b0.cell 4 rfl
   have f5 : w3.cell? ⟨w.heap.size, 5, none⟩ = some (.slice A2 x.value.list.length c2) := b0.cell 5 rfl
   have f6 : w3.cell? ⟨w.heap.size, 6, none⟩ = some (.slice A3 x.value.names.length c3) := b0.cell 6 rfl
   cases h1 : jsonOk x.value
   ·have HN := Hd.mk (show opOk x = false by rw [HE.out, h1]; rfl)
    go_wp2_with fail
    go_ret
    exact ⟨by rw [HN.out]; rfl, by exact hB.out⟩
   replace HE := Hd.mk (show opOk x = (x.kind != 2 || eqv x.value J.null) by rw [HE.out, h1]; rfl)
   clear h1
   cases h3 : (x.kind != 2)
   case true =>
    have HN := Hd.mk (show opOk x = true by rw [HE.out, h3]; rfl)
    go_wp2_with fail
    go_ret
    exact ⟨by rw [HN.out]; rfl, hB.out⟩
   replace HE := Hd.mk (show opOk x = eqv x.value J.null by rw [HE.out, h3]; rfl)
   go_wp2_with fail
   refine (impl_isZero x.value _ _ ((tJ (m + 1)).K_below hB.out HJ.out)).mono ?_
   rintro e w4 ⟨rfl, hX⟩
   replace hB := Hd.mk (below_then hB.out hX)
   clear hX
   go_wp2_with fail
   go_ret
   exact ⟨by rw [HE.out]; rfl, hB.out⟩
set_option maxRecDepth 100000 in
theorem spec_OpOk {m : Nat} (x : JOp) (cs : List Value) (w : World) (hk : (tOp (m + 1)).K w x cs) :
  Calls Tryz.prog 25 #[.agg cs.toArray] w fun e w' => e = .returned (.bool (opOk x)) ∧ Below w.heap.size w w' := by
 obtain ⟨A1, c1, _, rfl, ⟨hc1, hr1⟩, hj⟩ := tOp_K.1 hk
 have HJ := hj
 obtain ⟨A2, c2, A3, c3, rfl, hs, ⟨hc2, hr2⟩, hc3, hr3⟩ := tJ_K.1 hj
 clear hk hj
 have hm1 := hr1.1
 have HR := Hd.mk hr1; clear hr1 hr2 hr3
 replace HJ := Hd.mk HJ
 have hB := Hd.mk (below_alloc (Below.refl w.heap.size w) (Obj.cells #[.int .i64 x.kind, .slice A1 x.way.length c1, .int .i64 x.value.kind, .int .i64 x.value.n, .string x.value.s, .slice A2 x.value.list.length c2, .slice A3 x.value.names.length c3] 37))
 have b0 := Blk.new w #[.int .i64 x.kind, .slice A1 x.way.length c1, .int .i64 x.value.kind, .int .i64 x.value.n, .string x.value.s, .slice A2 x.value.list.length c2, .slice A3 x.value.names.length c3] 37
 go_enter Tryz.func25, Tryz.ntmps25
 go_wp2_with fail
 generalize w.alloc (Obj.cells #[Value.int IntKind.i64 x.kind, Value.slice A1 x.way.length c1, Value.int IntKind.i64 x.value.kind, Value.int IntKind.i64 x.value.n, Value.string x.value.s, Value.slice A2 x.value.list.length c2, Value.slice A3 x.value.names.length c3] 37) = W0 at hB b0 ⊢
 have f0 : W0.cell? ⟨w.heap.size, 0, none⟩ = some (.int .i64 x.kind) := b0.cell 0 rfl
 have f1 : W0.cell? ⟨w.heap.size, 1, none⟩ = some (.slice A1 x.way.length c1) := b0.cell 1 rfl
 have f2 : W0.cell? ⟨w.heap.size, 2, none⟩ = some (.int .i64 x.value.kind) := b0.cell 2 rfl
 have f3 : W0.cell? ⟨w.heap.size, 3, none⟩ = some (.int .i64 x.value.n) := b0.cell 3 rfl
 have f4 : W0.cell? ⟨w.heap.size, 4, none⟩ = some (.string x.value.s) := b0.cell 4 rfl
 have f5 : W0.cell? ⟨w.heap.size, 5, none⟩ = some (.slice A2 x.value.list.length c2) := b0.cell 5 rfl
 have f6 : W0.cell? ⟨w.heap.size, 6, none⟩ = some (.slice A3 x.value.names.length c3) := b0.cell 6 rfl
 refine (spec_l1In _ _ _ _).mono ?_
 rintro e w2 ⟨rfl, rfl⟩
 have HE := Hd.mk (show opOk x = (inB x.kind 1 4 && (decide ((x.way.length : Int) ≤ 6) && (jsonOk x.value && (x.way.all textB && (x.kind != 2 || eqv x.value J.null))))) by
  rw [opOk]
  cases x.way.all textB <;> cases inB x.kind 1 4 <;> cases decide ((x.way.length : Int) ≤ 6) <;> cases jsonOk x.value <;> rfl)
 cases h1 : inB x.kind 1 4
 ·have HN := Hd.mk (show opOk x = false by rw [HE.out, h1]; rfl)
  go_wp2_with fail
  go_ret
  exact ⟨by rw [HN.out]; rfl, by exact hB.out⟩
 replace HE := Hd.mk (show opOk x = (decide ((x.way.length : Int) ≤ 6) && (jsonOk x.value && (x.way.all textB && (x.kind != 2 || eqv x.value J.null)))) by rw [HE.out, h1]; rfl)
 clear h1
 by_cases h2 : (x.way.length : Int) ≤ 6
 rotate_left
 ·have HN := Hd.mk (show opOk x = false by rw [HE.out, decide_eq_false h2]; rfl)
  go_wp2_with fail
  go_ret
  exact ⟨by rw [HN.out]; rfl, by exact hB.out⟩
 replace HE := Hd.mk (show opOk x = (jsonOk x.value && (x.way.all textB && (x.kind != 2 || eqv x.value J.null))) by rw [HE.out, decide_eq_true h2]; rfl)
 go_wp2_with fail
 refine (spec_JsonOk x.value _ _ ((tJ (m + 1)).K_below hB.out HJ.out)).mono ?_
 rintro e w3 ⟨rfl, hX⟩
 clear f0 f1 f2 f3 f4 f5 f6
 replace b0 := b0.below hX
 replace hB := Hd.mk (below_then hB.out hX)
 clear hX
 have f0 : w3.cell? ⟨w.heap.size, 0, none⟩ = some (.int .i64 x.kind) := b0.cell 0 rfl
 have f1 : w3.cell? ⟨w.heap.size, 1, none⟩ = some (.slice A1 x.way.length c1) := b0.cell 1 rfl
 have f2 : w3.cell? ⟨w.heap.size, 2, none⟩ = some (.int .i64 x.value.kind) := b0.cell 2 rfl
 have f3 : w3.cell? ⟨w.heap.size, 3, none⟩ = some (.int .i64 x.value.n) := b0.cell 3 rfl
 have f4 : w3.cell? ⟨w.heap.size, 4, none⟩ = some (.string x.value.s) := b0.cell 4 rfl
 have f5 : w3.cell? ⟨w.heap.size, 5, none⟩ = some (.slice A2 x.value.list.length c2) := b0.cell 5 rfl
 have f6 : w3.cell? ⟨w.heap.size, 6, none⟩ = some (.slice A3 x.value.names.length c3) := b0.cell 6 rfl
 cases h1 : jsonOk x.value
 ·have HN := Hd.mk (show opOk x = false by rw [HE.out, h1]; rfl)
  go_wp2_with fail
  go_ret
  exact ⟨by rw [HN.out]; rfl, by exact hB.out⟩
 replace HE := Hd.mk (show opOk x = (x.way.all textB && (x.kind != 2 || eqv x.value J.null)) by rw [HE.out, h1]; rfl)
 clear h1
 go_wp2_with fail
 clear f0 f1 f2 f3 f4 f5 f6
 go_loopw [3] (fun i wr => ∃ k : Nat, k ≤ x.way.length ∧ i = .int .i64 k ∧ Hd ((x.way.take k).all textB = true) ∧ Hd (Below w.heap.size w wr) ∧ Blk wr w.heap.size #[.int .i64 x.kind, .slice A1 x.way.length c1, .int .i64 x.value.kind, .int .i64 x.value.n, .string x.value.s, .slice A2 x.value.list.length c2, .slice A3 x.value.names.length c3] 37) (fun i _ => x.way.length - (intOf i).toNat)
 case atStart => exact ⟨0, Nat.zero_le _, rfl, ⟨rfl⟩, hB, b0⟩
 case round =>
  clear hB b0
  obtain ⟨k, hk, rfl, HA, hB, b0⟩ := hrel
  have f0 : wr.cell? ⟨w.heap.size, 0, none⟩ = some (.int .i64 x.kind) := b0.cell 0 rfl
  have f1 : wr.cell? ⟨w.heap.size, 1, none⟩ = some (.slice A1 x.way.length c1) := b0.cell 1 rfl
  have f2 : wr.cell? ⟨w.heap.size, 2, none⟩ = some (.int .i64 x.value.kind) := b0.cell 2 rfl
  have f3 : wr.cell? ⟨w.heap.size, 3, none⟩ = some (.int .i64 x.value.n) := b0.cell 3 rfl
  have f4 : wr.cell? ⟨w.heap.size, 4, none⟩ = some (.string x.value.s) := b0.cell 4 rfl
  have f5 : wr.cell? ⟨w.heap.size, 5, none⟩ = some (.slice A2 x.value.list.length c2) := b0.cell 5 rfl
  have f6 : wr.cell? ⟨w.heap.size, 6, none⟩ = some (.slice A3 x.value.names.length c3) := b0.cell 6 rfl
  by_cases hlt : k < x.way.length
  ·obtain ⟨ad, rfl, hx, hsz⟩ := C_str_at HR.out hB.out k hlt
   have HA2 := Hd.mk (all_take textB x.way k hlt HA.out)
   go_wp2_with fail
   refine (spec_l1Text _ _ hsz).mono ?_
   rintro e w9 ⟨rfl, rfl⟩
   cases hb : textB x.way[k]
   ·have HN := Hd.mk (show opOk x = false by rw [HE.out, all_false textB x.way (k + 1) (by rw [HA2.out]; exact hb)]; rfl)
    go_wp2_with fail
    go_ret
    exact ⟨by rw [HN.out]; rfl, hB.out⟩
   ·have HN := Hd.mk hb
    go_wp2_with fail
    clear f0 f1 f2 f3 f4 f5 f6
    go_roundw
    case rel => exact ⟨k + 1, by omega, by go_num, ⟨by rw [HA2.out]; exact HN.out⟩, hB, b0⟩
    case measure => simp [intOf]; omega
  ·obtain rfl : k = x.way.length := by omega
   have HW := Hd.mk (show x.way.all textB = true by have := HA.out; rwa [List.take_length] at this)
   have HE2 := Hd.mk (show opOk x = (x.kind != 2 || eqv x.value J.null) by rw [HE.out, HW.out]; rfl)
   cases h3 : (x.kind != 2)
   case true =>
    have HN := Hd.mk (show opOk x = true by rw [HE2.out, h3]; rfl)
    go_wp2_with fail
    go_ret
    exact ⟨by rw [HN.out]; rfl, hB.out⟩
   have HE3 := Hd.mk (show opOk x = eqv x.value J.null by rw [HE2.out, h3]; rfl)
   go_wp2_with fail
   refine (same_all (m + 1) x.value J.null _ _ _ ((tJ (m + 1)).K_below hB.out HJ.out) null_K).mono ?_
   rintro e w4 ⟨rfl, hX⟩
   replace hB := Hd.mk (below_then hB.out hX)
   clear hX
   go_wp2_with fail
   go_ret
   exact ⟨by rw [HE3.out]; rfl, hB.out⟩
noncomputable def patchO (j : J) (o : JOp) : Option J :=
 if (jsonOk j && opOk o) = true then (match patV o o.way j with
  | some z => if jsonOk z = true then some z else none
  | none => none) else none
noncomputable def patchJ (j : J) (o : JOp) : J := (patchO j o).getD J.null
noncomputable def patchB (j : J) (o : JOp) : Bool := (patchO j o).isSome
theorem patchO_bad {j : J} {o : JOp} (h : (jsonOk j && opOk o) = false) : patchO j o = none := by unfold patchO; rw [if_neg (by rw [h]; decide)]
theorem patchO_none {j : J} {o : JOp} (h : (jsonOk j && opOk o) = true) (h2 : patV o o.way j = none) : patchO j o = none := by unfold patchO; rw [if_pos h, h2]
theorem patchO_no {j z : J} {o : JOp} (h : (jsonOk j && opOk o) = true) (h2 : patV o o.way j = some z) (h3 : jsonOk z = false) : patchO j o = none := by unfold patchO; rw [if_pos h, h2]; simp [h3]
theorem patchO_yes {j z : J} {o : JOp} (h : (jsonOk j && opOk o) = true) (h2 : patV o o.way j = some z) (h3 : jsonOk z = true) : patchO j o = some z := by unfold patchO; rw [if_pos h, h2]; simp [h3]
noncomputable def patchL : J → List JOp → Option J
 | j, [] => some j
 | j, o :: l => match patchO j o with
  | some z => patchL z l
  | none => none
noncomputable def patchAllO (j : J) (l : List JOp) : Option J := if (jsonOk j && decide ((l.length : Int) ≤ 40)) = true then patchL j l else none
theorem opOk_way {o : JOp} (h : opOk o = true) : o.way.length ≤ 6 ∧ jsonOk o.value = true ∧ 1 ≤ o.kind ∧ o.kind ≤ 4 ∧ ∀ s ∈ o.way, textB s = true := by
 unfold opOk at h
 simp only [Bool.and_eq_true, decide_eq_true_eq] at h
 obtain ⟨h1, h2, h3, h4, h5⟩ := h
 have hk := inB_iff.1 h2
 exact ⟨by omega, h4, hk.1, hk.2, fun s hs => List.all_eq_true.1 h1 s hs⟩
end Go.Proofs.YtegcecnjmimbiaaGreatDoor.X
namespace Go.Proofs.YtegcecnjmimbiaaGreatDoor.X
open Go.RowKit Go.Sort
set_option linter.unusedVariables false
set_option linter.unusedSimpArgs false
open Ty
set_option maxHeartbeats 4000000 in
set_option maxRecDepth 100000 in
theorem impl_Patch {B : Nat} (j : J) (cs : List Value) (o : JOp) (co : List Value) (w : World) (hj : (tJ (B + 1)).K w j cs) (ho : (tOp (B + 1)).K w o co) (hT : EnvT w) (hE : EnvE w) :
  Calls Tryz.prog 10 #[.agg cs.toArray, .agg co.toArray] w fun e w' => ∃ cs', e = .returned (.tuple #[.agg cs'.toArray, .bool (patchB j o)]) ∧ (tJ (B + 7)).O w' (fun k => w.heap.size ≤ k) (patchJ j o) cs' ∧ Below w.heap.size w w' := by
 have HKJJ := Hd.mk hj
 obtain ⟨A1, c1, A2, c2, rfl, hsj, ⟨hc1, hr1⟩, hc2, hr2⟩ := tJ_K.1 hj
 clear hr1 hr2 hj
 obtain ⟨AW, cW, _, rfl, ⟨hcw, hrw⟩, hjo⟩ := tOp_K.1 ho
 have HKJ := Hd.mk hjo
 obtain ⟨A3, c3, A4, c4, rfl, hso, ⟨hc3, hr3⟩, hc4, hr4⟩ := tJ_K.1 hjo
 have HKO := Hd.mk ho
 have HRW := Hd.mk hrw; have HCW := Hd.mk hcw
 clear hr3 hr4 ho hjo hrw hcw
 have HT := Hd.mk hT; have HE := Hd.mk hE
 clear hT hE
 have hB := Hd.mk (Below.refl w.heap.size w)
 go_enter Tryz.func10, Tryz.ntmps10
 go_wp2_with fail
 apply calls_gen; intro W1 hW
 have hz_ : w.heap.size + 3 ≤ W1.heap.size := by rw [hW]; simp
 have hE : Below w.heap.size w W1 := by rw [hW]; (repeat (first | with_reducible refine below_alloc ?_ _ | with_reducible refine below_drew ?_)); exact Below.refl _ _
 have hB := hB.th hE
 have b0 := Hd.mk (show Blk W1 (w.heap.size) #[.int .i64 j.kind, .int .i64 j.n, .string j.s, .slice A1 j.list.length c1, .slice A2 j.names.length c2] 32 by rw [hW]; first | exact (((Blk.new _ _ _).alloc _).alloc _) | (simpa using (((Blk.new _ _ _).alloc _).alloc _)))
 have b1 := Hd.mk (show Blk W1 (w.heap.size + 1) #[.int .i64 o.kind, .slice AW o.way.length cW, .int .i64 o.value.kind, .int .i64 o.value.n, .string o.value.s, .slice A3 o.value.list.length c3, .slice A4 o.value.names.length c4] 37 by rw [hW]; first | exact ((Blk.new1 _ _ _ _).alloc _) | (simpa using ((Blk.new1 _ _ _ _).alloc _)))
 have b2 := Hd.mk (show Blk W1 (w.heap.size + 1 + 1) #[.int .i64 0, .int .i64 0, .string ⟨#[]⟩, .slice none 0 0, .slice none 0 0] 32 by rw [hW]; first | exact (Blk.new2 _ _ _ _ _) | (simpa using (Blk.new2 _ _ _ _ _)))
 clear hW hE
 have z1 := Hd.mk hz_; clear hz_
 refine (impl_JsonOk j _ _ (Ty.K_below _ hB.out HKJJ.out)).mono ?_
 rintro e w2 ⟨rfl, hX⟩
 have b0 := b0.dn hX
 have b1 := b1.dn hX
 have b2 := b2.dn hX
 have hB := hB.th hX
 have hz_ := hX.size
 clear hX
 have z2 := Hd.mk hz_; clear hz_
 cases hja : jsonOk j
 ·have HP := Hd.mk (show patchO j o = none from patchO_bad (by rw [hja]; rfl))
  obtain ⟨v00, v01, v02, v03, v04, v0z⟩ := blk5 b0.out
  obtain ⟨v10, v11, v12, v13, v14, v15, v16, v1z⟩ := blk7 b1.out
  obtain ⟨v20, v21, v22, v23, v24, v2z⟩ := blk5 b2.out
  go_wp2_with fail
  refine bodyPost_retW (v := .tuple #[.agg #[.int .i64 0, .int .i64 0, .string ⟨#[]⟩, .slice none 0 0, .slice none 0 0], .bool false]) (by simp [results, Tryz.results10, go_sem, v00, v01, v02, v03, v04, v0z, v10, v11, v12, v13, v14, v15, v16, v1z, v20, v21, v22, v23, v24, v2z]) rfl ?_
  intro W hW
  clear v00 v01 v02 v03 v04 v0z v10 v11 v12 v13 v14 v15 v16 v1z v20 v21 v22 v23 v24 v2z
  have eF : Fr w2 W (fun k => w.heap.size ≤ k) := by rw [hW]; (repeat (first | with_reducible refine Fr.setCell ?_ _ (fun _ => by simp <;> omega) _ | with_reducible refine Fr.alloc ?_ _ | with_reducible refine Fr.drew ?_)); exact Fr.refl _ _
  exact ⟨[Value.int IntKind.i64 0, .int .i64 0, .string ⟨#[]⟩, .slice none 0 0, .slice none 0 0], by unfold patchB; rw [HP.out]; rfl, by unfold patchJ; rw [HP.out]; exact ZJ (B + 6) _ _, below_frS hB.out eF (fun k h => h)⟩
 ·obtain ⟨v00, v01, v02, v03, v04, v0z⟩ := blk5 b0.out
  obtain ⟨v10, v11, v12, v13, v14, v15, v16, v1z⟩ := blk7 b1.out
  obtain ⟨v20, v21, v22, v23, v24, v2z⟩ := blk5 b2.out
  go_wp2_with fail
  clear v00 v01 v02 v03 v04 v0z v10 v11 v12 v13 v14 v15 v16 v1z v20 v21 v22 v23 v24 v2z
  apply calls_gen; intro W3 hW
  have hz_ : w2.heap.size ≤ W3.heap.size := by rw [hW]; simp
  have hE : Below w2.heap.size w2 W3 := by rw [hW]; (repeat (first | with_reducible refine below_alloc ?_ _ | with_reducible refine below_drew ?_)); exact Below.refl _ _
  have hB := hB.th hE
  have b0 := b0.dn hE
  have b1 := b1.dn hE
  have b2 := b2.dn hE
  clear hW hE
  have z3 := Hd.mk hz_; clear hz_
  refine (impl_OpOk o _ _ (Ty.K_below _ hB.out HKO.out)).mono ?_
  rintro e w4 ⟨rfl, hX⟩
  have b0 := b0.dn hX
  have b1 := b1.dn hX
  have b2 := b2.dn hX
  have hB := hB.th hX
  have hz_ := hX.size
  clear hX
  have z4 := Hd.mk hz_; clear hz_
  cases hob : opOk o
  ·have HP := Hd.mk (show patchO j o = none from patchO_bad (by rw [hja, hob]; rfl))
   obtain ⟨v00, v01, v02, v03, v04, v0z⟩ := blk5 b0.out
   obtain ⟨v10, v11, v12, v13, v14, v15, v16, v1z⟩ := blk7 b1.out
   obtain ⟨v20, v21, v22, v23, v24, v2z⟩ := blk5 b2.out
   go_wp2_with fail
   refine bodyPost_retW (v := .tuple #[.agg #[.int .i64 0, .int .i64 0, .string ⟨#[]⟩, .slice none 0 0, .slice none 0 0], .bool false]) (by simp [results, Tryz.results10, go_sem, v00, v01, v02, v03, v04, v0z, v10, v11, v12, v13, v14, v15, v16, v1z, v20, v21, v22, v23, v24, v2z]) rfl ?_
   intro W hW
   clear v00 v01 v02 v03 v04 v0z v10 v11 v12 v13 v14 v15 v16 v1z v20 v21 v22 v23 v24 v2z
   have eF : Fr w4 W (fun k => w.heap.size ≤ k) := by rw [hW]; (repeat (first | with_reducible refine Fr.setCell ?_ _ (fun _ => by simp <;> omega) _ | with_reducible refine Fr.alloc ?_ _ | with_reducible refine Fr.drew ?_)); exact Fr.refl _ _
   exact ⟨[Value.int IntKind.i64 0, .int .i64 0, .string ⟨#[]⟩, .slice none 0 0, .slice none 0 0], by unfold patchB; rw [HP.out]; rfl, by unfold patchJ; rw [HP.out]; exact ZJ (B + 6) _ _, below_frS hB.out eF (fun k h => h)⟩
  ·have HOK := Hd.mk (show (jsonOk j && opOk o) = true by rw [hja, hob]; rfl)
   have HOW := Hd.mk (opOk_way hob)
   have HBO := Hd.mk (show bulkJ (B + 1) o.value ≤ 4194304 by have hz_ : sizeN 6 o.value ≤ 400 := of_decide_eq_true (show decide (sizeN 6 o.value ≤ 400) = true from HOW.out.2.1); have h1 := bulk_size (B + 1) 6 o.value hz_; omega)
   clear hja hob
   obtain ⟨v00, v01, v02, v03, v04, v0z⟩ := blk5 b0.out
   obtain ⟨v10, v11, v12, v13, v14, v15, v16, v1z⟩ := blk7 b1.out
   obtain ⟨v20, v21, v22, v23, v24, v2z⟩ := blk5 b2.out
   go_wp2_with fail
   clear v00 v01 v02 v03 v04 v0z v10 v11 v12 v13 v14 v15 v16 v1z v20 v21 v22 v23 v24 v2z
   have HZJ := Hd.mk (show sizeN (5 + 1) j ≤ 400 from of_decide_eq_true (show decide (sizeN 6 j ≤ 400) = true from by have h_ := HOK.out; simp only [Bool.and_eq_true] at h_; exact h_.1))
   have HKL := Hd.mk ((tJ_le (by omega : B + 1 ≤ B + o.way.length + 1)).K _ _ _ HKJJ.out)
   have HBL := Hd.mk (show bulkJ (B + o.way.length + 1) j ≤ 4194304 by have h1 := bulk_size (B + o.way.length + 1) 6 j HZJ.out; have h2 : sizeN 6 j ≤ 400 := HZJ.out; omega)
   obtain ⟨v00, v01, v02, v03, v04, v0z⟩ := blk5 b0.out
   obtain ⟨v10, v11, v12, v13, v14, v15, v16, v1z⟩ := blk7 b1.out
   obtain ⟨v20, v21, v22, v23, v24, v2z⟩ := blk5 b2.out
   obtain ⟨rv00, rv01, rv02, rv03, rv04, rv10, rv11⟩ := reg7 v00 v01 v02 v03 v04 v10 v11
   obtain ⟨rv12, rv13, rv14, rv15, rv16⟩ := reg5 v12 v13 v14 v15 v16
   obtain ⟨rv20, rv21, rv22, rv23, rv24⟩ := reg5 v20 v21 v22 v23 v24
   refine region_mixT (.q 0 (.q 4 (.p 2 (.q 3 (.br 1 9 (.br 5 9 (.p 6 (.p 7 (.p 8 (.b 9 .fin)))) (.b 5 (.p 6 (.p 7 (.p 8 .fin))))) (.b 1 (.b 5 (.p 6 (.p 7 (.p 8 .fin)))))))))) [10, 11] (by kernel_rfl) (by kernel_rfl) (fun _ _ _ _ _ h => h) ?_
   refine genT ?_
   intro W5 hW
   have hS := Hd.mk (show Below w4.heap.size w4 W5 by rw [hW]; exact below_drew (Below.refl _ _))
   have hz_ : w4.heap.size ≤ W5.heap.size := by rw [hW]; simp
   have hE : Below w4.heap.size w4 W5 := by rw [hW]; (repeat (first | with_reducible refine below_alloc ?_ _ | with_reducible refine below_drew ?_)); exact Below.refl _ _
   have hB := hB.th hE
   have b0 := b0.dn hE
   have b1 := b1.dn hE
   have b2 := b2.dn hE
   clear hW hE
   have z5 := Hd.mk hz_; clear hz_
   iterate 4 ((first | refine mixT_q rfl ?_ | refine mixT_p rfl ?_); go_big_quiet_want; go_big_quiet_op; go_big_quiet_on; refine wpQuiet_nil ?_)
   refine ⟨?_, ?_⟩
   ·refine stepM_of rfl ?_ (by rfl)
    go_wp2_with fail
    apply calls_gen; intro W6 hW
    have hz_ : W5.heap.size ≤ W6.heap.size := by rw [hW]; simp
    have hE : Below W5.heap.size W5 W6 := by rw [hW]; (repeat (first | with_reducible refine below_alloc ?_ _ | with_reducible refine below_drew ?_)); exact Below.refl _ _
    have hB := hB.th hE
    replace hS := Hd.mk (below_then hS.out hE)
    have b0 := b0.dn hE
    have b1 := b1.dn hE
    have b2 := b2.dn hE
    clear hW hE
    have z6 := Hd.mk hz_; clear hz_
    refine (impl_copyJson j _ _ (Ty.K_below _ hB.out HKL.out) HBL.out).mono ?_
    rintro e w7 ⟨cy, rfl, hY, hX⟩
    have b0 := b0.dn hX
    have b1 := b1.dn hX
    have b2 := b2.dn hX
    have hB := hB.th hX
    replace hS := Hd.mk (below_then hS.out hX)
    have hz_ := hX.size
    clear hX
    have z7 := Hd.mk hz_; clear hz_
    obtain ⟨v3, v4, _, _, hcy, _, h3_, h4_, _⟩ := tJ_O.1 hY
    obtain ⟨A7, c7, rfl, _, _⟩ := R_C h3_
    obtain ⟨A8, c8, rfl, _, _⟩ := R_C h4_
    clear h3_ h4_
    subst hcy
    replace hY := Hd.mk (show (tJ (B + o.way.length + 1)).O w7 (rng W6.heap.size w7.heap.size) j _ from Ty.O_bound _ hY)
    go_wp2_with fail
    refine ⟨cls_below hS.out, ?_⟩
    refine ⟨?_, ?_⟩
    ·refine stepM_of rfl ?_ (by rfl)
     go_wp2_with fail
     apply calls_gen; intro W8 hW
     have hz_ : w7.heap.size ≤ W8.heap.size := by rw [hW]; simp
     have hE : Below w7.heap.size w7 W8 := by rw [hW]; (repeat (first | with_reducible refine below_alloc ?_ _ | with_reducible refine below_drew ?_)); exact Below.refl _ _
     have hB := hB.th hE
     replace hS := Hd.mk (below_then hS.out hE)
     have b0 := b0.dn hE
     have b1 := b1.dn hE
     have b2 := b2.dn hE
     have hY := hY.ob hE
     clear hW hE
     have z8 := Hd.mk hz_; clear hz_
     have z1_ := z1.out; have z2_ := z2.out; have z3_ := z3.out; have z4_ := z4.out; have z5_ := z5.out; have z6_ := z6.out; have z7_ := z7.out; have z8_ := z8.out
     have hBs := hB.out.size
     refine (patI_all HBO.out ⟨HOW.out.2.2.1, HOW.out.2.2.2.1⟩ o.way (fun s hs => by have := textB_size (HOW.out.2.2.2.2 s hs); omega) (rng W6.heap.size w7.heap.size) j _ _ _ _ w _ hY.out hB.out (fun k h => by have q_ := h.1; omega) HRW.out HCW.out HKO.out HT.out HE.out ⟨5, HZJ.out⟩).mono ?_
     rintro e w9 hP
     obtain ⟨ra, rb, rs, RA, RB, rn, rc, rn2, rd, ok, rfl, hX, hR⟩ := pat_open hP
     have HR := Hd.mk hR; clear hR hP
     have HR := Hd.mk (pat_T HR.out)
     have b0 := Hd.mk (b0.out.fr hX (fun h => by have q_ := h.1; have q2_ := h.2; omega))
     have b1 := Hd.mk (b1.out.fr hX (fun h => by have q_ := h.1; have q2_ := h.2; omega))
     have b2 := Hd.mk (b2.out.fr hX (fun h => by have q_ := h.1; have q2_ := h.2; omega))
     replace hS := Hd.mk (below_frS hS.out hX (fun k h => by have q_ := h.1; omega))
     have hB := Hd.mk (below_frS hB.out hX (fun k h => by have q_ := h.1; omega))
     clear hY
     have hz_ := hX.size
     clear hX
     have z9 := Hd.mk hz_; clear hz_
     go_wp2_with fail
     refine ⟨cls_below hS.out, ?_⟩
     iterate 3 (refine mixT_p rfl ?_; go_big_quiet_want; go_big_quiet_op; go_big_quiet_on; refine wpQuiet_nil ?_)
     refine mixT_b rfl ?_ (by rfl)
     go_wp2_with fail
     refine ⟨cls_below (below_alloc hS.out _), ?_⟩
     refine genT ?_; intro W9 hW
     have hz_ : w9.heap.size + 1 ≤ W9.heap.size := by rw [hW]; simp
     have hE : Below w9.heap.size w9 W9 := by rw [hW]; (repeat (first | with_reducible refine below_alloc ?_ _ | with_reducible refine below_drew ?_)); exact Below.refl _ _
     have hB := hB.th hE
     replace hS := Hd.mk (below_then hS.out hE)
     have b0 := b0.dn hE
     have b1 := b1.dn hE
     have b2 := b2.dn hE
     have b3 := Hd.mk (show Blk W9 (w9.heap.size) #[.int .i64 0, .int .i64 0, .string ⟨#[]⟩, .slice none 0 0, .slice none 0 0] 32 by rw [hW]; first | exact (Blk.new _ _ _) | (simpa using (Blk.new _ _ _)))
     have HR := Hd.mk (patT_below HR.out hE)
     clear hW hE
     have z10 := Hd.mk hz_; clear hz_
     refine mixT_fin ?_
     clear hS
     clear rv00 rv01 rv02 rv03 rv04 rv10 rv11 rv12 rv13 rv14 rv15 rv16 rv20 rv21 rv22 rv23 rv24
     clear v00 v01 v02 v03 v04 v0z v10 v11 v12 v13 v14 v15 v16 v1z v20 v21 v22 v23 v24 v2z
     obtain ⟨v00, v01, v02, v03, v04, v0z⟩ := blk5 b0.out
     obtain ⟨v10, v11, v12, v13, v14, v15, v16, v1z⟩ := blk7 b1.out
     obtain ⟨v20, v21, v22, v23, v24, v2z⟩ := blk5 b2.out
     obtain ⟨v30, v31, v32, v33, v34, v3z⟩ := blk5 b3.out
     refine tail_b rfl ?_ (by rfl)
     go_wp2_with fail
     refine mixQ_n ?_
     refine tail_b rfl ?_ (by rfl)
     go_wp2_with fail
     refine mixQ_n ?_
     refine tail_nil ?_
     refine exit_gen ?_; intro Wb hW
     clear v00 v01 v02 v03 v04 v0z v10 v11 v12 v13 v14 v15 v16 v1z v20 v21 v22 v23 v24 v2z v30 v31 v32 v33 v34 v3z
     have eF : Fr W9 Wb (fun k => k = w9.heap.size) := by rw [hW]; exact Fr.set5 _ _ _ _ _ _ _ _ _ _ _ _
     have z1_ := z1.out; have z2_ := z2.out; have z3_ := z3.out; have z4_ := z4.out; have z5_ := z5.out; have z6_ := z6.out; have z7_ := z7.out; have z8_ := z8.out; have z9_ := z9.out; have z10_ := z10.out
     have b0 := Hd.mk (b0.out.fr eF (fun h => by have hlt_ := b0.out.lt; (try simp only at h); omega))
     have b1 := Hd.mk (b1.out.fr eF (fun h => by have hlt_ := b1.out.lt; (try simp only at h); omega))
     have b2 := Hd.mk (b2.out.fr eF (fun h => by have hlt_ := b2.out.lt; (try simp only at h); omega))
     have b3 := Hd.mk (show Blk Wb (w9.heap.size) #[.int .i64 ra, .int .i64 rb, .string rs, .slice RA rn rc, .slice RB rn2 rd] 32 by rw [hW]; exact Blk.all b3.out [Value.int IntKind.i64 ra, .int .i64 rb, .string rs, .slice RA rn rc, .slice RB rn2 rd] rfl)
     have HR := Hd.mk (patT_fr HR.out eF (fun k hk hl h => by (try simp only at h); have q2_ := hk.2; rcases hk.1 with q_ | q_; omega; (have q3_ := q_.1; have q4_ := q_.2; omega)))
     have hB := Hd.mk (below_frS hB.out eF (fun k h => by (try simp only at h); omega))
     have hzb := Hd.mk eF.size
     clear hW eF
     rcases HR.out with ⟨rfl, zz, hz1, hz2⟩ | ⟨rfl, hz1⟩
     ·have hz2 := Hd.mk hz2; have hz1 := Hd.mk hz1
      obtain ⟨v00, v01, v02, v03, v04, v0z⟩ := blk5 b0.out
      obtain ⟨v10, v11, v12, v13, v14, v15, v16, v1z⟩ := blk7 b1.out
      obtain ⟨v20, v21, v22, v23, v24, v2z⟩ := blk5 b2.out
      obtain ⟨v30, v31, v32, v33, v34, v3z⟩ := blk5 b3.out
      go_wp2_with fail
      clear v00 v01 v02 v03 v04 v0z v10 v11 v12 v13 v14 v15 v16 v1z v20 v21 v22 v23 v24 v2z v30 v31 v32 v33 v34 v3z
      apply calls_gen; intro W10 hW
      have hz_ : Wb.heap.size ≤ W10.heap.size := by rw [hW]; simp
      have hE : Below Wb.heap.size Wb W10 := by rw [hW]; (repeat (first | with_reducible refine below_alloc ?_ _ | with_reducible refine below_drew ?_)); exact Below.refl _ _
      have hB := hB.th hE
      have b0 := b0.dn hE
      have b1 := b1.dn hE
      have b2 := b2.dn hE
      have b3 := b3.dn hE
      have hz2 := hz2.ob hE
      clear hW hE
      have z11 := Hd.mk hz_; clear hz_
      refine (impl_JsonOk zz _ _ (Ty.O_K _ hz2.out)).mono ?_
      rintro e w11 ⟨rfl, hX⟩
      have b0 := b0.dn hX
      have b1 := b1.dn hX
      have b2 := b2.dn hX
      have b3 := b3.dn hX
      have hz2 := hz2.ob hX
      have hB := hB.th hX
      have hz_ := hX.size
      clear hX
      have z12 := Hd.mk hz_; clear hz_
      cases hjz : jsonOk zz
      ·have HP := Hd.mk (show patchO j o = none from patchO_no HOK.out hz1.out hjz)
       obtain ⟨v00, v01, v02, v03, v04, v0z⟩ := blk5 b0.out
       obtain ⟨v10, v11, v12, v13, v14, v15, v16, v1z⟩ := blk7 b1.out
       obtain ⟨v20, v21, v22, v23, v24, v2z⟩ := blk5 b2.out
       obtain ⟨v30, v31, v32, v33, v34, v3z⟩ := blk5 b3.out
       go_wp2_with fail
       refine bodyPost_retW (v := .tuple #[.agg #[.int .i64 0, .int .i64 0, .string ⟨#[]⟩, .slice none 0 0, .slice none 0 0], .bool false]) (by simp [results, Tryz.results10, go_sem, v00, v01, v02, v03, v04, v0z, v10, v11, v12, v13, v14, v15, v16, v1z, v20, v21, v22, v23, v24, v2z, v30, v31, v32, v33, v34, v3z]) rfl ?_
       intro W hW
       clear v00 v01 v02 v03 v04 v0z v10 v11 v12 v13 v14 v15 v16 v1z v20 v21 v22 v23 v24 v2z v30 v31 v32 v33 v34 v3z
       have eF : Fr w11 W (fun k => w.heap.size ≤ k) := by rw [hW]; (repeat (first | with_reducible refine Fr.setCell ?_ _ (fun _ => by simp <;> omega) _ | with_reducible refine Fr.alloc ?_ _ | with_reducible refine Fr.drew ?_)); exact Fr.refl _ _
       exact ⟨[Value.int IntKind.i64 0, .int .i64 0, .string ⟨#[]⟩, .slice none 0 0, .slice none 0 0], by unfold patchB; rw [HP.out]; rfl, by unfold patchJ; rw [HP.out]; exact ZJ (B + 6) _ _, below_frS hB.out eF (fun k h => h)⟩
      ·have HP := Hd.mk (patchO_yes HOK.out hz1.out hjz)
       obtain ⟨v00, v01, v02, v03, v04, v0z⟩ := blk5 b0.out
       obtain ⟨v10, v11, v12, v13, v14, v15, v16, v1z⟩ := blk7 b1.out
       obtain ⟨v20, v21, v22, v23, v24, v2z⟩ := blk5 b2.out
       obtain ⟨v30, v31, v32, v33, v34, v3z⟩ := blk5 b3.out
       go_wp2_with fail
       refine bodyPost_retW (v := .tuple #[.agg #[.int .i64 ra, .int .i64 rb, .string rs, .slice RA rn rc, .slice RB rn2 rd], .bool true]) (by simp [results, Tryz.results10, go_sem, v00, v01, v02, v03, v04, v0z, v10, v11, v12, v13, v14, v15, v16, v1z, v20, v21, v22, v23, v24, v2z, v30, v31, v32, v33, v34, v3z]) rfl ?_
       intro W hW
       clear v00 v01 v02 v03 v04 v0z v10 v11 v12 v13 v14 v15 v16 v1z v20 v21 v22 v23 v24 v2z v30 v31 v32 v33 v34 v3z
       have eF : Fr w11 W (fun k => k = w.heap.size + 2) := by rw [hW]; exact Fr.set5 _ _ _ _ _ _ _ _ _ _ _ _
       have z1_ := z1.out; have z2_ := z2.out; have z3_ := z3.out; have z4_ := z4.out; have z5_ := z5.out; have z6_ := z6.out; have z7_ := z7.out; have z8_ := z8.out; have z9_ := z9.out; have z10_ := z10.out; have hzb_ := hzb.out; have z11_ := z11.out; have z12_ := z12.out
       exact ⟨[Value.int IntKind.i64 ra, .int .i64 rb, .string rs, .slice RA rn rc, .slice RB rn2 rd], by unfold patchB; rw [HP.out]; rfl, by unfold patchJ; rw [HP.out]; exact (tJ_le (by have := HOW.out.1; omega : B + o.way.length + 1 ≤ B + 7)).O _ _ _ _ (Ty.O_mono _ (fun k hk => by rcases hk.1 with q_ | q_; omega; (have q3_ := q_.1; omega)) (Ty.O_fr hz2.out eF (fun k hk hl h => by (try simp only at h); rcases hk.1 with q_ | q_; omega; (have q3_ := q_.1; omega)))), below_frS hB.out eF (fun k h => by (try simp only at h); omega)⟩
     ·have hz1 := Hd.mk hz1
      have HP := Hd.mk (show patchO j o = none from patchO_none HOK.out hz1.out)
      obtain ⟨v00, v01, v02, v03, v04, v0z⟩ := blk5 b0.out
      obtain ⟨v10, v11, v12, v13, v14, v15, v16, v1z⟩ := blk7 b1.out
      obtain ⟨v20, v21, v22, v23, v24, v2z⟩ := blk5 b2.out
      obtain ⟨v30, v31, v32, v33, v34, v3z⟩ := blk5 b3.out
      go_wp2_with fail
      refine bodyPost_retW (v := .tuple #[.agg #[.int .i64 0, .int .i64 0, .string ⟨#[]⟩, .slice none 0 0, .slice none 0 0], .bool false]) (by simp [results, Tryz.results10, go_sem, v00, v01, v02, v03, v04, v0z, v10, v11, v12, v13, v14, v15, v16, v1z, v20, v21, v22, v23, v24, v2z, v30, v31, v32, v33, v34, v3z]) rfl ?_
      intro W hW
      clear v00 v01 v02 v03 v04 v0z v10 v11 v12 v13 v14 v15 v16 v1z v20 v21 v22 v23 v24 v2z v30 v31 v32 v33 v34 v3z
      have eF : Fr Wb W (fun k => w.heap.size ≤ k) := by rw [hW]; (repeat (first | with_reducible refine Fr.setCell ?_ _ (fun _ => by simp <;> omega) _ | with_reducible refine Fr.alloc ?_ _ | with_reducible refine Fr.drew ?_)); exact Fr.refl _ _
      exact ⟨[Value.int IntKind.i64 0, .int .i64 0, .string ⟨#[]⟩, .slice none 0 0, .slice none 0 0], by unfold patchB; rw [HP.out]; rfl, by unfold patchJ; rw [HP.out]; exact ZJ (B + 6) _ _, below_frS hB.out eF (fun k h => h)⟩
    ·refine stepM_of rfl ?_ (by rfl)
     go_wp2_with fail
     refine ⟨cls_below (below_alloc hS.out _), ?_⟩
     refine genT ?_; intro W8 hW
     have hz_ : w7.heap.size + 1 ≤ W8.heap.size := by rw [hW]; simp
     have hE : Below w7.heap.size w7 W8 := by rw [hW]; (repeat (first | with_reducible refine below_alloc ?_ _ | with_reducible refine below_drew ?_)); exact Below.refl _ _
     have hB := hB.th hE
     replace hS := Hd.mk (below_then hS.out hE)
     have b0 := b0.dn hE
     have b1 := b1.dn hE
     have b2 := b2.dn hE
     have b3 := Hd.mk (show Blk W8 (w7.heap.size) #[.int .i64 0, .int .i64 0, .string ⟨#[]⟩, .slice none 0 0, .slice none 0 0] 32 by rw [hW]; first | exact (Blk.new _ _ _) | (simpa using (Blk.new _ _ _)))
     have hY := hY.ob hE
     clear hW hE
     have z8 := Hd.mk hz_; clear hz_
     refine mixT_b rfl ?_ (by rfl)
     go_wp2_with fail
     apply calls_gen; intro W9 hW
     have hz_ : W8.heap.size ≤ W9.heap.size := by rw [hW]; simp
     have hE : Below W8.heap.size W8 W9 := by rw [hW]; (repeat (first | with_reducible refine below_alloc ?_ _ | with_reducible refine below_drew ?_)); exact Below.refl _ _
     have hB := hB.th hE
     replace hS := Hd.mk (below_then hS.out hE)
     have b0 := b0.dn hE
     have b1 := b1.dn hE
     have b2 := b2.dn hE
     have b3 := b3.dn hE
     have hY := hY.ob hE
     clear hW hE
     have z9 := Hd.mk hz_; clear hz_
     have z1_ := z1.out; have z2_ := z2.out; have z3_ := z3.out; have z4_ := z4.out; have z5_ := z5.out; have z6_ := z6.out; have z7_ := z7.out; have z8_ := z8.out; have z9_ := z9.out
     have hBs := hB.out.size
     refine (patI_all HBO.out ⟨HOW.out.2.2.1, HOW.out.2.2.2.1⟩ o.way (fun s hs => by have := textB_size (HOW.out.2.2.2.2 s hs); omega) (rng W6.heap.size w7.heap.size) j _ _ _ _ w _ hY.out hB.out (fun k h => by have q_ := h.1; omega) HRW.out HCW.out HKO.out HT.out HE.out ⟨5, HZJ.out⟩).mono ?_
     rintro e w9 hP
     obtain ⟨ra, rb, rs, RA, RB, rn, rc, rn2, rd, ok, rfl, hX, hR⟩ := pat_open hP
     have HR := Hd.mk hR; clear hR hP
     have HR := Hd.mk (pat_T HR.out)
     have b0 := Hd.mk (b0.out.fr hX (fun h => by have q_ := h.1; have q2_ := h.2; omega))
     have b1 := Hd.mk (b1.out.fr hX (fun h => by have q_ := h.1; have q2_ := h.2; omega))
     have b2 := Hd.mk (b2.out.fr hX (fun h => by have q_ := h.1; have q2_ := h.2; omega))
     have b3 := Hd.mk (b3.out.fr hX (fun h => by have q_ := h.1; have q2_ := h.2; omega))
     replace hS := Hd.mk (below_frS hS.out hX (fun k h => by have q_ := h.1; omega))
     have hB := Hd.mk (below_frS hB.out hX (fun k h => by have q_ := h.1; omega))
     clear hY
     have hz_ := hX.size
     clear hX
     have z10 := Hd.mk hz_; clear hz_
     go_wp2_with fail
     refine ⟨cls_below hS.out, ?_⟩
     iterate 3 (refine mixT_p rfl ?_; go_big_quiet_want; go_big_quiet_op; go_big_quiet_on; refine wpQuiet_nil ?_)
     refine mixT_fin ?_
     clear hS
     clear rv00 rv01 rv02 rv03 rv04 rv10 rv11 rv12 rv13 rv14 rv15 rv16 rv20 rv21 rv22 rv23 rv24
     clear v00 v01 v02 v03 v04 v0z v10 v11 v12 v13 v14 v15 v16 v1z v20 v21 v22 v23 v24 v2z
     obtain ⟨v00, v01, v02, v03, v04, v0z⟩ := blk5 b0.out
     obtain ⟨v10, v11, v12, v13, v14, v15, v16, v1z⟩ := blk7 b1.out
     obtain ⟨v20, v21, v22, v23, v24, v2z⟩ := blk5 b2.out
     obtain ⟨v30, v31, v32, v33, v34, v3z⟩ := blk5 b3.out
     refine tail_b rfl ?_ (by rfl)
     go_wp2_with fail
     refine mixQ_n ?_
     refine tail_b rfl ?_ (by rfl)
     go_wp2_with fail
     refine mixQ_n ?_
     refine tail_nil ?_
     refine exit_gen ?_; intro Wb hW
     clear v00 v01 v02 v03 v04 v0z v10 v11 v12 v13 v14 v15 v16 v1z v20 v21 v22 v23 v24 v2z v30 v31 v32 v33 v34 v3z
     have eF : Fr w9 Wb (fun k => k = w7.heap.size) := by rw [hW]; exact Fr.set5 _ _ _ _ _ _ _ _ _ _ _ _
     have z1_ := z1.out; have z2_ := z2.out; have z3_ := z3.out; have z4_ := z4.out; have z5_ := z5.out; have z6_ := z6.out; have z7_ := z7.out; have z8_ := z8.out; have z9_ := z9.out; have z10_ := z10.out
     have b0 := Hd.mk (b0.out.fr eF (fun h => by have hlt_ := b0.out.lt; (try simp only at h); omega))
     have b1 := Hd.mk (b1.out.fr eF (fun h => by have hlt_ := b1.out.lt; (try simp only at h); omega))
     have b2 := Hd.mk (b2.out.fr eF (fun h => by have hlt_ := b2.out.lt; (try simp only at h); omega))
     have b3 := Hd.mk (show Blk Wb (w7.heap.size) #[.int .i64 ra, .int .i64 rb, .string rs, .slice RA rn rc, .slice RB rn2 rd] 32 by rw [hW]; exact Blk.all b3.out [Value.int IntKind.i64 ra, .int .i64 rb, .string rs, .slice RA rn rc, .slice RB rn2 rd] rfl)
     have HR := Hd.mk (patT_fr HR.out eF (fun k hk hl h => by (try simp only at h); have q2_ := hk.2; rcases hk.1 with q_ | q_; omega; (have q3_ := q_.1; have q4_ := q_.2; omega)))
     have hB := Hd.mk (below_frS hB.out eF (fun k h => by (try simp only at h); omega))
     have hzb := Hd.mk eF.size
     clear hW eF
     rcases HR.out with ⟨rfl, zz, hz1, hz2⟩ | ⟨rfl, hz1⟩
     ·have hz2 := Hd.mk hz2; have hz1 := Hd.mk hz1
      obtain ⟨v00, v01, v02, v03, v04, v0z⟩ := blk5 b0.out
      obtain ⟨v10, v11, v12, v13, v14, v15, v16, v1z⟩ := blk7 b1.out
      obtain ⟨v20, v21, v22, v23, v24, v2z⟩ := blk5 b2.out
      obtain ⟨v30, v31, v32, v33, v34, v3z⟩ := blk5 b3.out
      go_wp2_with fail
      clear v00 v01 v02 v03 v04 v0z v10 v11 v12 v13 v14 v15 v16 v1z v20 v21 v22 v23 v24 v2z v30 v31 v32 v33 v34 v3z
      apply calls_gen; intro W10 hW
      have hz_ : Wb.heap.size ≤ W10.heap.size := by rw [hW]; simp
      have hE : Below Wb.heap.size Wb W10 := by rw [hW]; (repeat (first | with_reducible refine below_alloc ?_ _ | with_reducible refine below_drew ?_)); exact Below.refl _ _
      have hB := hB.th hE
      have b0 := b0.dn hE
      have b1 := b1.dn hE
      have b2 := b2.dn hE
      have b3 := b3.dn hE
      have hz2 := hz2.ob hE
      clear hW hE
      have z11 := Hd.mk hz_; clear hz_
      refine (impl_JsonOk zz _ _ (Ty.O_K _ hz2.out)).mono ?_
      rintro e w11 ⟨rfl, hX⟩
      have b0 := b0.dn hX
      have b1 := b1.dn hX
      have b2 := b2.dn hX
      have b3 := b3.dn hX
      have hz2 := hz2.ob hX
      have hB := hB.th hX
      have hz_ := hX.size
      clear hX
      have z12 := Hd.mk hz_; clear hz_
      cases hjz : jsonOk zz
      ·have HP := Hd.mk (show patchO j o = none from patchO_no HOK.out hz1.out hjz)
       obtain ⟨v00, v01, v02, v03, v04, v0z⟩ := blk5 b0.out
       obtain ⟨v10, v11, v12, v13, v14, v15, v16, v1z⟩ := blk7 b1.out
       obtain ⟨v20, v21, v22, v23, v24, v2z⟩ := blk5 b2.out
       obtain ⟨v30, v31, v32, v33, v34, v3z⟩ := blk5 b3.out
       go_wp2_with fail
       refine bodyPost_retW (v := .tuple #[.agg #[.int .i64 0, .int .i64 0, .string ⟨#[]⟩, .slice none 0 0, .slice none 0 0], .bool false]) (by simp [results, Tryz.results10, go_sem, v00, v01, v02, v03, v04, v0z, v10, v11, v12, v13, v14, v15, v16, v1z, v20, v21, v22, v23, v24, v2z, v30, v31, v32, v33, v34, v3z]) rfl ?_
       intro W hW
       clear v00 v01 v02 v03 v04 v0z v10 v11 v12 v13 v14 v15 v16 v1z v20 v21 v22 v23 v24 v2z v30 v31 v32 v33 v34 v3z
       have eF : Fr w11 W (fun k => w.heap.size ≤ k) := by rw [hW]; (repeat (first | with_reducible refine Fr.setCell ?_ _ (fun _ => by simp <;> omega) _ | with_reducible refine Fr.alloc ?_ _ | with_reducible refine Fr.drew ?_)); exact Fr.refl _ _
       exact ⟨[Value.int IntKind.i64 0, .int .i64 0, .string ⟨#[]⟩, .slice none 0 0, .slice none 0 0], by unfold patchB; rw [HP.out]; rfl, by unfold patchJ; rw [HP.out]; exact ZJ (B + 6) _ _, below_frS hB.out eF (fun k h => h)⟩
      ·have HP := Hd.mk (patchO_yes HOK.out hz1.out hjz)
       obtain ⟨v00, v01, v02, v03, v04, v0z⟩ := blk5 b0.out
       obtain ⟨v10, v11, v12, v13, v14, v15, v16, v1z⟩ := blk7 b1.out
       obtain ⟨v20, v21, v22, v23, v24, v2z⟩ := blk5 b2.out
       obtain ⟨v30, v31, v32, v33, v34, v3z⟩ := blk5 b3.out
       go_wp2_with fail
       refine bodyPost_retW (v := .tuple #[.agg #[.int .i64 ra, .int .i64 rb, .string rs, .slice RA rn rc, .slice RB rn2 rd], .bool true]) (by simp [results, Tryz.results10, go_sem, v00, v01, v02, v03, v04, v0z, v10, v11, v12, v13, v14, v15, v16, v1z, v20, v21, v22, v23, v24, v2z, v30, v31, v32, v33, v34, v3z]) rfl ?_
       intro W hW
       clear v00 v01 v02 v03 v04 v0z v10 v11 v12 v13 v14 v15 v16 v1z v20 v21 v22 v23 v24 v2z v30 v31 v32 v33 v34 v3z
       have eF : Fr w11 W (fun k => k = w.heap.size + 2) := by rw [hW]; exact Fr.set5 _ _ _ _ _ _ _ _ _ _ _ _
       have z1_ := z1.out; have z2_ := z2.out; have z3_ := z3.out; have z4_ := z4.out; have z5_ := z5.out; have z6_ := z6.out; have z7_ := z7.out; have z8_ := z8.out; have z9_ := z9.out; have z10_ := z10.out; have hzb_ := hzb.out; have z11_ := z11.out; have z12_ := z12.out
       exact ⟨[Value.int IntKind.i64 ra, .int .i64 rb, .string rs, .slice RA rn rc, .slice RB rn2 rd], by unfold patchB; rw [HP.out]; rfl, by unfold patchJ; rw [HP.out]; exact (tJ_le (by have := HOW.out.1; omega : B + o.way.length + 1 ≤ B + 7)).O _ _ _ _ (Ty.O_mono _ (fun k hk => by rcases hk.1 with q_ | q_; omega; (have q3_ := q_.1; omega)) (Ty.O_fr hz2.out eF (fun k hk hl h => by (try simp only at h); rcases hk.1 with q_ | q_; omega; (have q3_ := q_.1; omega)))), below_frS hB.out eF (fun k h => by (try simp only at h); omega)⟩
     ·have hz1 := Hd.mk hz1
      have HP := Hd.mk (show patchO j o = none from patchO_none HOK.out hz1.out)
      obtain ⟨v00, v01, v02, v03, v04, v0z⟩ := blk5 b0.out
      obtain ⟨v10, v11, v12, v13, v14, v15, v16, v1z⟩ := blk7 b1.out
      obtain ⟨v20, v21, v22, v23, v24, v2z⟩ := blk5 b2.out
      obtain ⟨v30, v31, v32, v33, v34, v3z⟩ := blk5 b3.out
      go_wp2_with fail
      refine bodyPost_retW (v := .tuple #[.agg #[.int .i64 0, .int .i64 0, .string ⟨#[]⟩, .slice none 0 0, .slice none 0 0], .bool false]) (by simp [results, Tryz.results10, go_sem, v00, v01, v02, v03, v04, v0z, v10, v11, v12, v13, v14, v15, v16, v1z, v20, v21, v22, v23, v24, v2z, v30, v31, v32, v33, v34, v3z]) rfl ?_
      intro W hW
      clear v00 v01 v02 v03 v04 v0z v10 v11 v12 v13 v14 v15 v16 v1z v20 v21 v22 v23 v24 v2z v30 v31 v32 v33 v34 v3z
      have eF : Fr Wb W (fun k => w.heap.size ≤ k) := by rw [hW]; (repeat (first | with_reducible refine Fr.setCell ?_ _ (fun _ => by simp <;> omega) _ | with_reducible refine Fr.alloc ?_ _ | with_reducible refine Fr.drew ?_)); exact Fr.refl _ _
      exact ⟨[Value.int IntKind.i64 0, .int .i64 0, .string ⟨#[]⟩, .slice none 0 0, .slice none 0 0], by unfold patchB; rw [HP.out]; rfl, by unfold patchJ; rw [HP.out]; exact ZJ (B + 6) _ _, below_frS hB.out eF (fun k h => h)⟩
   ·refine stepM_of rfl ?_ (by rfl)
    go_wp2_with fail
    refine ⟨cls_below (below_alloc hS.out _), ?_⟩
    refine genT ?_; intro W6 hW
    have hz_ : W5.heap.size + 1 ≤ W6.heap.size := by rw [hW]; simp
    have hE : Below W5.heap.size W5 W6 := by rw [hW]; (repeat (first | with_reducible refine below_alloc ?_ _ | with_reducible refine below_drew ?_)); exact Below.refl _ _
    have hB := hB.th hE
    replace hS := Hd.mk (below_then hS.out hE)
    have b0 := b0.dn hE
    have b1 := b1.dn hE
    have b2 := b2.dn hE
    have b3 := Hd.mk (show Blk W6 (W5.heap.size) #[.int .i64 0, .int .i64 0, .string ⟨#[]⟩, .slice none 0 0, .slice none 0 0] 32 by rw [hW]; first | exact (Blk.new _ _ _) | (simpa using (Blk.new _ _ _)))
    clear hW hE
    have z6 := Hd.mk hz_; clear hz_
    refine mixT_b rfl ?_ (by rfl)
    go_wp2_with fail
    apply calls_gen; intro W7 hW
    have hz_ : W6.heap.size ≤ W7.heap.size := by rw [hW]; simp
    have hE : Below W6.heap.size W6 W7 := by rw [hW]; (repeat (first | with_reducible refine below_alloc ?_ _ | with_reducible refine below_drew ?_)); exact Below.refl _ _
    have hB := hB.th hE
    replace hS := Hd.mk (below_then hS.out hE)
    have b0 := b0.dn hE
    have b1 := b1.dn hE
    have b2 := b2.dn hE
    have b3 := b3.dn hE
    clear hW hE
    have z7 := Hd.mk hz_; clear hz_
    refine (impl_copyJson j _ _ (Ty.K_below _ hB.out HKL.out) HBL.out).mono ?_
    rintro e w8 ⟨cy, rfl, hY, hX⟩
    have b0 := b0.dn hX
    have b1 := b1.dn hX
    have b2 := b2.dn hX
    have b3 := b3.dn hX
    have hB := hB.th hX
    replace hS := Hd.mk (below_then hS.out hX)
    have hz_ := hX.size
    clear hX
    have z8 := Hd.mk hz_; clear hz_
    obtain ⟨v3, v4, _, _, hcy, _, h3_, h4_, _⟩ := tJ_O.1 hY
    obtain ⟨A7, c7, rfl, _, _⟩ := R_C h3_
    obtain ⟨A8, c8, rfl, _, _⟩ := R_C h4_
    clear h3_ h4_
    subst hcy
    replace hY := Hd.mk (show (tJ (B + o.way.length + 1)).O w8 (rng W7.heap.size w8.heap.size) j _ from Ty.O_bound _ hY)
    go_wp2_with fail
    refine ⟨cls_below hS.out, ?_⟩
    refine mixT_b rfl ?_ (by rfl)
    go_wp2_with fail
    apply calls_gen; intro W9 hW
    have hz_ : w8.heap.size ≤ W9.heap.size := by rw [hW]; simp
    have hE : Below w8.heap.size w8 W9 := by rw [hW]; (repeat (first | with_reducible refine below_alloc ?_ _ | with_reducible refine below_drew ?_)); exact Below.refl _ _
    have hB := hB.th hE
    replace hS := Hd.mk (below_then hS.out hE)
    have b0 := b0.dn hE
    have b1 := b1.dn hE
    have b2 := b2.dn hE
    have b3 := b3.dn hE
    have hY := hY.ob hE
    clear hW hE
    have z9 := Hd.mk hz_; clear hz_
    have z1_ := z1.out; have z2_ := z2.out; have z3_ := z3.out; have z4_ := z4.out; have z5_ := z5.out; have z6_ := z6.out; have z7_ := z7.out; have z8_ := z8.out; have z9_ := z9.out
    have hBs := hB.out.size
    refine (patI_all HBO.out ⟨HOW.out.2.2.1, HOW.out.2.2.2.1⟩ o.way (fun s hs => by have := textB_size (HOW.out.2.2.2.2 s hs); omega) (rng W7.heap.size w8.heap.size) j _ _ _ _ w _ hY.out hB.out (fun k h => by have q_ := h.1; omega) HRW.out HCW.out HKO.out HT.out HE.out ⟨5, HZJ.out⟩).mono ?_
    rintro e w9 hP
    obtain ⟨ra, rb, rs, RA, RB, rn, rc, rn2, rd, ok, rfl, hX, hR⟩ := pat_open hP
    have HR := Hd.mk hR; clear hR hP
    have HR := Hd.mk (pat_T HR.out)
    have b0 := Hd.mk (b0.out.fr hX (fun h => by have q_ := h.1; have q2_ := h.2; omega))
    have b1 := Hd.mk (b1.out.fr hX (fun h => by have q_ := h.1; have q2_ := h.2; omega))
    have b2 := Hd.mk (b2.out.fr hX (fun h => by have q_ := h.1; have q2_ := h.2; omega))
    have b3 := Hd.mk (b3.out.fr hX (fun h => by have q_ := h.1; have q2_ := h.2; omega))
    replace hS := Hd.mk (below_frS hS.out hX (fun k h => by have q_ := h.1; omega))
    have hB := Hd.mk (below_frS hB.out hX (fun k h => by have q_ := h.1; omega))
    clear hY
    have hz_ := hX.size
    clear hX
    have z10 := Hd.mk hz_; clear hz_
    go_wp2_with fail
    refine ⟨cls_below hS.out, ?_⟩
    iterate 3 (refine mixT_p rfl ?_; go_big_quiet_want; go_big_quiet_op; go_big_quiet_on; refine wpQuiet_nil ?_)
    refine mixT_fin ?_
    clear hS
    clear rv00 rv01 rv02 rv03 rv04 rv10 rv11 rv12 rv13 rv14 rv15 rv16 rv20 rv21 rv22 rv23 rv24
    clear v00 v01 v02 v03 v04 v0z v10 v11 v12 v13 v14 v15 v16 v1z v20 v21 v22 v23 v24 v2z
    obtain ⟨v00, v01, v02, v03, v04, v0z⟩ := blk5 b0.out
    obtain ⟨v10, v11, v12, v13, v14, v15, v16, v1z⟩ := blk7 b1.out
    obtain ⟨v20, v21, v22, v23, v24, v2z⟩ := blk5 b2.out
    obtain ⟨v30, v31, v32, v33, v34, v3z⟩ := blk5 b3.out
    refine tail_b rfl ?_ (by rfl)
    go_wp2_with fail
    refine mixQ_n ?_
    refine tail_b rfl ?_ (by rfl)
    go_wp2_with fail
    refine mixQ_n ?_
    refine tail_nil ?_
    refine exit_gen ?_; intro Wb hW
    clear v00 v01 v02 v03 v04 v0z v10 v11 v12 v13 v14 v15 v16 v1z v20 v21 v22 v23 v24 v2z v30 v31 v32 v33 v34 v3z
    have eF : Fr w9 Wb (fun k => k = W5.heap.size) := by rw [hW]; exact Fr.set5 _ _ _ _ _ _ _ _ _ _ _ _
    have z1_ := z1.out; have z2_ := z2.out; have z3_ := z3.out; have z4_ := z4.out; have z5_ := z5.out; have z6_ := z6.out; have z7_ := z7.out; have z8_ := z8.out; have z9_ := z9.out; have z10_ := z10.out
    have b0 := Hd.mk (b0.out.fr eF (fun h => by have hlt_ := b0.out.lt; (try simp only at h); omega))
    have b1 := Hd.mk (b1.out.fr eF (fun h => by have hlt_ := b1.out.lt; (try simp only at h); omega))
    have b2 := Hd.mk (b2.out.fr eF (fun h => by have hlt_ := b2.out.lt; (try simp only at h); omega))
    have b3 := Hd.mk (show Blk Wb (W5.heap.size) #[.int .i64 ra, .int .i64 rb, .string rs, .slice RA rn rc, .slice RB rn2 rd] 32 by rw [hW]; exact Blk.all b3.out [Value.int IntKind.i64 ra, .int .i64 rb, .string rs, .slice RA rn rc, .slice RB rn2 rd] rfl)
    have HR := Hd.mk (patT_fr HR.out eF (fun k hk hl h => by (try simp only at h); have q2_ := hk.2; rcases hk.1 with q_ | q_; omega; (have q3_ := q_.1; have q4_ := q_.2; omega)))
    have hB := Hd.mk (below_frS hB.out eF (fun k h => by (try simp only at h); omega))
    have hzb := Hd.mk eF.size
    clear hW eF
    rcases HR.out with ⟨rfl, zz, hz1, hz2⟩ | ⟨rfl, hz1⟩
    ·have hz2 := Hd.mk hz2; have hz1 := Hd.mk hz1
     obtain ⟨v00, v01, v02, v03, v04, v0z⟩ := blk5 b0.out
     obtain ⟨v10, v11, v12, v13, v14, v15, v16, v1z⟩ := blk7 b1.out
     obtain ⟨v20, v21, v22, v23, v24, v2z⟩ := blk5 b2.out
     obtain ⟨v30, v31, v32, v33, v34, v3z⟩ := blk5 b3.out
     go_wp2_with fail
     clear v00 v01 v02 v03 v04 v0z v10 v11 v12 v13 v14 v15 v16 v1z v20 v21 v22 v23 v24 v2z v30 v31 v32 v33 v34 v3z
     apply calls_gen; intro W10 hW
     have hz_ : Wb.heap.size ≤ W10.heap.size := by rw [hW]; simp
     have hE : Below Wb.heap.size Wb W10 := by rw [hW]; (repeat (first | with_reducible refine below_alloc ?_ _ | with_reducible refine below_drew ?_)); exact Below.refl _ _
     have hB := hB.th hE
     have b0 := b0.dn hE
     have b1 := b1.dn hE
     have b2 := b2.dn hE
     have b3 := b3.dn hE
     have hz2 := hz2.ob hE
     clear hW hE
     have z11 := Hd.mk hz_; clear hz_
     refine (impl_JsonOk zz _ _ (Ty.O_K _ hz2.out)).mono ?_
     rintro e w11 ⟨rfl, hX⟩
     have b0 := b0.dn hX
     have b1 := b1.dn hX
     have b2 := b2.dn hX
     have b3 := b3.dn hX
     have hz2 := hz2.ob hX
     have hB := hB.th hX
     have hz_ := hX.size
     clear hX
     have z12 := Hd.mk hz_; clear hz_
     cases hjz : jsonOk zz
     ·have HP := Hd.mk (show patchO j o = none from patchO_no HOK.out hz1.out hjz)
      obtain ⟨v00, v01, v02, v03, v04, v0z⟩ := blk5 b0.out
      obtain ⟨v10, v11, v12, v13, v14, v15, v16, v1z⟩ := blk7 b1.out
      obtain ⟨v20, v21, v22, v23, v24, v2z⟩ := blk5 b2.out
      obtain ⟨v30, v31, v32, v33, v34, v3z⟩ := blk5 b3.out
      go_wp2_with fail
      refine bodyPost_retW (v := .tuple #[.agg #[.int .i64 0, .int .i64 0, .string ⟨#[]⟩, .slice none 0 0, .slice none 0 0], .bool false]) (by simp [results, Tryz.results10, go_sem, v00, v01, v02, v03, v04, v0z, v10, v11, v12, v13, v14, v15, v16, v1z, v20, v21, v22, v23, v24, v2z, v30, v31, v32, v33, v34, v3z]) rfl ?_
      intro W hW
      clear v00 v01 v02 v03 v04 v0z v10 v11 v12 v13 v14 v15 v16 v1z v20 v21 v22 v23 v24 v2z v30 v31 v32 v33 v34 v3z
      have eF : Fr w11 W (fun k => w.heap.size ≤ k) := by rw [hW]; (repeat (first | with_reducible refine Fr.setCell ?_ _ (fun _ => by simp <;> omega) _ | with_reducible refine Fr.alloc ?_ _ | with_reducible refine Fr.drew ?_)); exact Fr.refl _ _
      exact ⟨[Value.int IntKind.i64 0, .int .i64 0, .string ⟨#[]⟩, .slice none 0 0, .slice none 0 0], by unfold patchB; rw [HP.out]; rfl, by unfold patchJ; rw [HP.out]; exact ZJ (B + 6) _ _, below_frS hB.out eF (fun k h => h)⟩
     ·have HP := Hd.mk (patchO_yes HOK.out hz1.out hjz)
      obtain ⟨v00, v01, v02, v03, v04, v0z⟩ := blk5 b0.out
      obtain ⟨v10, v11, v12, v13, v14, v15, v16, v1z⟩ := blk7 b1.out
      obtain ⟨v20, v21, v22, v23, v24, v2z⟩ := blk5 b2.out
      obtain ⟨v30, v31, v32, v33, v34, v3z⟩ := blk5 b3.out
      go_wp2_with fail
      refine bodyPost_retW (v := .tuple #[.agg #[.int .i64 ra, .int .i64 rb, .string rs, .slice RA rn rc, .slice RB rn2 rd], .bool true]) (by simp [results, Tryz.results10, go_sem, v00, v01, v02, v03, v04, v0z, v10, v11, v12, v13, v14, v15, v16, v1z, v20, v21, v22, v23, v24, v2z, v30, v31, v32, v33, v34, v3z]) rfl ?_
      intro W hW
      clear v00 v01 v02 v03 v04 v0z v10 v11 v12 v13 v14 v15 v16 v1z v20 v21 v22 v23 v24 v2z v30 v31 v32 v33 v34 v3z
      have eF : Fr w11 W (fun k => k = w.heap.size + 2) := by rw [hW]; exact Fr.set5 _ _ _ _ _ _ _ _ _ _ _ _
      have z1_ := z1.out; have z2_ := z2.out; have z3_ := z3.out; have z4_ := z4.out; have z5_ := z5.out; have z6_ := z6.out; have z7_ := z7.out; have z8_ := z8.out; have z9_ := z9.out; have z10_ := z10.out; have hzb_ := hzb.out; have z11_ := z11.out; have z12_ := z12.out
      exact ⟨[Value.int IntKind.i64 ra, .int .i64 rb, .string rs, .slice RA rn rc, .slice RB rn2 rd], by unfold patchB; rw [HP.out]; rfl, by unfold patchJ; rw [HP.out]; exact (tJ_le (by have := HOW.out.1; omega : B + o.way.length + 1 ≤ B + 7)).O _ _ _ _ (Ty.O_mono _ (fun k hk => by rcases hk.1 with q_ | q_; omega; (have q3_ := q_.1; omega)) (Ty.O_fr hz2.out eF (fun k hk hl h => by (try simp only at h); rcases hk.1 with q_ | q_; omega; (have q3_ := q_.1; omega)))), below_frS hB.out eF (fun k h => by (try simp only at h); omega)⟩
    ·have hz1 := Hd.mk hz1
     have HP := Hd.mk (show patchO j o = none from patchO_none HOK.out hz1.out)
     obtain ⟨v00, v01, v02, v03, v04, v0z⟩ := blk5 b0.out
     obtain ⟨v10, v11, v12, v13, v14, v15, v16, v1z⟩ := blk7 b1.out
     obtain ⟨v20, v21, v22, v23, v24, v2z⟩ := blk5 b2.out
     obtain ⟨v30, v31, v32, v33, v34, v3z⟩ := blk5 b3.out
     go_wp2_with fail
     refine bodyPost_retW (v := .tuple #[.agg #[.int .i64 0, .int .i64 0, .string ⟨#[]⟩, .slice none 0 0, .slice none 0 0], .bool false]) (by simp [results, Tryz.results10, go_sem, v00, v01, v02, v03, v04, v0z, v10, v11, v12, v13, v14, v15, v16, v1z, v20, v21, v22, v23, v24, v2z, v30, v31, v32, v33, v34, v3z]) rfl ?_
     intro W hW
     clear v00 v01 v02 v03 v04 v0z v10 v11 v12 v13 v14 v15 v16 v1z v20 v21 v22 v23 v24 v2z v30 v31 v32 v33 v34 v3z
     have eF : Fr Wb W (fun k => w.heap.size ≤ k) := by rw [hW]; (repeat (first | with_reducible refine Fr.setCell ?_ _ (fun _ => by simp <;> omega) _ | with_reducible refine Fr.alloc ?_ _ | with_reducible refine Fr.drew ?_)); exact Fr.refl _ _
     exact ⟨[Value.int IntKind.i64 0, .int .i64 0, .string ⟨#[]⟩, .slice none 0 0, .slice none 0 0], by unfold patchB; rw [HP.out]; rfl, by unfold patchJ; rw [HP.out]; exact ZJ (B + 6) _ _, below_frS hB.out eF (fun k h => h)⟩
end Go.Proofs.YtegcecnjmimbiaaGreatDoor.X
namespace Go.Proofs.YtegcecnjmimbiaaGreatDoor.X
open Go.RowKit Go.Sort
set_option linter.unusedVariables false
set_option linter.unusedSimpArgs false
open Ty
theorem R_to {α : Type} {d d' : Ty α} {e : TypeId} {w : World} {S : Nat → Prop} {v : Value} {xs : List α} (hz : d.sz = d'.sz) (ho : ∀ x ∈ xs, ∀ T cs, d.O w T x cs → d'.O w T x cs) (h : d.R e w S v xs) : d'.R e w S v xs := by
 obtain ⟨inner, f, h1, h2, h3⟩ := h
 refine ⟨inner, f, by rw [← hz]; exact h1, h2, fun i x hi => ?_⟩
 have h4 := h3 i x hi
 rw [hz] at h4
 exact ho x (by rw [← (List.getElem?_eq_some_iff.1 hi).2]; exact List.getElem_mem _) _ _ h4
theorem tJ_low : ∀ (d m : Nat) {w : World} {S : Nat → Prop} {x : J} {cs : List Value}, sizeN d x ≤ 400 → (tJ m).O w S x cs → (tJ d).O w S x cs
 | 0, m, _, _, _, _, h, _ => by simp [sizeN] at h
 | d + 1, 0, _, _, _, _, _, h => h.elim
 | d + 1, m + 1, w, S, x, cs, hz, h => by
  obtain ⟨v, v2, T0, T1, rfl, hs, h1, h2⟩ := tJ_O.1 h
  exact tJ_O.2 ⟨v, v2, T0, T1, rfl, hs, R_to (by rw [tJ_sz, tJ_sz]) (fun y hy T cs hO => tJ_low d m (size_part hz hy) hO) h1, h2⟩
theorem jsonOk_size {j : J} (h : jsonOk j = true) : sizeN 6 j ≤ 400 := of_decide_eq_true (show decide (sizeN 6 j ≤ 400) = true from h)
theorem null_size : sizeN 6 J.null ≤ 400 := by
 have h : ownB J.null = true := by unfold ownB; simp [J.null, ByteArray.toList_eq]
 show (if ownB J.null = true ∧ 1 + sumZ (sizeN 5) ([] : List J) ≤ 400 then 1 + sumZ (sizeN 5) ([] : List J) else 401) ≤ 400
 rw [if_pos ⟨h, by decide⟩]; decide
theorem patchO_ok {j z : J} {o : JOp} (h : patchO j o = some z) : jsonOk z = true := by
 unfold patchO at h
 split at h
 ·split at h
  ·split at h
   ·injection h with h; subst h; assumption
   ·cases h
  ·cases h
 ·cases h
theorem patchJ_size (j : J) (o : JOp) : sizeN 6 (patchJ j o) ≤ 400 := by
 unfold patchJ
 cases h : patchO j o with
 | none => exact null_size
 | some z => exact jsonOk_size (patchO_ok h)
theorem patchL_snoc (j : J) (l : List JOp) (o : JOp) : patchL j (l ++ [o]) = match patchL j l with
  | some z => patchO z o
  | none => none := by
 induction l generalizing j with
 | nil =>
  show (match patchO j o with | some z => some z | none => none) = patchO j o
  cases patchO j o <;> rfl
 | cons a l ih =>
  show (match patchO j a with | some z => patchL z (l ++ [o]) | none => none) = (match (match patchO j a with | some z => patchL z l | none => none) with | some z => patchO z o | none => none)
  cases patchO j a with
  | none => rfl
  | some z => exact ih z
theorem patchL_cut {j : J} {l : List JOp} {k : Nat} (h : patchL j (l.take k) = none) : patchL j l = none := by
 have : ∀ (r : List JOp) (p : List JOp) (j : J), patchL j p = none → patchL j (p ++ r) = none := fun r p => by
  induction p with
  | nil => intro j h; cases h
  | cons a p ih =>
   intro j h
   show (match patchO j a with | some z => patchL z (p ++ r) | none => none) = none
   have h : (match patchO j a with | some z => patchL z p | none => none) = none := h
   cases ho : patchO j a with
   | none => rfl
   | some z => rw [ho] at h; exact ih z h
 have h2 := this (l.drop k) _ _ h
 rwa [List.take_append_drop] at h2
noncomputable def patchAllJ (j : J) (l : List JOp) : J := (patchAllO j l).getD J.null
noncomputable def patchAllB (j : J) (l : List JOp) : Bool := (patchAllO j l).isSome
theorem patchL_ok {j z : J} {l : List JOp} (hj : jsonOk j = true) (h : patchL j l = some z) : jsonOk z = true := by
 induction l generalizing j with
 | nil => injection h with h; subst h; exact hj
 | cons a l ih =>
  have h : (match patchO j a with | some z => patchL z l | none => none) = some z := h
  cases ho : patchO j a with
  | none => rw [ho] at h; cases h
  | some y => rw [ho] at h; exact ih (patchO_ok ho) h
theorem patchAllJ_size (j : J) (l : List JOp) : sizeN 6 (patchAllJ j l) ≤ 400 := by
 unfold patchAllJ
 cases h : patchAllO j l with
 | none => exact null_size
 | some z =>
  unfold patchAllO at h
  split at h
  ·rename_i hg
   simp only [Bool.and_eq_true] at hg
   exact jsonOk_size (patchL_ok hg.1 h)
  ·cases h
end Go.Proofs.YtegcecnjmimbiaaGreatDoor.X
namespace Go.Proofs.YtegcecnjmimbiaaGreatDoor.X
open Go.RowKit Go.Sort
set_option linter.unusedVariables false
set_option linter.unusedSimpArgs false
open Ty
set_option maxHeartbeats 4000000 in
set_option maxRecDepth 100000 in
theorem impl_PatchAll {B : Nat} (j : J) (cs : List Value) (A : Option Addr) (c : Nat) (l : List JOp) (w : World) (hj : (tJ (B + 1)).K w j cs) (hr : (tOp (B + 1)).C w A l) (hT : EnvT w) (hE : EnvE w) :
    Calls Tryz.prog 19 #[.agg cs.toArray, .slice A l.length c] w fun e w' => ∃ cs', e = .returned (.tuple #[.agg cs'.toArray, .bool (patchAllB j l)]) ∧ (tJ (B + 7)).O w' (fun k => w.heap.size ≤ k) (patchAllJ j l) cs' ∧ Below w.heap.size w w' := by
  have HKJJ := Hd.mk hj
  obtain ⟨A1, c1, A2, c2, rfl, hsj, ⟨hc1, hr1⟩, hc2, hr2⟩ := tJ_K.1 hj
  clear hr1 hr2 hj
  have HC := Hd.mk hr
  have hm := hr.1
  clear hr
  have HT := Hd.mk hT; have HE := Hd.mk hE
  clear hT hE
  have hB := Hd.mk (Below.refl w.heap.size w)
  go_enter Tryz.func19, Tryz.ntmps19
  go_wp2_with fail
  apply calls_gen; intro W1 hW
  have hz_ : w.heap.size + 2 ≤ W1.heap.size := by rw [hW]; simp
  have hE : Below w.heap.size w W1 := by rw [hW]; (repeat (first | with_reducible refine below_alloc ?_ _ | with_reducible refine below_drew ?_)); exact Below.refl _ _
  have hB := hB.th hE
  have b0 := Hd.mk (show Blk W1 (w.heap.size) #[.int .i64 j.kind, .int .i64 j.n, .string j.s, .slice A1 j.list.length c1, .slice A2 j.names.length c2] 32 by rw [hW]; first | exact ((Blk.new _ _ _).alloc _) | (simpa using ((Blk.new _ _ _).alloc _)))
  have b1 := Hd.mk (show Blk W1 (w.heap.size + 1) #[.int .i64 0, .int .i64 0, .string ⟨#[]⟩, .slice none 0 0, .slice none 0 0] 32 by rw [hW]; first | exact (Blk.new1 _ _ _ _) | (simpa using (Blk.new1 _ _ _ _)))
  clear hW hE
  have z1 := Hd.mk hz_; clear hz_
  refine (impl_JsonOk j _ _ (Ty.K_below _ hB.out HKJJ.out)).mono ?_
  rintro e w2 ⟨rfl, hX⟩
  have b0 := b0.dn hX
  have b1 := b1.dn hX
  have hB := hB.th hX
  have hz_ := hX.size
  clear hX
  have z2 := Hd.mk hz_; clear hz_
  cases hja : jsonOk j
  · have HP := Hd.mk (show patchAllO j l = none from by unfold patchAllO; rw [hja]; rfl)
    obtain ⟨v00, v01, v02, v03, v04, v0z⟩ := blk5 b0.out
    obtain ⟨v10, v11, v12, v13, v14, v1z⟩ := blk5 b1.out
    go_wp2_with fail
    refine bodyPost_retW (v := .tuple #[.agg #[.int .i64 0, .int .i64 0, .string ⟨#[]⟩, .slice none 0 0, .slice none 0 0], .bool false]) (by simp [results, Tryz.results19, go_sem, v00, v01, v02, v03, v04, v0z, v10, v11, v12, v13, v14, v1z]) rfl ?_
    intro W hW
    clear v00 v01 v02 v03 v04 v0z v10 v11 v12 v13 v14 v1z
    have z1_ := z1.out; have z2_ := z2.out
    have hBs := hB.out.size
    have eF : Fr w2 W (fun k => w.heap.size ≤ k) := by rw [hW]; (repeat (first | with_reducible refine Fr.setCell ?_ _ (fun _ => by simp <;> omega) _ | with_reducible refine Fr.alloc ?_ _ | with_reducible refine Fr.drew ?_)); exact Fr.refl _ _
    exact ⟨[Value.int IntKind.i64 0, .int .i64 0, .string ⟨#[]⟩, .slice none 0 0, .slice none 0 0], by unfold patchAllB; rw [HP.out]; rfl, by unfold patchAllJ; rw [HP.out]; exact ZJ (B + 6) _ _, below_frS hB.out eF (fun k h => h)⟩
  · by_cases hl40 : (l.length : Int) ≤ 40
    · have hd40 : decide ((40 : Int) < (l.length : Int)) = false := by simpa using hl40
      have hd41 : ¬ ((40 : Int) < (l.length : Int)) := by omega
      have HG := Hd.mk (show patchAllO j l = patchL j l by unfold patchAllO; rw [hja, decide_eq_true hl40]; rfl)
      have HJA := Hd.mk hja
      have HZJ := Hd.mk (jsonOk_size hja)
      have HKL := Hd.mk ((tJ_le (by omega : B + 1 ≤ B + 7)).K _ _ _ HKJJ.out)
      have HBL := Hd.mk (show bulkJ (B + 7) j ≤ 4194304 by have h1 := bulk_size (B + 7) 6 j HZJ.out; have h2 : sizeN 6 j ≤ 400 := HZJ.out; omega)
      clear hja
      obtain ⟨v00, v01, v02, v03, v04, v0z⟩ := blk5 b0.out
      obtain ⟨v10, v11, v12, v13, v14, v1z⟩ := blk5 b1.out
      go_wp2_with fail
      clear v00 v01 v02 v03 v04 v0z v10 v11 v12 v13 v14 v1z
      apply calls_gen; intro W3 hW
      have hz_ : w2.heap.size ≤ W3.heap.size := by rw [hW]; simp
      have hE : Below w2.heap.size w2 W3 := by rw [hW]; (repeat (first | with_reducible refine below_alloc ?_ _ | with_reducible refine below_drew ?_)); exact Below.refl _ _
      have hB := hB.th hE
      have b0 := b0.dn hE
      have b1 := b1.dn hE
      clear hW hE
      have z3 := Hd.mk hz_; clear hz_
      refine (impl_copyJson j _ _ (Ty.K_below _ hB.out HKL.out) HBL.out).mono ?_
      rintro e w4 ⟨cy, rfl, hY, hX⟩
      have b0 := b0.dn hX
      have b1 := b1.dn hX
      have hB := hB.th hX
      have hz_ := hX.size
      clear hX
      have z4 := Hd.mk hz_; clear hz_
      obtain ⟨v3, v4, _, _, hcy, _, h3_, h4_, _⟩ := tJ_O.1 hY
      obtain ⟨A7, c7, rfl, _, _⟩ := R_C h3_
      obtain ⟨A8, c8, rfl, _, _⟩ := R_C h4_
      clear h3_ h4_
      subst hcy
      replace hY := Hd.mk (show (tJ (B + 7)).O w4 (rng W3.heap.size w4.heap.size) j _ from Ty.O_bound _ hY)
      obtain ⟨v00, v01, v02, v03, v04, v0z⟩ := blk5 b0.out
      obtain ⟨v10, v11, v12, v13, v14, v1z⟩ := blk5 b1.out
      go_wp2_with fail
      clear v00 v01 v02 v03 v04 v0z v10 v11 v12 v13 v14 v1z
      apply wp_gen; intro W5 hW
      have hz_ : w4.heap.size + 1 ≤ W5.heap.size := by rw [hW]; simp
      have hE : Below w4.heap.size w4 W5 := by rw [hW]; (repeat (first | with_reducible refine below_alloc ?_ _ | with_reducible refine below_drew ?_)); exact Below.refl _ _
      have hB := hB.th hE
      have b0 := b0.dn hE
      have b1 := b1.dn hE
      have b3 := Hd.mk (show Blk W5 (w4.heap.size) #[.int .i64 j.kind, .int .i64 j.n, .string j.s, .slice A7 j.list.length c7, .slice A8 j.names.length c8] 32 by rw [hW]; first | exact (Blk.new _ _ _) | (simpa using (Blk.new _ _ _)))
      have hY := hY.ob hE
      clear hW hE
      have z5 := Hd.mk hz_; clear hz_
      have hpw := Hd.mk (show w.heap.size + 2 ≤ w4.heap.size by have z1_ := z1.out; have z2_ := z2.out; have z3_ := z3.out; have z4_ := z4.out; have z5_ := z5.out; omega)
      go_loopw [24] (fun i wr => ∃ (k : Nat) (z : J) (zc : List Value), k ≤ l.length ∧ i = .int .i64 k ∧ Hd (patchL j (l.take k) = some z ∧ jsonOk z = true) ∧ Hd ((tJ (B + 7)).O wr (fun q => w.heap.size + 2 ≤ q ∧ q ≠ w4.heap.size ∧ q < wr.heap.size) z zc) ∧ Hd (Blk wr w.heap.size #[.int .i64 j.kind, .int .i64 j.n, .string j.s, .slice A1 j.list.length c1, .slice A2 j.names.length c2] 32) ∧ Hd (Blk wr (w.heap.size + 1) #[.int .i64 0, .int .i64 0, .string ⟨#[]⟩, .slice none 0 0, .slice none 0 0] 32) ∧ Hd (Blk wr w4.heap.size zc.toArray 32) ∧ Hd (Below w.heap.size w wr)) (fun i _ => l.length - (intOf i).toNat)
      case atStart => exact ⟨0, j, _, Nat.zero_le _, rfl, ⟨rfl, HJA.out⟩, Hd.mk (Ty.O_mono _ (fun q h => by have q1_ := h.1; have q2_ := h.2; have z1_ := z1.out; have z2_ := z2.out; have z3_ := z3.out; have z4_ := z4.out; have z5_ := z5.out; exact ⟨by omega, by omega, by omega⟩) hY.out), b0, b1, b3, hB⟩
      case round =>
        clear hB b0 b1 b3 hY z1 z2 z3 z4 z5
        obtain ⟨k, z, zc, hk, rfl, HZ, HO, b0, b1, b3, hB⟩ := hrel
        obtain ⟨v3, v4, _, _, hzc, _, h3_, h4_, _⟩ := tJ_O.1 HO.out
        obtain ⟨A9, c9, rfl, _, _⟩ := R_C h3_
        obtain ⟨A10, c10, rfl, _, _⟩ := R_C h4_
        clear h3_ h4_
        subst hzc
        have zb := Hd.mk b3.out.lt
        by_cases hlt : k < l.length
        · obtain ⟨ad, cs0, rfl, hK0, f0, f1⟩ := C_at HC.out hB.out k hlt
          obtain ⟨E1, e1, _, rfl, ⟨he1, hre1⟩, hje⟩ := tOp_K.1 hK0
          obtain ⟨E2, e2, E3, e3, rfl, hse, ⟨he2, hre2⟩, he3, hre3⟩ := tJ_K.1 hje
          have HKe := Hd.mk ((tOp_le (by omega : B + 1 ≤ B + 6 + 1)).K _ _ _ hK0)
          clear hK0 hre1 hre2 hre3 hje
          have x0 : wr.cell? (ad.add (k * 7)) = some (.int .i64 l[k].kind) := f0 _ rfl
          have x1 : wr.cell? ⟨(ad.add (k * 7)).block, (ad.add (k * 7)).off + 1, none⟩ = some (.slice E1 l[k].way.length e1) := f1 0 _ rfl
          have x2 : wr.cell? ⟨(ad.add (k * 7)).block, (ad.add (k * 7)).off + 2, none⟩ = some (.int .i64 l[k].value.kind) := f1 1 _ rfl
          have x3 : wr.cell? ⟨(ad.add (k * 7)).block, (ad.add (k * 7)).off + 3, none⟩ = some (.int .i64 l[k].value.n) := f1 2 _ rfl
          have x4 : wr.cell? ⟨(ad.add (k * 7)).block, (ad.add (k * 7)).off + 4, none⟩ = some (.string l[k].value.s) := f1 3 _ rfl
          have x5 : wr.cell? ⟨(ad.add (k * 7)).block, (ad.add (k * 7)).off + 5, none⟩ = some (.slice E2 l[k].value.list.length e2) := f1 4 _ rfl
          have x6 : wr.cell? ⟨(ad.add (k * 7)).block, (ad.add (k * 7)).off + 6, none⟩ = some (.slice E3 l[k].value.names.length e3) := f1 5 _ rfl
          clear f0 f1
          have hBr := Hd.mk (Below.refl wr.heap.size wr)
          have hlt3 : w4.heap.size < wr.heap.size := zb.out
          have hne3 : ¬ w4.heap.size = wr.heap.size := by omega
          obtain ⟨v00, v01, v02, v03, v04, v0z⟩ := blk5 b0.out
          obtain ⟨v10, v11, v12, v13, v14, v1z⟩ := blk5 b1.out
          obtain ⟨v30, v31, v32, v33, v34, v3z⟩ := blk5 b3.out
          go_wp2_with fail
          clear v00 v01 v02 v03 v04 v0z v10 v11 v12 v13 v14 v1z v30 v31 v32 v33 v34 v3z
          clear x0 x1 x2 x3 x4 x5 x6 hlt3 hne3
          apply calls_gen; intro W21 hW
          have hz_ : wr.heap.size + 1 ≤ W21.heap.size := by rw [hW]; simp
          have hE : Below wr.heap.size wr W21 := by rw [hW]; (repeat (first | with_reducible refine below_alloc ?_ _ | with_reducible refine below_drew ?_)); exact Below.refl _ _
          have hB := hB.th hE
          have hBr := Hd.mk (below_then hBr.out hE)
          have b0 := b0.dn hE
          have b1 := b1.dn hE
          have b3 := b3.dn hE
          have b8 := Hd.mk (show Blk W21 (wr.heap.size) #[.int .i64 l[k].kind, .slice E1 l[k].way.length e1, .int .i64 l[k].value.kind, .int .i64 l[k].value.n, .string l[k].value.s, .slice E2 l[k].value.list.length e2, .slice E3 l[k].value.names.length e3] 37 by rw [hW]; first | exact (Blk.new _ _ _) | (simpa using (Blk.new _ _ _)))
          have HO := HO.ob hE
          clear hW hE
          have z21 := Hd.mk hz_; clear hz_
          refine (impl_Patch (B := B + 6) z _ l[k] _ _ (Ty.O_K _ HO.out) (Ty.K_below _ hBr.out HKe.out) (HT.out.below hB.out) (HE.out.below hB.out)).mono ?_
          rintro e w22 ⟨cz, rfl, hZ, hX⟩
          have b0 := b0.dn hX
          have b1 := b1.dn hX
          have b3 := b3.dn hX
          have b8 := b8.dn hX
          have HO := HO.ob hX
          have hB := hB.th hX
          have hz_ := hX.size
          have hBr := Hd.mk (below_then hBr.out hX)
          clear hX
          have z22 := Hd.mk hz_; clear hz_
          replace hZ := (tJ_le (by omega : 6 ≤ B + 7)).O _ _ _ _ (tJ_low 6 _ (patchJ_size z l[k]) hZ)
          obtain ⟨v3, v4, _, _, hcz, _, h3_, h4_, _⟩ := tJ_O.1 hZ
          obtain ⟨A11, c11, rfl, _, _⟩ := R_C h3_
          obtain ⟨A12, c12, rfl, _, _⟩ := R_C h4_
          clear h3_ h4_
          subst hcz
          replace hZ := Hd.mk (show (tJ (B + 7)).O w22 (rng W21.heap.size w22.heap.size) (patchJ z l[k]) _ from Ty.O_bound _ hZ)
          obtain ⟨ok, hok⟩ : ∃ x, x = patchB z l[k] := ⟨_, rfl⟩
          rw [← hok]
          have HOKB := Hd.mk hok; clear hok
          clear HO
          have hlt1 : w.heap.size + 1 < w22.heap.size := by have zb_ := zb.out; have hpw_ := hpw.out; have z21_ := z21.out; have z22_ := z22.out; omega
          have hne1 : ¬ w.heap.size + 1 = w22.heap.size := by omega
          have hlt3 : w4.heap.size < w22.heap.size := by have zb_ := zb.out; have hpw_ := hpw.out; have z21_ := z21.out; have z22_ := z22.out; omega
          have hne3 : ¬ w4.heap.size = w22.heap.size := by omega
          cases ok
          · have HP := Hd.mk (show patchAllO j l = none from by
                rw [HG.out]
                refine patchL_cut (k := k + 1) ?_
                rw [List.take_succ_eq_append_getElem hlt, patchL_snoc, HZ.out.1]
                show patchO z l[k] = none
                have h := HOKB.out
                unfold patchB at h
                cases hp : patchO z l[k] with
                | none => rfl
                | some y => rw [hp] at h; cases h)
            obtain ⟨v00, v01, v02, v03, v04, v0z⟩ := blk5 b0.out
            obtain ⟨v10, v11, v12, v13, v14, v1z⟩ := blk5 b1.out
            obtain ⟨v30, v31, v32, v33, v34, v3z⟩ := blk5 b3.out
            obtain ⟨v80, v81, v82, v83, v84, v85, v86, v8z⟩ := blk7 b8.out
            go_wp2_with fail
            refine bodyPost_retW (v := .tuple #[.agg #[.int .i64 0, .int .i64 0, .string ⟨#[]⟩, .slice none 0 0, .slice none 0 0], .bool false]) (by simp [results, Tryz.results19, go_sem, v00, v01, v02, v03, v04, v0z, v10, v11, v12, v13, v14, v1z, v30, v31, v32, v33, v34, v3z, v80, v81, v82, v83, v84, v85, v86, v8z, hlt1, hne1]) rfl ?_
            intro W hW
            clear v00 v01 v02 v03 v04 v0z v10 v11 v12 v13 v14 v1z v30 v31 v32 v33 v34 v3z v80 v81 v82 v83 v84 v85 v86 v8z
            have zb_ := zb.out; have hpw_ := hpw.out; have z21_ := z21.out; have z22_ := z22.out
            have hBs := hB.out.size
            have eF : Fr w22 W (fun k => w.heap.size ≤ k) := by rw [hW]; (repeat (first | with_reducible refine Fr.setCell ?_ _ (fun _ => by simp <;> omega) _ | with_reducible refine Fr.alloc ?_ _ | with_reducible refine Fr.drew ?_)); exact Fr.refl _ _
            exact ⟨[Value.int IntKind.i64 0, .int .i64 0, .string ⟨#[]⟩, .slice none 0 0, .slice none 0 0], by unfold patchAllB; rw [HP.out]; rfl, by unfold patchAllJ; rw [HP.out]; exact ZJ (B + 6) _ _, below_frS hB.out eF (fun k h => h)⟩
          · have HPS := Hd.mk (show patchO z l[k] = some (patchJ z l[k]) by
              have h := HOKB.out
              unfold patchB at h
              unfold patchJ
              cases hp : patchO z l[k] with
              | none => rw [hp] at h; cases h
              | some y => rfl)
            obtain ⟨v00, v01, v02, v03, v04, v0z⟩ := blk5 b0.out
            obtain ⟨v10, v11, v12, v13, v14, v1z⟩ := blk5 b1.out
            obtain ⟨v30, v31, v32, v33, v34, v3z⟩ := blk5 b3.out
            obtain ⟨v80, v81, v82, v83, v84, v85, v86, v8z⟩ := blk7 b8.out
            go_wp2_with fail
            obtain ⟨W, hW⟩ : ∃ W, W = (((((w22.setCell ⟨w4.heap.size, 0, none⟩ (Value.int IntKind.i64 (patchJ z l[k]).kind)).setCell ⟨w4.heap.size, 1, none⟩ (Value.int IntKind.i64 (patchJ z l[k]).n)).setCell ⟨w4.heap.size, 2, none⟩ (Value.string (patchJ z l[k]).s)).setCell ⟨w4.heap.size, 3, none⟩ (Value.slice A11 (patchJ z l[k]).list.length c11)).setCell ⟨w4.heap.size, 4, none⟩ (Value.slice A12 (patchJ z l[k]).names.length c12)).alloc (.cells #[.int .i64 (patchJ z l[k]).kind, .int .i64 (patchJ z l[k]).n, .string (patchJ z l[k]).s, .slice A11 (patchJ z l[k]).list.length c11, .slice A12 (patchJ z l[k]).names.length c12] 32) := ⟨_, rfl⟩
            rw [← hW]
            clear v00 v01 v02 v03 v04 v0z v10 v11 v12 v13 v14 v1z v30 v31 v32 v33 v34 v3z v80 v81 v82 v83 v84 v85 v86 v8z
            have hz_ : w22.heap.size + 1 ≤ W.heap.size := by rw [hW]; simp
            have eF : Fr w22 W (fun k => k = w4.heap.size ∨ w22.heap.size ≤ k) := by rw [hW]; (repeat (first | with_reducible refine Fr.setCell ?_ _ (fun _ => by simp <;> omega) _ | with_reducible refine Fr.alloc ?_ _ | with_reducible refine Fr.drew ?_)); exact Fr.refl _ _
            have zb_ := zb.out; have hpw_ := hpw.out; have z21_ := z21.out; have z22_ := z22.out
            have hB := Hd.mk (((Fr.of_below hB.out (fun k => k = w4.heap.size ∨ w22.heap.size ≤ k)).then_ eF (fun k hk _ => hk)).below (fun k hk => by have := hB.out.size; omega))
            have b0 := Hd.mk (b0.out.fr eF (fun h => by have hlt_ := b0.out.lt; (try simp only at h); omega))
            have b1 := Hd.mk (b1.out.fr eF (fun h => by have hlt_ := b1.out.lt; (try simp only at h); omega))
            have b3 := Hd.mk (show Blk W (w4.heap.size) #[.int .i64 (patchJ z l[k]).kind, .int .i64 (patchJ z l[k]).n, .string (patchJ z l[k]).s, .slice A11 (patchJ z l[k]).list.length c11, .slice A12 (patchJ z l[k]).names.length c12] 32 by rw [hW]; exact ((((((b3.out.set 0 (Value.int IntKind.i64 (patchJ z l[k]).kind)).set 1 (Value.int IntKind.i64 (patchJ z l[k]).n)).set 2 (Value.string (patchJ z l[k]).s)).set 3 (Value.slice A11 (patchJ z l[k]).list.length c11)).set 4 (Value.slice A12 (patchJ z l[k]).names.length c12)).alloc _))
            have b8 := Hd.mk (b8.out.fr eF (fun h => by have hlt_ := b8.out.lt; (try simp only at h); omega))
            have hZ := Hd.mk (Ty.O_fr hZ.out eF (fun k hk hl h => by have q8_ := hk.1; have q9_ := hk.2; (try simp only [rng] at hk); (try simp only at hk); (try simp only at h); omega))
            clear hW eF
            have z23 := Hd.mk hz_; clear hz_
            go_roundw
            case rel => exact ⟨k + 1, patchJ z l[k], _, by omega, by go_num, ⟨by rw [List.take_succ_eq_append_getElem hlt, patchL_snoc, HZ.out.1]; exact HPS.out, patchO_ok HPS.out⟩, Hd.mk (Ty.O_mono _ (fun q h => by have q1_ := h.1; have q2_ := h.2; have zb_ := zb.out; have hpw_ := hpw.out; have z21_ := z21.out; have z22_ := z22.out; have z23_ := z23.out; exact ⟨by omega, by omega, by omega⟩) hZ.out), b0, b1, b3, hB⟩
            case measure => simp [intOf]; omega
        · obtain rfl : k = l.length := by omega
          have HP := Hd.mk (show patchAllO j l = some z by rw [HG.out, ← HZ.out.1, List.take_length])
          obtain ⟨v00, v01, v02, v03, v04, v0z⟩ := blk5 b0.out
          obtain ⟨v10, v11, v12, v13, v14, v1z⟩ := blk5 b1.out
          obtain ⟨v30, v31, v32, v33, v34, v3z⟩ := blk5 b3.out
          go_wp2_with fail
          refine bodyPost_retW (v := .tuple #[.agg #[.int .i64 z.kind, .int .i64 z.n, .string z.s, .slice A9 z.list.length c9, .slice A10 z.names.length c10], .bool true]) (by simp [results, Tryz.results19, go_sem, v00, v01, v02, v03, v04, v0z, v10, v11, v12, v13, v14, v1z, v30, v31, v32, v33, v34, v3z]) rfl ?_
          intro W hW
          clear v00 v01 v02 v03 v04 v0z v10 v11 v12 v13 v14 v1z v30 v31 v32 v33 v34 v3z
          have zb_ := zb.out; have hpw_ := hpw.out
          have eF : Fr wr W (fun k => k = w.heap.size + 1) := by rw [hW]; (repeat (first | with_reducible refine Fr.setCell ?_ _ (fun _ => by simp <;> omega) _ | with_reducible refine Fr.alloc ?_ _ | with_reducible refine Fr.drew ?_)); exact Fr.refl _ _
          exact ⟨[Value.int IntKind.i64 z.kind, .int .i64 z.n, .string z.s, .slice A9 z.list.length c9, .slice A10 z.names.length c10], by unfold patchAllB; rw [HP.out]; rfl, by unfold patchAllJ; rw [HP.out]; exact Ty.O_mono _ (fun k hk => by have q1_ := hk.1; omega) (Ty.O_fr HO.out eF (fun k hk hl h => by (try simp only at h); have q1_ := hk.1; omega)), below_frS hB.out eF (fun k h => by (try simp only at h); omega)⟩
    · have hd40 : decide ((40 : Int) < (l.length : Int)) = true := by simpa using hl40
      have hd41 : (40 : Int) < (l.length : Int) := by omega
      have HP := Hd.mk (show patchAllO j l = none from by unfold patchAllO; rw [hja, decide_eq_false hl40]; rfl)
      obtain ⟨v00, v01, v02, v03, v04, v0z⟩ := blk5 b0.out
      obtain ⟨v10, v11, v12, v13, v14, v1z⟩ := blk5 b1.out
      go_wp2_with fail
      refine bodyPost_retW (v := .tuple #[.agg #[.int .i64 0, .int .i64 0, .string ⟨#[]⟩, .slice none 0 0, .slice none 0 0], .bool false]) (by simp [results, Tryz.results19, go_sem, v00, v01, v02, v03, v04, v0z, v10, v11, v12, v13, v14, v1z]) rfl ?_
      intro W hW
      clear v00 v01 v02 v03 v04 v0z v10 v11 v12 v13 v14 v1z
      have z1_ := z1.out; have z2_ := z2.out
      have hBs := hB.out.size
      have eF : Fr w2 W (fun k => w.heap.size ≤ k) := by rw [hW]; (repeat (first | with_reducible refine Fr.setCell ?_ _ (fun _ => by simp <;> omega) _ | with_reducible refine Fr.alloc ?_ _ | with_reducible refine Fr.drew ?_)); exact Fr.refl _ _
      exact ⟨[Value.int IntKind.i64 0, .int .i64 0, .string ⟨#[]⟩, .slice none 0 0, .slice none 0 0], by unfold patchAllB; rw [HP.out]; rfl, by unfold patchAllJ; rw [HP.out]; exact ZJ (B + 6) _ _, below_frS hB.out eF (fun k h => h)⟩
end Go.Proofs.YtegcecnjmimbiaaGreatDoor.X
namespace Go.Proofs.YtegcecnjmimbiaaGreatDoor.X
open Go.RowKit Go.Sort
set_option linter.unusedVariables false
set_option linter.unusedSimpArgs false
open Ty
theorem flat5 : ∀ (ys : List (List Value)), (∀ y ∈ ys, y.length = 5) → ys.flatten.length = ys.length * 5 ∧ ∀ i y, ys[i]? = some y → (ys.flatten.drop (i * 5)).take 5 = y
 | [], _ => ⟨rfl, by simp⟩
 | y :: ys, h => by
  obtain ⟨h1, h2⟩ := flat5 ys (fun z hz => h z (by simp [hz]))
  have hy := h y (by simp)
  refine ⟨by simp [h1, hy]; omega, fun i z hz => ?_⟩
  rcases i with _ | i
  ·simp at hz
   subst hz
   rw [List.flatten_cons, Nat.zero_mul, List.drop_zero, List.take_append_of_le_length (by omega), List.take_of_length_le (by omega)]
  ·simp at hz
   rw [List.flatten_cons, List.drop_append, List.drop_eq_nil_of_le (by rw [hy]; omega), List.nil_append, hy, show (i + 1) * 5 - 5 = i * 5 by omega]
   exact h2 i z hz
theorem append_rw {P : Program} (hP : P = Tryz.prog) {ops : Array Oper} {rest : List Oper} {o : Oper} {a : Act} {Q : Exit → Act → World → Prop} {W : World} (hgd : o.guard = none) (s x : Operand)
  (ho : o.op = .call { callee := .builtin .append, args := #[s, x], argTypes := #[30, 30] }) {v : Value} {A : Option Addr} {m c : Nat} {l ys : List (List Value)} {S S' : Nat → Prop}
  (hs : a.eval s = v) (hx : a.eval x = .slice A m c) (hm : ys.length = m) (HR : (raw 5).R 32 W S v l) (HC : (raw 5).C W A ys) (hS : ∀ k, S k → S' k) (hnew : ∀ k, W.heap.size ≤ k → S' k) (hlen : (l.length + m) * 80 ≤ 140737488355328)
  (h : ∀ v1 w1, (raw 5).R 32 w1 S' v1 (l ++ ys) → Fr W w1 S → wpList P ops Q rest (a.put o.dst v1) w1) :
  wpList P ops Q (o :: rest) a W := by
 subst hP
 have h5 : ∀ y ∈ ys, y.length = 5 ∧ ∀ u ∈ y, u.oneCell' = true := fun y hy => by
  obtain ⟨i, hi, rfl⟩ := List.getElem_of_mem hy
  obtain ⟨ad, cs, _, hk, _⟩ := HC.2 i _ (List.getElem?_eq_getElem hi)
  exact hk.2
 obtain ⟨hf1, hf2⟩ := flat5 ys (fun y hy => (h5 y hy).1)
 refine append_gen (raw 5) (S := S) (S' := S') (v := v) (xs := l) (ys := ys) hgd s x 30 32 (.agg #[.int .i64 0, .int .i64 0, .string ByteArray.empty, .slice none 0 0, .slice none 0 0]) 80 ho Tryz.underlying30 info_JsonS rfl (by show 0 < 5; omega) (by decide) (fun _ _ => False) A m c ys.flatten hs hx HR hm (by rw [hf1, hm]; rfl) (fun j u hu => ?_) (fun u hu => ?_) (fun i y hi => ?_)
  (fun i j k h1 h2 => h1.elim) (fun i k hk => hk.elim) hS (fun i k hk => hk.elim) hnew hlen h
 ·have hj : j < ys.length * 5 := by rw [← hf1]; exact (List.getElem?_eq_some_iff.1 hu).1
  have hq : j / 5 < ys.length := by omega
  have hy := hf2 (j / 5) _ (List.getElem?_eq_getElem hq)
  obtain ⟨ad, cs, hA, hk, hc⟩ := HC.2 (j / 5) _ (List.getElem?_eq_getElem hq)
  refine ⟨ad, hA, ?_⟩
  have h2 := hc (j % 5) u (by
   rw [hk.1, ← hy, List.getElem?_take, if_pos (by omega), List.getElem?_drop, show j / 5 * 5 + j % 5 = j by omega]; exact hu)
  rw [show j / 5 * (raw 5).sz + j % 5 = j by show j / 5 * 5 + j % 5 = j; omega] at h2
  exact h2
 ·obtain ⟨y, hy, hu⟩ := List.mem_flatten.1 hu
  exact (h5 y hy).2 u hu
 ·have hil := (List.getElem?_eq_some_iff.1 hi).1
  have hy : y ∈ ys := by rw [← (List.getElem?_eq_some_iff.1 hi).2]; exact List.getElem_mem _
  exact ⟨hf2 i y hi, (h5 y hy).1, (h5 y hy).2⟩
theorem C_take {α : Type} {d : Ty α} {w : World} {A : Option Addr} {xs : List α} (h : d.C w A xs) (q : Nat) : d.C w A (xs.take q) :=
 ⟨by have := h.1; rw [List.length_take]; omega, fun i x hx => h.2 i x (by
  rw [List.getElem?_take] at hx
  split at hx
  ·exact hx
  ·cases hx)⟩
theorem C_drop {α : Type} {d : Ty α} {w : World} {A A' : Option Addr} {xs : List α} (h : d.C w A xs) (q : Nat) (hA : xs.length ≤ q ∨ ∃ ad, A = some ad ∧ A' = some (ad.add (q * d.sz))) : d.C w A' (xs.drop q) := by
 rcases hA with hA | ⟨ad, rfl, rfl⟩
 ·rw [List.drop_eq_nil_of_le hA]; exact C_nil _
 ·refine ⟨by have := h.1; rw [List.length_drop]; omega, fun i x hx => ?_⟩
  obtain ⟨ad2, cs, h1, h2, h3⟩ := h.2 (q + i) x (by rw [List.getElem?_drop] at hx; exact hx)
  injection h1 with h1
  subst h1
  refine ⟨ad.add (q * d.sz), cs, rfl, h2, fun j u hu => ?_⟩
  have h4 := h3 j u hu
  rw [Addr.add_add, show q * d.sz + (i * d.sz + j) = (q + i) * d.sz + j by rw [Nat.add_mul]; omega]
  exact h4
theorem C_dropIf {n : Nat} {w : World} {g c q : Nat} {xs : List (List Value)} (h : (raw n).C w (some ⟨g, 0, none⟩) xs) (hl : xs.length ≤ c) : (raw n).C w (if c = q then some ⟨g, 0, none⟩ else some ⟨g, q * n, none⟩) (xs.drop q) := by
 split
 ·exact C_drop h q (.inl (by omega))
 ·exact C_drop h q (.inr ⟨_, rfl, by rw [Addr.add_lit, Nat.zero_add]; rfl⟩)
theorem C_dropIfS {w : World} {g c q : Nat} {xs : List ByteArray} (h : str.C w (some ⟨g, 0, none⟩) xs) (hl : xs.length ≤ c) : str.C w (if c = q then some ⟨g, 0, none⟩ else some ⟨g, q, none⟩) (xs.drop q) := by
 split
 ·exact C_drop h q (.inl (by omega))
 ·exact C_drop h q (.inr ⟨_, rfl, by rw [Addr.add_lit, Nat.zero_add]; show some _ = some (Addr.mk g (q * 1) none); rw [Nat.mul_one]⟩)
theorem R_rawC {α : Type} (d : Ty α) {e : TypeId} {w : World} {S : Nat → Prop} {A : Option Addr} {n c : Nat} {xs : List α} (h : d.R e w S (.slice A n c) xs) : ∃ (C : Nat → List Value) (T : Nat → Nat → Prop),
  (∀ i x, xs[i]? = some x → d.O w (T i) x (C i)) ∧ (∀ i b, T i b → S b ∧ b < w.heap.size) ∧ (∀ i j b, T i b → T j b → i = j) ∧ (raw d.sz).C w A ((List.range xs.length).map C) := by
 obtain ⟨A', c', he, hc, hC⟩ := R_C h
 by_cases h0 : xs.length = 0
 ·obtain rfl := List.eq_nil_of_length_eq_zero h0
  exact ⟨fun _ => [], fun _ _ => False, by simp, by simp, by simp, C_nil _⟩
 ·obtain ⟨g, cap, hv, _, _⟩ := R_form h (by omega)
  injection hv with h1 h2 h3
  subst h1; subst h2; subst h3
  obtain ⟨cur, T, hb, hg, _, hle, _, hcs, hTS, hTT, hO⟩ := R_parts h
  refine ⟨fun i => (cur.toList.drop (i * d.sz)).take d.sz, T, hO, fun i b hb => ⟨(hTS i b hb).1, (hTS i b hb).2.2⟩, hTT, ?_⟩
  refine ⟨by rw [List.length_map, List.length_range]; exact hC.1, fun i x hx => ?_⟩
  rw [List.getElem?_map] at hx
  obtain ⟨i', hi', rfl⟩ := Option.map_eq_some_iff.1 hx
  obtain ⟨hil, hie⟩ := List.getElem?_eq_some_iff.1 hi'
  simp at hil hie
  subst hie
  have hOi := hO i _ (List.getElem?_eq_getElem hil)
  refine ⟨⟨g, 0, none⟩, _, rfl, ⟨rfl, d.K_len (d.O_K hOi), d.K_one (d.O_K hOi)⟩, fun j u hu => ?_⟩
  have hj : j < d.sz := by
   have := (List.getElem?_eq_some_iff.1 hu).1
   rw [List.length_take] at this
   omega
  rw [List.getElem?_take, if_pos hj, List.getElem?_drop] at hu
  show w.cell? ((⟨g, 0, none⟩ : Addr).add (i * d.sz + j)) = some u
  rw [Addr.add_lit, Nat.zero_add]
  unfold World.cell?
  rw [show w.heap[(⟨g, i * d.sz + j, none⟩ : Addr).block]? = some (.cells cur e (0, 0)) from hb]
  simpa using hu
theorem R_cut {α : Type} (d : Ty α) {e : TypeId} {w : World} {S S' : Nat → Prop} {v : Value} {xs : List α} {C : Nat → List Value} {T : Nat → Nat → Prop} {q : Nat} (h : (raw d.sz).R e w S v (((List.range xs.length).map C).take q ++ ((List.range xs.length).map C).drop (q + 1)))
  (hO : ∀ i x, xs[i]? = some x → d.O w (T i) x (C i)) (hTT : ∀ i j b, T i b → T j b → i = j) (hT : ∀ i b, T i b → S' b ∧ ¬ S b) (hS : ∀ k, S k → S' k) : d.R e w S' v (xs.eraseIdx q) := by
 rw [← List.eraseIdx_eq_take_drop_succ] at h
 refine R_of_raw d h (by simp only [List.length_eraseIdx, List.length_map, List.length_range]) (fun i => T (if i < q then i else i + 1)) (fun i x cs hx hc => ?_) (fun i j b h1 h2 => ?_) (fun i b hb => hT _ b hb) hS
 ·rw [List.getElem?_eraseIdx] at hx hc
  have key : ∀ k, xs[k]? = some x → ((List.range xs.length).map C)[k]? = some cs → d.O w (T k) x cs := fun k h1 h2 => by
   have hk := (List.getElem?_eq_some_iff.1 h1).1
   rw [List.getElem?_map, List.getElem?_range hk] at h2
   simp at h2
   subst h2
   exact hO k x h1
  by_cases hi : i < q
  ·rw [if_pos hi] at hx hc ⊢; exact key _ hx hc
  ·rw [if_neg hi] at hx hc ⊢; exact key _ hx hc
 ·have h3 := hTT _ _ b h1 h2
  split at h3 <;> split at h3 <;> omega
theorem ins_at {β : Type} (l : List β) (y : β) (q i : Nat) (hq : q ≤ l.length) : (l.take q ++ y :: l.drop q)[i]? = if i < q then l[i]? else if i = q then some y else l[i - 1]? := by
 rw [List.getElem?_append, List.length_take, Nat.min_eq_left hq]
 by_cases hi : i < q
 ·rw [if_pos hi, if_pos hi, List.getElem?_take, if_pos hi]
 ·rw [if_neg hi, if_neg hi]
  by_cases he : i = q
  ·subst he; simp
  ·rw [if_neg he, show i - q = (i - q - 1) + 1 by omega, List.getElem?_cons_succ, List.getElem?_drop, show q + (i - q - 1) = i - 1 by omega]
theorem R_ins {α : Type} (d : Ty α) {e : TypeId} {w : World} {S S' Tv : Nat → Prop} {v : Value} {xs : List α} {C : Nat → List Value} {T : Nat → Nat → Prop} {q : Nat} {y : α} {cy : List Value} (hq : q ≤ xs.length) (h : (raw d.sz).R e w S v (((List.range xs.length).map C).take q ++ cy :: ((List.range xs.length).map C).drop q))
  (hO : ∀ i x, xs[i]? = some x → d.O w (T i) x (C i)) (hy : d.O w Tv y cy) (hTT : ∀ i j b, T i b → T j b → i = j) (hTv : ∀ i b, T i b → ¬ Tv b) (hT : ∀ i b, T i b → S' b ∧ ¬ S b) (hTv2 : ∀ b, Tv b → S' b ∧ ¬ S b) (hS : ∀ k, S k → S' k) : d.R e w S' v (xs.take q ++ y :: xs.drop q) := by
 refine R_of_raw d h (by simp) (fun i => if i < q then T i else if i = q then Tv else T (i - 1)) (fun i x cs hx hc => ?_) (fun i j b h1 h2 => ?_) (fun i b hb => ?_) hS
 ·rw [ins_at _ _ _ _ (by simpa using hq)] at hc
  rw [ins_at _ _ _ _ hq] at hx
  have key : ∀ k, xs[k]? = some x → ((List.range xs.length).map C)[k]? = some cs → d.O w (T k) x cs := fun k h1 h2 => by
   have hk := (List.getElem?_eq_some_iff.1 h1).1
   rw [List.getElem?_map, List.getElem?_range hk] at h2
   simp at h2
   subst h2
   exact hO k x h1
  show d.O w (if i < q then T i else if i = q then Tv else T (i - 1)) x cs
  by_cases hi : i < q
  ·rw [if_pos hi] at hx hc ⊢; exact key _ hx hc
  ·rw [if_neg hi] at hx hc ⊢
   by_cases he : i = q
   ·rw [if_pos he] at hx hc ⊢
    injection hx with hx; injection hc with hc
    subst hx; subst hc
    exact hy
   ·rw [if_neg he] at hx hc ⊢; exact key _ hx hc
 ·(try simp only at h1 h2)
  by_cases hi : i < q <;> by_cases hj : j < q <;> by_cases hi2 : i = q <;> by_cases hj2 : j = q <;> simp only [hi, hj, hi2, hj2, if_true, if_false, Nat.lt_irrefl] at h1 h2 <;> first
   | omega
   | (exact absurd h1 (hTv _ _ h2))
   | (exact absurd h2 (hTv _ _ h1))
   | (have h3 := hTT _ _ _ h1 h2; omega)
 ·(try simp only at hb)
  split at hb
  ·exact hT _ _ hb
  ·split at hb
   ·exact hTv2 _ hb
   ·exact hT _ _ hb
theorem R_cutS {w : World} {e : TypeId} {S : Nat → Prop} {v : Value} {xs : List ByteArray} {q : Nat} (h : str.R e w S v (xs.take q ++ xs.drop (q + 1))) : str.R e w S v (xs.eraseIdx q) := by rw [List.eraseIdx_eq_take_drop_succ]; exact h
end Go.Proofs.YtegcecnjmimbiaaGreatDoor.X
