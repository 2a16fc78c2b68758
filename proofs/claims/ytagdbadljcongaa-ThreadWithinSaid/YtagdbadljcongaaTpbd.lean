/- Texts behind ThreadWithin, part 30: contracts of the program's functions and the plain words for them. -/
import Derived.Test.YtagdbadljcongaaTpav
import Derived.Test.YtagdbadljcongaaTpaw
import Derived.Test.YtagdbadljcongaaTpax
import Derived.Test.YtagdbadljcongaaTpba
import Derived.Test.YtagdbadljcongaaTpbb
import Derived.Test.YtagdbadljcongaaTpbc
section
/- The reference's Longest in plain Lean. -/
set_option linter.unusedVariables false
set_option linter.unusedSimpArgs false
namespace Go.Proofs.Ytagdbadljcongaa.X
open Go Go.RowKit Go.Proofs.YtagdbadljcongaaW.PrintWords Go.Proofs.YtagdbadljcongaaW.PrintLast Go.Proofs.YtagdbadljcongaaW.PrintMore
theorem rd_nat {l : List Int} (i : Nat) (h : i < l.length) : rd l (i : Int) = l[i] := by simp [rd, List.getD_eq_getElem?_getD, h]
theorem rd_set_eq {l : List Int} {i : Nat} {v : Int} (h : i < l.length) : rd (l.set i v) (i : Int) = v := by simp [rd, List.getD_eq_getElem?_getD, h]
theorem rd_set_ne {l : List Int} {i j : Nat} {v : Int} (h : i ≠ j) : rd (l.set i v) (j : Int) = rd l (j : Int) := by simp [rd, List.getD_eq_getElem?_getD, h]
theorem rdL_set_eq {l : List (List Int)} {i : Nat} {v : List Int} (h : i < l.length) : rd_L4 (l.set i v) (i : Int) = v := by simp [rd_L4, List.getD_eq_getElem?_getD, h]
theorem rdL_set_ne {l : List (List Int)} {i j : Nat} {v : List Int} (h : i ≠ j) : rd_L4 (l.set i v) (j : Int) = rd_L4 l (j : Int) := by simp [rd_L4, List.getD_eq_getElem?_getD, h]
/-- The rows behind row i are done. -/
structure TabOk (x0 x1 : ByteArray) (i : Int) (t : List (List Int)) : Prop where
  len : t.length = x0.size + 1
  row : ∀ a : Nat, a ≤ x0.size → i < (a : Int) → (rd_L4 t (a : Int)).length = x1.size + 1 ∧ ∀ b : Nat, b ≤ x1.size → rd (rd_L4 t (a : Int)) (b : Int) = (lcA (bl x0) (bl x1) a b : Int)
/-- A row's places behind place j are done. -/
structure RowOk (x0 x1 : ByteArray) (i : Nat) (j : Int) (r : List Int) : Prop where
  len : r.length = x1.size + 1
  at_ : ∀ b : Nat, b ≤ x1.size → j < (b : Int) → rd r (b : Int) = (lcA (bl x0) (bl x1) i b : Int)
theorem RowOk.start (x0 x1 : ByteArray) (i : Nat) : RowOk x0 x1 i ((x1.size : Int) - 1) (List.replicate (x1.size + 1) 0) := by
  refine ⟨by simp, fun b hb h => ?_⟩
  rw [lcA_out (.inr (by rw [bl_length]; omega))]
  have e : b = x1.size := by omega
  subst e
  simp [rd]
theorem TabOk.put {x0 x1 : ByteArray} {i : Nat} {t : List (List Int)} {r : List Int} (h : TabOk x0 x1 (i : Int) t) (hi : i ≤ x0.size) (hr : RowOk x0 x1 i (-1) r) : TabOk x0 x1 ((i : Int) - 1) (t.set i r) := by
  refine ⟨by simp [h.len], fun a ha hia => ?_⟩
  by_cases e : i = a
  · subst e
    rw [rdL_set_eq (by rw [h.len]; omega)]
    exact ⟨hr.len, fun b hb => hr.at_ b hb (by omega)⟩
  · rw [rdL_set_ne e]
    exact h.row a ha (by omega)
theorem ltr_byte {x : ByteArray} {i : Nat} (h : i < x.size) : bt x (i : Int) = (((bl x)[i]'(by rw [bl_length]; exact h) : Nat) : Int) := bt_bl2 x i h
theorem bl_one3 {y : Nat} (h : y < 256) : bl (strOfNums [(y : Int)]) = [y] := by
  unfold bl
  rw [strOfNums_data]
  simp [UInt8.toNat_ofNat']
  omega
theorem mx_max (a b : Int) : mx a b = max a b := by unfold mx; split <;> omega
theorem RowOk.zero (x0 x1 : ByteArray) : RowOk x0 x1 x0.size (-1) (List.replicate (x1.size + 1) 0) := by
  refine ⟨by simp, fun b hb h => ?_⟩
  rw [lcA_out (.inl (by rw [bl_length]; omega)), rd_nat b (by simp; omega)]
  simp
theorem RowOk.put {x0 x1 : ByteArray} {i j : Nat} {r : List Int} {v : Int} (h : RowOk x0 x1 i (j : Int) r) (hj : j < x1.size) (hv : v = (lcA (bl x0) (bl x1) i j : Int)) : RowOk x0 x1 i ((j : Int) - 1) (r.set j v) := by
  refine ⟨by simp [h.len], fun b hb hjb => ?_⟩
  by_cases e : j = b
  · subst e
    rw [rd_set_eq (by rw [h.len]; omega), hv]
  · rw [rd_set_ne e]
    exact h.at_ b hb (by omega)
theorem l2_up {x0 x1 : ByteArray} {T : List (List Int)} {o9 o : ByteArray} {i j : Int} {k : Nat} (h : tickingref03_Longest.l2 k x0 x1 T o9 i j = some o) : ∀ m, tickingref03_Longest.l2 (k + m) x0 x1 T o9 i j = some o
  | 0 => h
  | m + 1 => (tickingref03_Longest.mono_l (k + m)).2.2.2.1 _ _ _ _ _ _ _ (l2_up h m)
theorem l3_letter {k : Nat} {x0 x1 : ByteArray} {T : List (List Int)} {o9 : ByteArray} {i j c p q : Nat} (h0 : x0.size ≤ 60) (h1 : x1.size ≤ 60) (hi : i ≤ x0.size) (hj : j ≤ x1.size) (hT : TabOk x0 x1 (-1) T) (hc : c < 4) (hk : 61 < k) (ho : o9.size ≤ 60) (hp : nx (bl x0) i (97 + c) = p) (hq : nx (bl x1) j (97 + c) = q) :
    tickingref03_Longest.l3 (k + 1) x0 x1 T o9 (i : Int) (j : Int) ((97 + c : Nat) : Int) = if gd (bl x0) (bl x1) i j c = true then tickingref03_Longest.l2 k x0 x1 T (o9 ++ strOfNums [((97 + c : Nat) : Int)]) ((p + 1 : Nat) : Int) ((q + 1 : Nat) : Int) else tickingref03_Longest.l3 k x0 x1 T o9 (i : Int) (j : Int) ((97 + (c + 1) : Nat) : Int) := by
  have hn1 := next_f x0 (by omega) (97 + c) i k hi (by omega)
  have hn2 := next_f x1 (by omega) (97 + c) j k hj (by omega)
  have hw : (((97 + c : Nat) : Int) + 1) % 256 = ((97 + (c + 1) : Nat) : Int) := by omega
  have hpl := nx_le (bl x0) i (97 + c) (by rw [bl_length]; exact hi)
  have hql := nx_le (bl x1) j (97 + c) (by rw [bl_length]; exact hj)
  rw [hp, bl_length] at hpl
  rw [hq, bl_length] at hql
  conv => lhs; unfold tickingref03_Longest.l3
  rw [if_pos (by omega), hn1, hn2]
  simp only [Option.bind_some]
  unfold nxI
  rw [hp, hq, bl_length, bl_length, hw]
  by_cases e1 : p < x0.size
  · rw [if_pos e1, if_pos (by omega)]
    by_cases e2 : q < x1.size
    · have ti := hT.row i hi (by omega)
      have tp := hT.row (p + 1) (by omega) (by omega)
      have v1 := ti.2 j hj
      have v2 := tp.2 (q + 1) (by omega)
      have l1 := lcA_le (bl x0) (bl x1) (p + 1) (q + 1)
      rw [bl_length] at l1
      have hl := hT.len
      rw [if_pos e2, if_pos (by omega), if_pos (by omega), if_pos (by omega), if_pos (by omega), if_pos (by rw [tp.1]; omega), if_pos (by omega), if_pos (by omega), if_pos (by omega), if_pos (by rw [ti.1]; omega), v1, v2, IntWalk.wrap64_in _ (by omega)]
      have hg : gd (bl x0) (bl x1) i j c = true ↔ (1 + (lcA (bl x0) (bl x1) (p + 1) (q + 1) : Int) = (lcA (bl x0) (bl x1) i j : Int)) := by
        rw [gd_iff, hp, hq, bl_length, bl_length]
        exact ⟨fun ⟨_, _, h⟩ => by omega, fun h => ⟨e1, e2, by omega⟩⟩
      by_cases e3 : (1 + (lcA (bl x0) (bl x1) (p + 1) (q + 1) : Int) = (lcA (bl x0) (bl x1) i j : Int))
      · rw [if_pos e3, if_pos (hg.2 e3), if_pos (by rw [strOfNums_size]; simp; omega)]
      · rw [if_neg e3, if_neg (fun h => e3 (hg.1 h))]
    · rw [if_neg e2, if_neg (by omega), if_neg (fun h => e2 (by have := ((gd_iff _ _ _ _ _).1 h).2.1; rwa [hq, bl_length] at this))]
  · rw [if_neg e1, if_neg (by omega), if_neg (fun h => e1 (by have := ((gd_iff _ _ _ _ _).1 h).1; rwa [hp, bl_length] at this))]
theorem l2_ev {x0 x1 : ByteArray} {T : List (List Int)} (h0 : x0.size ≤ 60) (h1 : x1.size ≤ 60) (hU : Ltr 4 (bl x0)) (hT : TabOk x0 x1 (-1) T) : ∀ (N i j : Nat) (o9 : ByteArray), i ≤ x0.size → j ≤ x1.size → lcA (bl x0) (bl x1) i j = N → o9.size ≤ i →
    ∃ k o, tickingref03_Longest.l2 k x0 x1 T o9 (i : Int) (j : Int) = some o ∧ bl o = bl o9 ++ lgN (bl x0) (bl x1) N i j
  | 0, i, j, o9, hi, hj, hN, ho => by
    have ti := hT.row i hi (by omega)
    refine ⟨1, o9, ?_, by simp [lgN]⟩
    unfold tickingref03_Longest.l2
    rw [if_pos (by omega), if_pos (by rw [hT.len]; omega), if_pos (by omega), if_pos (by rw [ti.1]; omega), ti.2 j hj, hN, if_neg (by decide)]
  | N + 1, i, j, o9, hi, hj, hN, ho => by
    have ti := hT.row i hi (by omega)
    obtain ⟨c, hc, hg, hb⟩ := first4 (gd_ex (w := bl x1) hU (by rw [bl_length]; exact hi) (by rw [bl_length]; exact hj) (by omega : 0 < lcA (bl x0) (bl x1) i j))
    obtain ⟨p, hp⟩ : ∃ p, nx (bl x0) i (97 + c) = p := ⟨_, rfl⟩
    obtain ⟨q, hq⟩ : ∃ p, nx (bl x1) j (97 + c) = p := ⟨_, rfl⟩
    obtain ⟨g1, g2, g3⟩ := (gd_iff _ _ _ _ _).1 hg
    have hpi := (nx_le (bl x0) i (97 + c) (by rw [bl_length]; exact hi)).1
    rw [hp] at hpi
    rw [hp, bl_length] at g1
    rw [hq, bl_length] at g2
    rw [hp, hq] at g3
    have hsz : (o9 ++ strOfNums [((97 + c : Nat) : Int)]).size = o9.size + 1 := by rw [ByteArray.size_append, strOfNums_size]; rfl
    obtain ⟨k, o, hk, ho2⟩ := l2_ev h0 h1 hU hT N (p + 1) (q + 1) (o9 ++ strOfNums [((97 + c : Nat) : Int)]) (by omega) (by omega) (by omega) (by omega)
    have hbl : bl o = bl o9 ++ lgN (bl x0) (bl x1) (N + 1) i j := by
      rw [ho2, lgN_step hc hg hb, hp, hq, bl_append, show bl (strOfNums [((97 + c : Nat) : Int)]) = [97 + c] from bl_one3 (by omega)]
      simp
    have key : ∀ e d, d + e = c → ∃ k, tickingref03_Longest.l3 k x0 x1 T o9 (i : Int) (j : Int) ((97 + d : Nat) : Int) = some o := by
      intro e
      induction e with
      | zero =>
        intro d hd
        obtain rfl : d = c := by omega
        refine ⟨k + 62 + 1, ?_⟩
        rw [l3_letter h0 h1 hi hj hT hc (by omega) (by omega) hp hq, if_pos hg]
        exact l2_up hk 62
      | succ e ih =>
        intro d hd
        obtain ⟨k2, hk2⟩ := ih (d + 1) (by omega)
        refine ⟨k2 + 62 + 1, ?_⟩
        rw [l3_letter h0 h1 hi hj hT (show d < 4 by omega) (by omega) (by omega) rfl rfl, if_neg (by rw [hb d (by omega)]; decide)]
        have up : ∀ m, tickingref03_Longest.l3 (k2 + m) x0 x1 T o9 (i : Int) (j : Int) ((97 + (d + 1) : Nat) : Int) = some o := by
          intro m
          induction m with
          | zero => exact hk2
          | succ m ihm => exact (tickingref03_Longest.mono_l (k2 + m)).2.2.2.2 _ _ _ _ _ _ _ _ ihm
        exact up 62
    obtain ⟨k3, hk3⟩ := key c 0 (by omega)
    refine ⟨k3 + 1, o, ?_, hbl⟩
    unfold tickingref03_Longest.l2
    rw [if_pos (by omega), if_pos (by rw [hT.len]; omega), if_pos (by omega), if_pos (by rw [ti.1]; omega), ti.2 j hj, hN, if_pos (by omega)]
    exact hk3
theorem l1_ev {x0 x1 : ByteArray} (h0 : x0.size ≤ 60) (h1 : x1.size ≤ 60) {T : List (List Int)} {i : Nat} (hi : i < x0.size) (hT : TabOk x0 x1 (i : Int) T) (Res : ByteArray → Prop) (H : ∀ r', RowOk x0 x1 i (-1) r' → ∃ k o, tickingref03_Longest.l0 k x0 x1 (T.set i r') ((i : Int) - 1) = some o ∧ Res o) :
    ∀ (d : Nat) (j : Int) (r : List Int), (j + 1).toNat = d → -1 ≤ j → j < (x1.size : Int) → RowOk x0 x1 i j r → ∃ k o, tickingref03_Longest.l1 k x0 x1 T (i : Int) r j = some o ∧ Res o
  | 0, j, r, hd, hj1, hj2, hr => by
    obtain rfl : j = -1 := by omega
    obtain ⟨k, o, hk, ho⟩ := H r hr
    refine ⟨k + 2, o, ?_, ho⟩
    unfold tickingref03_Longest.l1
    rw [if_neg (by omega)]
    unfold tickingref03_Longest.j2
    rw [if_neg (by decide), if_pos (by omega), if_pos (by rw [hT.len]; omega), IntWalk.wrap64_in _ (by omega), Int.toNat_natCast]
    exact hk
  | d + 1, j, r, hd, hj1, hj2, hr => by
    obtain ⟨j, rfl⟩ := Int.eq_ofNat_of_zero_le (show 0 ≤ j by omega)
    have hj : j < x1.size := by omega
    have hiu : i < (bl x0).length := by rw [bl_length]; exact hi
    have hjs : j < (bl x1).length := by rw [bl_length]; exact hj
    have t1 := hT.row (i + 1) (by omega) (by omega)
    have hlc := lcA_in hiu hjs
    have v1 := hr.at_ (j + 1) (by omega) (by omega)
    have v2 := t1.2 j (by omega)
    have v3 := t1.2 (j + 1) (by omega)
    have b3 := lcA_le (bl x0) (bl x1) (i + 1) (j + 1)
    rw [bl_length] at b3
    have W1 := Aside0.mk (show wrap64 ((j : Int) + 1) = ((j + 1 : Nat) : Int) from wr1 (by omega))
    have W2 := Aside0.mk (show wrap64 ((i : Int) + 1) = ((i + 1 : Nat) : Int) from wr1 (by omega))
    have W3 := Aside0.mk (show wrap64 ((j : Int) - 1) = (j : Int) - 1 from IntWalk.wrap64_in _ (by omega))
    obtain ⟨v, hv⟩ : ∃ v, mx (rd r ((j + 1 : Nat) : Int)) (rd (rd_L4 T ((i + 1 : Nat) : Int)) (j : Int)) = v := ⟨_, rfl⟩
    have hvm : v = max (lcA (bl x0) (bl x1) i (j + 1) : Int) (lcA (bl x0) (bl x1) (i + 1) j : Int) := by rw [← hv, mx_max, v1, v2]
    have hrl := hr.len
    have hrs : (r.set j v).length = x1.size + 1 := by simp [hrl]
    by_cases hab : (bl x0)[i] = (bl x1)[j]
    · rw [if_pos hab] at hlc
      obtain ⟨k, o, hk, ho⟩ := l1_ev h0 h1 hi hT Res H d ((j : Int) - 1) ((r.set j v).set j (mx v (wrap64 (1 + (lcA (bl x0) (bl x1) (i + 1) (j + 1) : Int))))) (by omega) (by omega) (by omega) (by
        rw [List.set_set]
        refine hr.put hj ?_
        rw [mx_max, IntWalk.wrap64_in _ (by omega), hvm, hlc]
        omega)
      refine ⟨k + 2, o, ?_, ho⟩
      unfold tickingref03_Longest.l1
      rw [if_pos (by omega), decide_eq_true (by omega)]
      unfold tickingref03_Longest.j2
      rw [if_pos rfl, W1.out, W2.out, if_pos (by omega), if_pos (by omega), if_pos (by omega), if_pos (by rw [hT.len]; omega), if_pos (by omega), if_pos (by rw [t1.1]; omega), if_pos (by omega), Int.toNat_natCast, hv]
      simp only [Option.bind_some]
      rw [if_pos (by omega), if_pos (by omega), if_pos (by omega), ltr_byte hi, ltr_byte hj, if_pos (by rw [hab]), if_pos (by rw [t1.1]; omega), rd_set_eq (by omega), v3, W3.out]
      exact hk
    · rw [if_neg hab] at hlc
      obtain ⟨k, o, hk, ho⟩ := l1_ev h0 h1 hi hT Res H d ((j : Int) - 1) (r.set j v) (by omega) (by omega) (by omega) (by
        refine hr.put hj ?_
        rw [hvm, hlc]
        omega)
      refine ⟨k + 2, o, ?_, ho⟩
      unfold tickingref03_Longest.l1
      rw [if_pos (by omega), decide_eq_true (by omega)]
      unfold tickingref03_Longest.j2
      rw [if_pos rfl, W1.out, W2.out, if_pos (by omega), if_pos (by omega), if_pos (by omega), if_pos (by rw [hT.len]; omega), if_pos (by omega), if_pos (by rw [t1.1]; omega), if_pos (by omega), Int.toNat_natCast, hv]
      simp only [Option.bind_some]
      rw [if_pos (by omega), if_pos (by omega), if_pos (by omega), ltr_byte hi, ltr_byte hj, if_neg (fun e => hab (by omega)), W3.out]
      exact hk
theorem l0_ev {x0 x1 : ByteArray} (h0 : x0.size ≤ 60) (h1 : x1.size ≤ 60) (hU : Ltr 4 (bl x0)) : ∀ (d : Nat) (i : Int) (T : List (List Int)), (i + 1).toNat = d → -1 ≤ i → i ≤ (x0.size : Int) → TabOk x0 x1 i T → ∃ k o, tickingref03_Longest.l0 k x0 x1 T i = some o ∧ bl o = lgW (bl x0) (bl x1)
  | 0, i, T, hd, hi1, hi2, hT => by
    obtain rfl : i = -1 := by omega
    obtain ⟨k, o, hk, ho⟩ := l2_ev h0 h1 hU hT _ 0 0 ⟨#[]⟩ (Nat.zero_le _) (Nat.zero_le _) rfl (by simp [ByteArray.size])
    refine ⟨k + 1, o, ?_, by rw [ho]; simp [bl, lgW]⟩
    unfold tickingref03_Longest.l0
    rw [if_neg (by omega)]
    exact hk
  | d + 1, i, T, hd, hi1, hi2, hT => by
    obtain ⟨i, rfl⟩ := Int.eq_ofNat_of_zero_le (show 0 ≤ i by omega)
    have W1 := Aside0.mk (show wrap64 ((x1.size : Int) + 1) = ((x1.size + 1 : Nat) : Int) from wr1 (by omega))
    have W2 := Aside0.mk (show wrap64 ((x1.size : Int) - 1) = (x1.size : Int) - 1 from IntWalk.wrap64_in _ (by omega))
    have H : ∀ r', RowOk x0 x1 i (-1) r' → ∃ k o, tickingref03_Longest.l0 k x0 x1 (T.set i r') ((i : Int) - 1) = some o ∧ bl o = lgW (bl x0) (bl x1) := fun r' hr' =>
      l0_ev h0 h1 hU d ((i : Int) - 1) (T.set i r') (by omega) (by omega) (by omega) (hT.put (by omega) hr')
    have key : ∃ k o, tickingref03_Longest.l1 k x0 x1 T (i : Int) (List.replicate (x1.size + 1) 0) ((x1.size : Int) - 1) = some o ∧ bl o = lgW (bl x0) (bl x1) := by
      by_cases e : i < x0.size
      · exact l1_ev h0 h1 e hT (fun o => bl o = lgW (bl x0) (bl x1)) H _ _ _ rfl (by omega) (by omega) (RowOk.start x0 x1 i)
      · obtain rfl : i = x0.size := by omega
        obtain ⟨k, o, hk, ho⟩ := H _ (RowOk.zero x0 x1)
        refine ⟨k + 2, o, ?_, ho⟩
        have hj : tickingref03_Longest.j2 (k + 1) x0 x1 T (x0.size : Int) (List.replicate (x1.size + 1) 0) ((x1.size : Int) - 1) false = some o := by
          unfold tickingref03_Longest.j2
          rw [if_neg (by decide), if_pos (by omega), if_pos (by rw [hT.len]; omega), IntWalk.wrap64_in _ (by omega), Int.toNat_natCast]
          exact hk
        unfold tickingref03_Longest.l1
        rw [decide_eq_false (by omega)]
        split <;> exact hj
    obtain ⟨k, o, hk, ho⟩ := key
    refine ⟨k + 1, o, ?_, ho⟩
    unfold tickingref03_Longest.l0
    rw [if_pos (by omega), W1.out, if_pos (by omega), if_pos (by omega), W2.out, Int.toNat_natCast]
    exact hk
theorem rlongest_any (x0 x1 o : ByteArray) (w : World) (h0 : isW (bl x0) = true) (h1 : x1.size ≤ 60) (ho : bl o = lgW (bl x0) (bl x1)) : Calls Try.prog 40 #[.string x0, .string x1] w fun e w' => e = .returned (.string o) ∧ Below w.heap.size w w' := by
  have hx := (isW_iff _).1 h0
  have hx60 : x0.size ≤ 60 := by rw [← bl_length]; exact hx.1
  obtain ⟨k, o2, hk, ho2⟩ := l0_ev (x1 := x1) hx60 h1 (ltr4 hx.2) _ (x0.size : Int) (List.replicate (x0.size + 1) []) rfl (by omega) (by omega) ⟨by simp, fun a ha h => by omega⟩
  have : o2 = o := bl_inj (ho2.trans ho.symm)
  subst this
  refine tickingref03_Longest.calls k x0 x1 o2 w ?_
  unfold tickingref03_Longest.f
  rw [wr1 (by omega), if_pos (by omega), if_pos (by omega), Int.toNat_natCast]
  exact hk
end Go.Proofs.Ytagdbadljcongaa.X
end

section
/- The law ThreadWithin, walked. -/
set_option linter.unusedVariables false
set_option linter.unusedSimpArgs false
namespace Go.Proofs.Ytagdbadljcongaa.X
open Go Go.RowKit Go.Proofs Go.Proofs.YtagdbadljcongaaW.PrintWords Go.Proofs.YtagdbadljcongaaW.PrintLast Go.Proofs.YtagdbadljcongaaW.PrintMore
theorem wth_len (l : List Nat) : ∀ (u : List Nat) (i : Nat) (xs : List Nat), wth l i u = some xs → xs.length = u.length
  | [], i, xs, h => by
    unfold wth at h
    injection h with h
    subst h; rfl
  | c :: u, i, xs, h => by
    unfold wth at h
    split at h
    · obtain ⟨ys, h1, rfl⟩ := Option.map_eq_some_iff.1 h
      rw [List.length_cons, List.length_cons, wth_len l u _ ys h1]
    · cases h
set_option maxHeartbeats 4000000 in
set_option maxRecDepth 100000 in
theorem longest_bad (u s : ByteArray) (w : World) (h : ¬ (isW (bl u) = true ∧ isW (bl s) = true)) : Calls Try.prog 39 #[.string u, .string s] w fun e w' => e = .returned (.tuple #[.string ⟨#[]⟩, .int .i64 2]) ∧ Below w.heap.size w w' := by
  obtain ⟨a, ha⟩ : ∃ a, isW (bl u) = a := ⟨_, rfl⟩
  obtain ⟨c, hc⟩ : ∃ c, isW (bl s) = c := ⟨_, rfl⟩
  have HA := Aside0.mk ha
  have HC := Aside0.mk hc
  rw [ha, hc] at h
  clear ha hc
  cases a <;> cases c
  case true.true => exact absurd ⟨rfl, rfl⟩ h
  all_goals
    clear h
    go_enter Try.func39, Try.ntmps39
    go_upto_region 4 with (first | (go_at_call 48; (with_reducible refine (newWord_b u _ _ HA.out).mono ?_); rintro e w1 ⟨pu, rfl, hb⟩; have HB := Aside0.mk hb; clear hb) | (go_at_call 48; (with_reducible refine (newWord_b s _ _ HC.out).mono ?_); rintro e w2 ⟨ps, rfl, hb⟩; have HB2 := Aside0.mk (below_step HB.out (below_step (below_alloc (Below.refl _ _) _) hb)); clear hb))
    have HB3 := Aside0.mk (below_alloc HB2.out (.cells #[.pointer ps] 70))
    go_wp2
    go_ret2
    exact ⟨rfl, HB3.out⟩
set_option maxHeartbeats 8000000 in
set_option maxRecDepth 1000000 in
theorem ThreadWithin_calls (a0 a1 : ByteArray) (w : World) : Calls Try.prog 11 #[.string a0, .string a1] w fun e w' => e = .returned (.bool true) ∧ Below w.heap.size w w' := by
  go_enter Try.func11, Try.ntmps11
  go_upto_region 2 with (first | (go_at_call 17; (with_reducible refine (short_any a0 w).mono ?_); rintro e w1 ⟨x, rfl, HX, hb⟩; have HB1 := Aside0.mk hb; clear hb) | (go_at_call 17; (with_reducible refine (short_any a1 _).mono ?_); rintro e w2 ⟨y, rfl, HY, hb⟩; have HB2 := Aside0.mk (below_step HB1.out hb); clear hb))
  by_cases hW : isW (bl x) = true ∧ isW (bl y) = true
  · have HA := Aside0.mk hW.1
    have HC := Aside0.mk hW.2
    have hx60 : x.size ≤ 60 := by rw [← bl_length]; exact ((isW_iff _).1 hW.1).1
    have hy60 : y.size ≤ 60 := by rw [← bl_length]; exact ((isW_iff _).1 hW.2).1
    have HY60 := Aside0.mk hy60
    obtain ⟨r, hr⟩ : ∃ r, wth (bl y) 0 (bl x) = r := ⟨_, rfl⟩
    have HX60 := Aside0.mk hx60
    have HR := Aside0.mk hr
    have RW := Aside0.mk (fun W => rwithin_any x y W (by omega) (by omega) r hr)
    have PW := Aside0.mk (fun W => within_ok x y W hW.1 hW.2 r hr)
    clear hW hx60 hy60 hr
    cases r with
    | none =>
      have PN := Aside0.mk (fun W => show Calls Try.prog 32 #[.string x, .string y] W fun e w' => e = .returned (.tuple #[.slice none 0 0, .int .i64 6]) ∧ Below W.heap.size W w' from (PW.out W).mono (by rintro e w' ⟨v, ⟨rfl, h1⟩, h2⟩; exact ⟨h1, h2⟩))
      clear PW
      go_wp2_with (first | (go_at_call 32; (with_reducible refine (PN.out _).mono ?_); rintro e w3 ⟨rfl, hb⟩; have HB3 := Aside0.mk (below_step HB2.out hb); clear hb) | (go_at_call 39; (with_reducible refine (longest_ok x y _ HA.out HC.out _ rfl).mono ?_); rintro e w4 ⟨o, ho, rfl, hb⟩; have HO := Aside0.mk ho; have HB4 := Aside0.mk (below_step HB3.out hb); clear hb ho) | (go_at_call 20; (with_reducible refine (word_any x true _ (by have := HX.out; omega) HA.out).mono ?_); rintro e w5 ⟨rfl, hd⟩; have HB5 := Aside0.mk (below_step HB4.out hd.below); clear hd) | (go_at_call 20; (with_reducible refine (word_any y true _ (by have := HY.out; omega) HC.out).mono ?_); rintro e w6 ⟨rfl, hd⟩; have HB6 := Aside0.mk (below_step HB5.out hd.below); clear hd) | (go_at_call 40; (with_reducible refine (rlongest_any x y o _ HA.out HY60.out HO.out).mono ?_); rintro e w7 ⟨rfl, hb⟩; have HB7 := Aside0.mk (below_step HB6.out hb); clear hb) | (go_at_call 34; (with_reducible refine (RW.out _).mono ?_); rintro e w8 ⟨v8, rfl, _, hb⟩; have HB8 := Aside0.mk (below_step HB7.out hb); clear hb) | (go_at_call 22; (with_reducible refine (awake_ok _).mono ?_); rintro e w9 ⟨rfl, hb⟩; have HB9 := Aside0.mk (below_step HB8.out hb); clear hb))
      go_ret
      exact ⟨rfl, HB9.out⟩
    | some ls =>
      obtain ⟨xs, hxs⟩ : ∃ xs : List Int, (ls.map fun (n : Nat) => (n : Int)) = xs := ⟨_, rfl⟩
      have PS := Aside0.mk (fun W => show Calls Try.prog 32 #[.string x, .string y] W fun e w' => ∃ A c, e = .returned (.tuple #[.slice A xs.length c, .int .i64 0]) ∧ Aside0 (xs.length ≤ c ∧ Kd.C (Kd.int .i64) w' A xs.length xs) ∧ Below W.heap.size W w' from (PW.out W).mono (by
        rintro e w' ⟨v, ⟨rfl, h1⟩, h2⟩
        rw [hxs] at h1
        obtain ⟨A, c, rfl⟩ := Kd.R_slice h1
        exact ⟨A, c, rfl, ⟨(Kd.R_reads' h1).2⟩, h2⟩))
      have RS := Aside0.mk (fun W => show Calls Try.prog 34 #[.string x, .string y] W fun e w' => ∃ A c, e = .returned (.tuple #[.slice A xs.length c, .bool true]) ∧ Aside0 (xs.length ≤ c ∧ Kd.C (Kd.int .i64) w' A xs.length xs) ∧ Below W.heap.size W w' from (RW.out W).mono (by
        rintro e w' ⟨v, rfl, ⟨h1⟩, h2⟩
        have h1 := h1 ls rfl
        rw [hxs] at h1
        obtain ⟨A, c, rfl⟩ := Kd.R_slice h1
        exact ⟨A, c, rfl, ⟨(Kd.R_reads' h1).2⟩, h2⟩))
      have HXB := Aside0.mk (show xs.length ≤ 1000000 by
        rw [← hxs, List.length_map, wth_len _ _ _ _ HR.out, bl_length]
        have := HX60.out
        omega)
      clear PW RW hxs
      go_wp2_with (first | (go_at_call 32; (with_reducible refine (PS.out _).mono ?_); rintro e w3 ⟨A, c, rfl, HD, hb⟩; have HB3 := Aside0.mk (below_step HB2.out hb); clear hb) | (go_at_call 39; (with_reducible refine (longest_ok x y _ HA.out HC.out _ rfl).mono ?_); rintro e w4 ⟨o, ho, rfl, hb⟩; have HO := Aside0.mk ho; have HD4 := Aside0.mk (Kd.C_below HD.out.2 hb); have HB4 := Aside0.mk (below_step HB3.out hb); clear hb ho) | (go_at_call 20; (with_reducible refine (word_any x true _ (by have := HX.out; omega) HA.out).mono ?_); rintro e w5 ⟨rfl, hd⟩; have HD5 := Aside0.mk (Kd.C_below HD4.out hd.below); have HB5 := Aside0.mk (below_step HB4.out hd.below); clear hd) | (go_at_call 20; (with_reducible refine (word_any y true _ (by have := HY.out; omega) HC.out).mono ?_); rintro e w6 ⟨rfl, hd⟩; have HD6 := Aside0.mk (Kd.C_below HD5.out hd.below); have HB6 := Aside0.mk (below_step HB5.out hd.below); clear hd) | (go_at_call 40; (with_reducible refine (rlongest_any x y o _ HA.out HY60.out HO.out).mono ?_); rintro e w7 ⟨rfl, hb⟩; have HD7 := Aside0.mk (Kd.C_below HD6.out hb); have HB7 := Aside0.mk (below_step HB6.out hb); clear hb) | (go_at_call 34; (with_reducible refine (RS.out _).mono ?_); rintro e w8 ⟨B, d, rfl, HE, hb⟩; have HD8 := Aside0.mk (Kd.C_below HD7.out hb); have HB8 := Aside0.mk (below_step HB7.out hb); clear hb) | (go_at_call 23; (with_reducible refine (ints_yes _ _ _ _ _ _ HXB.out HD8.out HD.out.1 HE.out.2 HE.out.1).mono ?_); rintro e w10 ⟨rfl, hd⟩; have HB10 := Aside0.mk (below_step HB8.out hd.below); clear hd) | (go_at_call 22; (with_reducible refine (awake_ok _).mono ?_); rintro e w9 ⟨rfl, hb⟩; have HB9 := Aside0.mk (below_step HB10.out hb); clear hb))
      go_ret
      exact ⟨rfl, HB9.out⟩
  · have HBAD := Aside0.mk hW
    obtain ⟨a, ha⟩ : ∃ a, isW (bl x) = a := ⟨_, rfl⟩
    obtain ⟨c, hc⟩ : ∃ c, isW (bl y) = c := ⟨_, rfl⟩
    have HA := Aside0.mk ha
    have HC := Aside0.mk hc
    rw [ha, hc] at hW
    clear ha hc
    cases a <;> cases c
    case true.true => exact absurd ⟨rfl, rfl⟩ hW
    all_goals
      clear hW
      go_wp2_with (first | (go_at_call 32; (with_reducible refine (within_bad x y _ HBAD.out).mono ?_); rintro e w3 ⟨rfl, hb⟩; have HB3 := Aside0.mk (below_step HB2.out hb); clear hb) | (go_at_call 39; (with_reducible refine (longest_bad x y _ HBAD.out).mono ?_); rintro e w4 ⟨rfl, hb⟩; have HB4 := Aside0.mk (below_step HB3.out hb); have HB6 := HB4; clear hb) | (go_at_call 20; (with_reducible refine (word_any x _ _ (by have := HX.out; omega) HA.out).mono ?_); rintro e w5 ⟨rfl, hd⟩; have HB5 := Aside0.mk (below_step HB4.out hd.below); clear HB6; have HB6 := HB5; clear hd) | (go_at_call 20; (with_reducible refine (word_any y _ _ (by have := HY.out; omega) HC.out).mono ?_); rintro e w6 ⟨rfl, hd⟩; have HB7 := Aside0.mk (below_step HB5.out hd.below); clear HB6; have HB6 := HB7; clear hd) | (go_at_call 22; (with_reducible refine (awake_ok _).mono ?_); rintro e w7 ⟨rfl, hb⟩; have HB8 := Aside0.mk (below_step HB6.out hb); clear hb))
      go_ret
      exact ⟨rfl, HB8.out⟩
end Go.Proofs.Ytagdbadljcongaa.X
end
