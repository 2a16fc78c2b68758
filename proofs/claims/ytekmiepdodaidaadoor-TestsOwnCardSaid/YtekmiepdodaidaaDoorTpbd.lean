/- Texts behind TestsOwn, part 30: contracts of the program's functions and the plain words for them. -/
import Derived.Test.YtekmiepdodaidaaDoorTpas
import Derived.Test.YtekmiepdodaidaaDoorTpav
import Derived.Test.YtekmiepdodaidaaDoorTpax
import Derived.Test.YtekmiepdodaidaaDoorTpba
import Derived.Test.YtekmiepdodaidaaDoorTpbc
section
/- Layer 7, plain: a case in which all faults differ; what Best and Worst find is the plan's mean and worst. -/
set_option linter.unusedVariables false
namespace Go.Proofs.YtekmiepdodaidaaDoor.X
open Go.RowKit Go.Proofs.YtekmiepdodaidaaDoorW.PrintWords Go.Proofs.YtekmiepdodaidaaDoorW.PrintLast Go.Proofs.YtekmiepdodaidaaDoorW.PrintMore

theorem pickB_pair {c : Int → Int → Int} {s : Int} : ∀ (l : List Int) (k : Nat) (b : Int × Int), pickB c s k l b = b ∨ ∃ j x, l[j]? = some x ∧ splitB s x = true ∧ pickB c s k l b = (((k + j : Nat) : Int), c ((k + j : Nat) : Int) x)
 | [], k, b => .inl rfl
 | x :: xs, k, b => by
  have ih := fun b' => pickB_pair (c := c) (s := s) xs (k + 1) b'
  rw [pickB]
  rw [show ((k : Int) + 1) = ((k + 1 : Nat) : Int) from by omega]
  by_cases hx : splitB s x = true
  ·rw [if_pos hx]
   by_cases ht : b.1 < 0 ∨ c (k : Int) x < b.2
   ·rw [if_pos ht]
    rcases ih ((k : Int), c (k : Int) x) with h | ⟨j, y, h1, h2, h3⟩
    ·exact .inr ⟨0, x, rfl, hx, by rw [h, Nat.add_zero]⟩
    ·exact .inr ⟨j + 1, y, by simpa using h1, h2, by rw [h3, show k + 1 + j = k + (j + 1) by omega]⟩
   ·rw [if_neg ht]
    rcases ih b with h | ⟨j, y, h1, h2, h3⟩
    ·exact .inl h
    ·exact .inr ⟨j + 1, y, by simpa using h1, h2, by rw [h3, show k + 1 + j = k + (j + 1) by omega]⟩
  ·rw [if_neg hx]
   rcases ih b with h | ⟨j, y, h1, h2, h3⟩
   ·exact .inl h
   ·exact .inr ⟨j + 1, y, by simpa using h1, h2, by rw [h3, show k + 1 + j = k + (j + 1) by omega]⟩
/-- A case in which all faults differ. -/
structure Differ (a : List Int) (b : List (List Int)) (c : List Int) : Prop where
 is : CaseIs a b c
 al : alikeL (onesOf b) a.length = []
def SetN (n : Nat) (s : Int) : Prop := SetB s ∧ 1 ≤ s ∧ s < (2 ^ n : Nat)
section
variable {a : List Int} {b : List (List Int)} {c : List Int}
theorem Differ.set (D : Differ a b c) : ∀ x ∈ onesOf b, SetB x := onesOf_set D.is.a10 D.is.rows
/-- A choice of tests that divide is a plan's. -/
theorem tree_ok (D : Differ a b c) {tf : Int → Int} (h : ∀ s, SetN a.length s → pcount s ≠ 1 → 0 ≤ tf s ∧ tf s < (onesOf b).length ∧ rd (onesOf b) (tf s) ∈ onesOf b ∧ splitB s (rd (onesOf b) (tf s)) = true) : TreeOk a.length b.length tf (onesOf b) (SetN a.length) := by
 refine ⟨⟨fun s hs => ⟨hs.1, hs.2.1⟩, fun s hs hp => ?_⟩, fun s hs => hs.2.2, D.is.a10, onesOf_len⟩
 obtain ⟨t0, t1, t2, t3⟩ := h s hs hp
 obtain ⟨⟨p1, p2⟩, q1, q2⟩ := split_parts hs.1 (D.set _ t2) t3
 have hsb := hs.1
 have hlt := hs.2.2
 unfold SetB at hsb
 exact ⟨t0, t1, D.set _ t2, t3, ⟨by unfold SetB; omega, q1, by omega⟩, ⟨by unfold SetB; omega, p1, by omega⟩⟩
theorem chs_ok (D : Differ a b c) (mf : Int → Int → Int → Int → Int) : TreeOk a.length b.length (fun s => (chs mf (onesOf b) s).1) (onesOf b) (SetN a.length) :=
 tree_ok D (fun s hs hp => chs_test mf (onesOf b) D.set s hs.1 (some_split D.is.a10 D.set D.al s hs.1 hs.2.1 hs.2.2 hp))
theorem chs_val (D : Differ a b c) (mf : Int → Int → Int → Int → Int) (s : Int) (hs : SetN a.length s) (hp : pcount s ≠ 1) :
  (chs mf (onesOf b) s).2 = mf (chs mf (onesOf b) s).1 s (cstB (chs mf (onesOf b)) (bSub s (rd (onesOf b) (chs mf (onesOf b) s).1))) (cstB (chs mf (onesOf b)) (bAnd s (rd (onesOf b) (chs mf (onesOf b) s).1))) := by
 have h0 := (chs_test mf (onesOf b) D.set s hs.1 (some_split D.is.a10 D.set D.al s hs.1 hs.2.1 hs.2.2 hp)).1
 have e := chs_eq mf (onesOf b) D.set s hs.1
 unfold chsStep at e
 rcases pickB_pair (c := fun k x => mf k s (cstB (chs mf (onesOf b)) (bSub s x)) (cstB (chs mf (onesOf b)) (bAnd s x))) (s := s) (onesOf b) 0 (-1, 0) with h | ⟨j, x, h1, h2, h3⟩
 ·rw [show ((0 : Nat) : Int) = 0 from rfl] at h
  rw [e, h] at h0
  exact absurd h0 (by decide)
 ·rw [show ((0 : Nat) : Int) = 0 from rfl, ← e, Nat.zero_add] at h3
  have hx : rd (onesOf b) (chs mf (onesOf b) s).1 = x := by
   rw [h3]
   simp [rd, List.getD_eq_getElem?_getD, h1]
  rw [hx]
  rw [h3]
/-- What Best finds. -/
theorem cN_mean (D : Differ a b c) (d : Nat) : ∀ s, SetN a.length s → s.toNat ≤ d → cN (mfMean a b c) b s = meanS a c (fun s => (chs (mfMean a b c) (onesOf b) s).1) (onesOf b) s := by
 have H := chs_ok D (mfMean a b c)
 induction d with
 | zero => intro s hs h; have := hs.2.1; exfalso; omega
 | succ d ih =>
  intro s hs h
  by_cases hp : pcount s = 1
  ·rw [mean_one _ _ _ hp]; unfold cN cstB; rw [if_pos hp]
  ·obtain ⟨t0, t1, t2, t4, t5, k1, k2⟩ := run_parts H s hs hp
   have i1 := ih _ t4 (Nat.le_of_lt_succ (Nat.lt_of_lt_of_le k1 h))
   have i2 := ih _ t5 (Nat.le_of_lt_succ (Nat.lt_of_lt_of_le k2 h))
   have B1 : 0 ≤ cN (mfMean a b c) b _ ∧ cN (mfMean a b c) b _ ≤ 1024000000 := cst_box D.set (mean_ok D.is) _ t4.1 t4.2.1
   have B2 : 0 ≤ cN (mfMean a b c) b _ ∧ cN (mfMean a b c) b _ ≤ 1024000000 := cst_box D.set (mean_ok D.is) _ t5.1 t5.2.1
   have hv := chs_val D (mfMean a b c) s hs hp
   have e0 : cN (mfMean a b c) b s = (chs (mfMean a b c) (onesOf b) s).2 := by unfold cN cstB; rw [if_neg hp]
   rw [mean_two H a c D.is.a10 s hs hp, ← i1, ← i2, e0, hv]
   clear ih i1 i2 hv e0 t2 t4 t5 k1 k2 H
   have hsb := hs.1
   have hs1 := hs.2.1
   clear hs
   generalize (chs (mfMean a b c) (onesOf b) s).1 = t at *
   obtain ⟨t, rfl⟩ : ∃ t' : Nat, t = (t' : Int) := ⟨t.toNat, by omega⟩
   obtain ⟨s, rfl⟩ : ∃ s' : Nat, s = (s' : Int) := ⟨s.toNat, by omega⟩
   have hs2 : s < 1024 := by unfold SetB at hsb; omega
   rw [Int.toNat_natCast]
   exact mfMean_eq D.is t (by omega) s hs2 _ _ ⟨B1.1, Int.le_trans B1.2 (by decide)⟩ ⟨B2.1, Int.le_trans B2.2 (by decide)⟩
theorem all_in (D : Differ a b c) : SetN a.length (allOf a) := by
 obtain ⟨h1, h2⟩ := allOf_set D.is
 refine ⟨h1, h2, ?_⟩
 unfold allOf; omega
theorem all_mem (a : List Int) (f : Nat) : memB (allOf a) f = decide (f < a.length) := by
 unfold memB
 have : (allOf a).toNat = 2 ^ a.length - 1 := by unfold allOf; have := Nat.two_pow_pos a.length; omega
 rw [this, Nat.testBit_two_pow_sub_one]
theorem row_mem (h : CaseIs a b c) (t f : Nat) (ht : t < b.length) (hf : f < a.length) : (rd (rd_L1 b (t : Int)) (f : Int) = 1 ↔ memB (rd (onesOf b) (t : Int)) f = true) := by
 obtain ⟨r1, r2⟩ := row_at h t ht
 have e : rd (onesOf b) (t : Int) = (rowV b[t] : Int) := by
  simp [rd, onesOf, List.getD_eq_getElem?_getD, List.getElem?_map, List.getElem?_eq_getElem ht]
 rw [e, rd_L1_at b t ht]
 unfold memB
 rw [Int.toNat_natCast, rowV_bit _ r2, rd_at _ f (by omega)]
 simp [List.getD_eq_getElem?_getD, List.getElem?_eq_getElem (show f < b[t].length by omega)]
/-- The plan of a choice is correct. -/
theorem corr_tree (D : Differ a b c) {tf : Int → Int} (H : TreeOk a.length b.length tf (onesOf b) (SetN a.length)) :
  corrR a b c (treeB tf (onesOf b) (allOf a) 0) = (meanS a c tf (onesOf b) (allOf a), worstS a.length c tf (onesOf b) (allOf a), true) := by
 have hall := all_in D
 have hw : ∀ f, f < a.length → wayP b (treeB tf (onesOf b) (allOf a) 0) (f : Int) = (pathB tf (onesOf b) (allOf a) f, (f : Int)) := fun f hf =>
  way_tree H (row_mem D.is) (treeB tf (onesOf b) (allOf a) 0) f hf (allOf a).toNat (allOf a) 0 _ hall (Nat.le_refl _) ⟨by rw [Nat.zero_add]; exact Nat.le_refl _, fun i _ => by rw [Nat.zero_add]⟩ (by rw [all_mem]; exact decide_eq_true hf) (Nat.le_refl _)
 have hc : ∀ f, f < a.length → wayC b c (treeB tf (onesOf b) (allOf a) 0) f = pathC c tf (onesOf b) (allOf a) f := fun f hf => by
  unfold wayC pathC; rw [hw f hf]
 unfold corrR
 have hl : leafB b (treeB tf (onesOf b) (allOf a) 0) a.length = true := (allB_iff _ _ _).2 (fun f _ hf => by
  have hf' : f < a.length := by rwa [Nat.zero_add] at hf
  show ((wayP b (treeB tf (onesOf b) (allOf a) 0) (f : Int)).2 == (f : Int)) = true
  rw [hw f hf']; exact beq_self_eq_true _)
 have hp := tree_plan H (allOf a) hall
 rw [hp, hl, Bool.and_true, if_pos rfl]
 unfold meanS worstS
 rw [sumR_congr (g := fun f => rd a (f : Int) * wayC b c (treeB tf (onesOf b) (allOf a) 0) f) (h := fun f => if memB (allOf a) f = true then rd a (f : Int) * pathC c tf (onesOf b) (allOf a) f else 0) a.length (fun f hf => by
   show _ = if memB (allOf a) f = true then rd a (f : Int) * pathC c tf (onesOf b) (allOf a) f else 0
   rw [all_mem, if_pos (decide_eq_true hf), hc f hf]),
  maxR_congr (g := fun f => wayC b c (treeB tf (onesOf b) (allOf a) 0) f) (h := fun f => if memB (allOf a) f = true then pathC c tf (onesOf b) (allOf a) f else 0) a.length (fun f hf => by
   show _ = if memB (allOf a) f = true then pathC c tf (onesOf b) (allOf a) f else 0
   rw [all_mem, if_pos (decide_eq_true hf), hc f hf])]
end
end Go.Proofs.YtekmiepdodaidaaDoor.X
end

section
/- Layer 7, plain: the greedy choice. -/
set_option linter.unusedVariables false
namespace Go.Proofs.YtekmiepdodaidaaDoor.X
open Go.RowKit Go.Proofs.YtekmiepdodaidaaDoorW.PrintWords Go.Proofs.YtekmiepdodaidaaDoorW.PrintLast Go.Proofs.YtekmiepdodaidaaDoorW.PrintMore

/-- One test more: the best test so far, and its smaller weight. -/
def gStep (a c : List Int) (s k x : Int) (st : Int × Int) : Int × Int :=
 if splitB s x = true then (if st.1 < 0 ∨ wrap64 (mn (wOf a (bAnd s x).toNat) (wOf a (bSub s x).toNat) * rd c st.1) > wrap64 (st.2 * rd c k) then (k, mn (wOf a (bAnd s x).toNat) (wOf a (bSub s x).toNat)) else st) else st
def gFold (a c : List Int) (s : Int) : Int → List Int → Int × Int → Int × Int
 | _, [], st => st
 | k, x :: xs, st => gFold a c s (k + 1) xs (gStep a c s k x st)
/-- The test that Greedy takes for a set. -/
def greedyT (a c ones : List Int) (s : Int) : Int := (gFold a c s 0 ones (-1, 0)).1
theorem gFold_first {a c : List Int} {s : Int} : ∀ (l : List Int) (k : Nat) (st : Int × Int), (st.1 = -1 ∨ 0 ≤ st.1) →
  ((gFold a c s k l st).1 = st.1 ∨ ∃ j, j < l.length ∧ (gFold a c s k l st).1 = (k + j : Nat) ∧ splitB s (l.getD j 0) = true) ∧ ((0 ≤ st.1 ∨ ∃ x ∈ l, splitB s x = true) → 0 ≤ (gFold a c s k l st).1)
 | [], k, st, hb => ⟨.inl rfl, fun h => by
   rcases h with h | ⟨x, hx, _⟩
   ·exact h
   ·cases hx⟩
 | x :: xs, k, st, hb => by
  unfold gFold gStep
  by_cases hx : splitB s x = true
  ·rw [if_pos hx]
   split
   ·obtain ⟨h1, h2⟩ := gFold_first (a := a) (c := c) (s := s) xs (k + 1) ((k : Int), mn (wOf a (bAnd s x).toNat) (wOf a (bSub s x).toNat)) (.inr (by simp))
    refine ⟨.inr ?_, fun _ => h2 (.inl (by simp))⟩
    rcases h1 with h1 | ⟨j, hj, h1, h3⟩
    ·exact ⟨0, by simp, by simpa using h1, by simpa using hx⟩
    ·exact ⟨j + 1, by simp; omega, by rw [show k + (j + 1) = k + 1 + j by omega]; exact h1, by simpa using h3⟩
   ·rename_i ht
    obtain ⟨h1, h2⟩ := gFold_first (a := a) (c := c) (s := s) xs (k + 1) st hb
    refine ⟨?_, fun _ => h2 (.inl ?_)⟩
    ·rcases h1 with h1 | ⟨j, hj, h1, h3⟩
     ·exact .inl h1
     ·exact .inr ⟨j + 1, by simp; omega, by rw [show k + (j + 1) = k + 1 + j by omega]; exact h1, by simpa using h3⟩
    ·rcases hb with hb | hb
     ·exact absurd (.inl (by omega)) ht
     ·exact hb
  ·rw [if_neg hx]
   obtain ⟨h1, h2⟩ := gFold_first (a := a) (c := c) (s := s) xs (k + 1) st hb
   refine ⟨?_, fun h => h2 ?_⟩
   ·rcases h1 with h1 | ⟨j, hj, h1, h3⟩
    ·exact .inl h1
    ·exact .inr ⟨j + 1, by simp; omega, by rw [show k + (j + 1) = k + 1 + j by omega]; exact h1, by simpa using h3⟩
   ·rcases h with h | ⟨y, hy, hs⟩
    ·exact .inl h
    ·rcases List.mem_cons.1 hy with rfl | hy
     ·exact absurd hs hx
     ·exact .inr ⟨y, hy, hs⟩
section
variable {a : List Int} {b : List (List Int)} {c : List Int}
theorem greedy_ok (D : Differ a b c) : TreeOk a.length b.length (greedyT a c (onesOf b)) (onesOf b) (SetN a.length) := by
 refine tree_ok D (fun s hs hp => ?_)
 have hx := some_split D.is.a10 D.set D.al s hs.1 hs.2.1 hs.2.2 hp
 obtain ⟨h1, h2⟩ := gFold_first (a := a) (c := c) (s := s) (onesOf b) 0 (-1, 0) (.inl rfl)
 have h3 := h2 (.inr hx)
 rw [show ((0 : Nat) : Int) = 0 from rfl] at h1 h3
 unfold greedyT
 rcases h1 with h1 | ⟨j, hj, h1, h4⟩
 ·rw [h1] at h3
  exact absurd h3 (by decide)
 ·rw [h1]
  have hr : rd (onesOf b) ((0 + j : Nat) : Int) = (onesOf b).getD j 0 := by simp [rd]
  rw [hr]
  refine ⟨by omega, by omega, ?_, h4⟩
  rw [List.getD_eq_getElem?_getD, List.getElem?_eq_getElem hj]
  exact List.getElem_mem hj
end
end Go.Proofs.YtekmiepdodaidaaDoor.X
end

section
/- tickingref07.chosen, by hand: rows that came in as elements of a list of the call's own; the case of a full list. -/
set_option linter.unusedVariables false
set_option linter.unusedSimpArgs false
namespace Go.Proofs.YtekmiepdodaidaaDoor.X
open Go.RowKit Go.Proofs.YtekmiepdodaidaaDoorW.PrintWords Go.Proofs.YtekmiepdodaidaaDoorW.PrintLast Go.Proofs.YtekmiepdodaidaaDoorW.PrintMore

/-- A row of whole numbers that was there at W0. -/
def frow (W0 : World) : Kd (List Int) where
 sz := 1
 E := []
 K := fun _ x cs => ∃ A c, cs = [.slice A x.length c] ∧ x.length ≤ c ∧ Kd.C (Kd.int .i64) W0 A x.length x
 M := fun _ _ _ x cs => ∃ A c, cs = [.slice A x.length c] ∧ x.length ≤ c ∧ Kd.C (Kd.int .i64) W0 A x.length x
 K_len := by rintro w x cs ⟨A, c, rfl, _⟩; rfl
 K_one := by rintro w x cs ⟨A, c, rfl, _⟩ u hu; rw [List.mem_singleton.1 hu]; rfl
 K_below := fun _ h => h
 K_of_M := fun h => h
 M_mono := fun _ h => h
 M_bound := fun h => h
 M_move := fun _ h => h
 M_lower := fun _ h => h
theorem frow_C {W0 w : World} {A : Option Addr} {n : Nat} {xs : List (List Int)} (h : (frow W0).C w A n xs) (hb : Below W0.heap.size W0 w) : (Kd.slice 3 (Kd.int .i64)).C w A n xs := by
 unfold Kd.C at h ⊢
 exact ReadsRow.imp_ h (Below.refl _ _) (fun p c ⟨A, cc, h1, h2, h3⟩ => ⟨A, cc, h1, h2, Kd.C_below h3 hb⟩)
/-- The reference's Alike does not look at the costs. -/
theorem ralike_cost (a : List Int) (b : List (List Int)) (c c' : List Int) : ∀ k, (∀ y0 y1, tickingref07_Alike.l0 k y0 y1 a b c = tickingref07_Alike.l0 k y0 y1 a b c') ∧ (∀ y0 y1 y2, tickingref07_Alike.l1 k y0 y1 y2 a b c = tickingref07_Alike.l1 k y0 y1 y2 a b c') ∧ (∀ y0 y1 y2 y3 y4, tickingref07_Alike.l2 k y0 y1 y2 y3 y4 a b c = tickingref07_Alike.l2 k y0 y1 y2 y3 y4 a b c')
 | 0 => ⟨fun _ _ => by simp only [tickingref07_Alike.l0], fun _ _ _ => by simp only [tickingref07_Alike.l1], fun _ _ _ _ _ => by simp only [tickingref07_Alike.l2]⟩
 | k + 1 => by
  obtain ⟨h0, h1, h2⟩ := ralike_cost a b c c' k
  exact ⟨fun _ _ => by simp only [tickingref07_Alike.l0, h1], fun _ _ _ => by simp only [tickingref07_Alike.l1, h0, h2], fun _ _ _ _ _ => by simp only [tickingref07_Alike.l2, h1, h2]⟩
/-- The rows of a list of tests. -/
def rowsOf (b : List (List Int)) (l : List Int) : List (List Int) := l.map (rd_L1 b)
/-- The first list that begins with l, has m more tests, and tells all faults apart. -/
def chLoop (f : List Int → List Int × Bool) (l : List Int) : Nat → Nat → List Int × Bool
 | _, 0 => ([], false)
 | t, n + 1 => if (f (l ++ [(t : Int)])).2 = true then ((f (l ++ [(t : Int)])).1, true) else chLoop f l (t + 1) n
def fromB (l : List Int) : Nat := if l.length = 0 then 0 else (rd l ((l.length : Int) - 1)).toNat + 1
def chosenB (a : List Int) (b : List (List Int)) : Nat → List Int → List Int × Bool
 | 0, l => (l, decide (alikeL (onesOf (rowsOf b l)) a.length = []))
 | m + 1, l => chLoop (chosenB a b m) l (fromB l) (b.length - fromB l)
section
variable {a : List Int} {b : List (List Int)} {c : List Int}
theorem rows_case (h : CaseIs a b c) {l : List Int} (hl : l.length ≤ 12) (hm : ∀ x ∈ l, 0 ≤ x ∧ x < (b.length : Int)) : CaseIs a (rowsOf b l) (List.replicate (rowsOf b l).length 1) := by
 refine ⟨h.a1, h.a10, by unfold rowsOf; rw [List.length_map]; exact hl, List.length_replicate .., h.wa, fun x hx => by rw [(List.mem_replicate.1 hx).2]; omega, ?_⟩
 rw [List.all_eq_true]
 intro r hr
 obtain ⟨x, hx, rfl⟩ := List.mem_map.1 hr
 have := hm x hx
 refine List.all_eq_true.1 h.rows _ ?_
 have hxb : x.toNat < b.length := by omega
 unfold rd_L1
 rw [List.getD_eq_getElem?_getD, List.getElem?_eq_getElem hxb]
 exact List.getElem_mem hxb
theorem rows_alike (h : CaseIs a b c) {l : List Int} (hl : l.length ≤ 12) (hm : ∀ x ∈ l, 0 ≤ x ∧ x < (b.length : Int)) : ∃ k, tickingref07_Alike.f k a (rowsOf b l) [] = some (alikeL (onesOf (rowsOf b l)) a.length) := by
 obtain ⟨k, hk⟩ := (ralike_ev (rows_case h hl hm)).rounds
 refine ⟨k, ?_⟩
 rw [← hk]
 exact (ralike_cost a (rowsOf b l) [] _ k).1 [] 0
end
theorem info22t : (Tryd.prog.info? 22).map (fun i => (i.zero, i.size, i.bytes)) = some (some (.slice none 0 0), 1, 24) := by kernel_rfl
def ChPost (base : Nat) (r : List Int × Bool) (w : World) (e : Ending) (w' : World) : Prop := ∃ v, e = .returned (.tuple #[v, .bool r.2]) ∧ Kd.R (Kd.int .i64) 3 w' base (fun _ => True) v r.1 ∧ Below w.heap.size w w'
section
variable {A0 : Option Addr} {c0 : Nat} {a : List Int} {A1 : Option Addr} {c1 : Nat} {b : List (List Int)} {A2 : Option Addr} {c2 : Nat} {c : List Int} {w : World}
/-- What region 8 reads. -/
theorem chS {W : World} {g3 : Nat} {ad1 adl : Addr} {k : Nat} {x : Int} {Ar : Option Addr} {nr cr : Nat} {w' : World} (h3 : W.heap[g3]? = some (.cells #[.slice A0 a.length c0, .slice (some ad1) b.length c1, .slice A2 c.length c2] 25 (0, 0)))
  (h1 : W.cell? (adl.add k) = some (.int .i64 x)) (h2 : W.cell? (ad1.add x.toNat) = some (.slice Ar nr cr)) (hb : Below W.heap.size W w') :
  w'.cell? ⟨g3, 1, none⟩ = some (.slice (some ad1) b.length c1) ∧ w'.cell? (adl.add k) = some (.int .i64 x) ∧ w'.cell? (ad1.add x.toNat) = some (.slice Ar nr cr) :=
 ⟨(blk_cell (blk_below h3 hb) 1).trans rfl, pw_cell_below hb h1, pw_cell_below hb h2⟩
set_option maxHeartbeats 8000000 in
set_option maxRecDepth 100000 in
theorem chosen_zero (h : CaseAt w A0 c0 a A1 c1 b A2 c2 c) (hc : CaseIs a b c) (base : Nat) (v : Value) (l : List Int) (hR : Kd.R (Kd.int .i64) 3 w base (fun _ => True) v l) (hl : l.length ≤ 12) (hm : ∀ x ∈ l, 0 ≤ x ∧ x < (b.length : Int)) :
  Calls Tryd.prog 57 #[.agg #[.slice A0 a.length c0, .slice A1 b.length c1, .slice A2 c.length c2], v, .int .i64 0] w (ChPost base (chosenB a b 0 l) w) := by
 have H := Aside0.mk h
 have HC := Aside0.mk hc
 have HR := Aside0.mk hR
 have HM := Aside0.mk hm
 have HB := Aside0.mk (Below.refl w.heap.size w)
 obtain ⟨AL, cl, rfl⟩ := Kd.R_slice hR
 have HCL := Aside0.mk (Kd.R_reads' hR)
 have HL := Aside0.mk hl
 obtain ⟨r, hr⟩ : ∃ r, r = chosenB a b 0 l := ⟨_, rfl⟩
 have HRR := Aside0.mk hr
 rw [← hr]
 clear h hc hR hm hr
 go_enter Tryd.func57, Tryd.ntmps57
 go_wp2
 go_loopg [9] l.length (fun kq v9 w' => ∃ (k : Nat) (u : Value), v9 = .int .i64 k ∧ Aside0 (kq + k = l.length) ∧ Aside0 (Below w.heap.size w w') ∧ Aside0 (w'.heap[w.heap.size]? = some (.cells #[.slice A0 a.length c0, .slice A1 b.length c1, .slice A2 c.length c2] 25 (0, 0))) ∧ Aside0 (w'.heap[w.heap.size + 1]? = some (.cells #[.slice A0 a.length c0, u, .slice none 0 0] 25 (0, 0))) ∧ Aside0 (Kd.R (frow w) 22 w' w.heap.size (fun _ => True) u (rowsOf b (l.take k))))
 case atStart =>
  refine ⟨0, .slice none 0 0, rfl, ⟨by omega⟩, ⟨below_alloc (below_alloc (Below.refl _ _) _) _⟩, ⟨blk_alloc (blk_new w _) _⟩, ⟨?_⟩, ⟨Kd.R_nil _ _ _ _ _⟩⟩
  have := blk_new (w.alloc (.cells #[.slice A0 a.length c0, .slice A1 b.length c1, .slice A2 c.length c2] 25)) (.cells #[.slice A0 a.length c0, .slice none 0 0, .slice none 0 0] 25)
  rwa [size_alloc'] at this
 case round =>
  obtain ⟨k, u, rfl, HKQ, HBW, HG3, HG8, HRT⟩ := hrel
  obtain ⟨k1, rfl⟩ : ∃ k1, k1 = gk := ⟨_, rfl⟩
  obtain ⟨AT, ct, rfl⟩ := Kd.R_slice HRT.out
  obtain ⟨rs, hrs⟩ : ∃ rs, rs = rowsOf b (l.take k) := ⟨_, rfl⟩
  rw [← hrs] at HRT HG8
  have HRS := Aside0.mk hrs
  clear hrs
  by_cases hk : k < l.length
  ·obtain ⟨adl, el, hxl⟩ := Kd.at_int (Kd.C_below HCL.out.2.2 HBW.out) (k : Int) (by omega) (by omega)
   obtain ⟨x, hx⟩ : ∃ x, rd l (k : Int) = x := ⟨_, rfl⟩
   have hxm : x ∈ l := by rw [← hx]; simp only [rd, Int.toNat_natCast, List.getD_eq_getElem?_getD, List.getElem?_eq_getElem hk, Option.getD_some]; exact List.getElem_mem hk
   obtain ⟨hx0, hx1⟩ := HM.out x hxm
   obtain ⟨ad1, cs1, e1, hcs1, hK1, hcc1⟩ := ReadsRow.get_ H.out.r1 [] x hx0 (by omega)
   obtain ⟨Ar, cr, rfl, hcr, hCr⟩ := hK1
   obtain ⟨row, hrow⟩ : ∃ row, b.getD x.toNat [] = row := ⟨_, rfl⟩
   rw [hrow] at hcr hCr hcc1
   have hcell1 := pw_cell_below HBW.out (hcc1 0 _ rfl)
   simp only [Nat.mul_one, Nat.add_zero, Kd.slice] at hcell1
   simp only [Int.toNat_natCast] at hxl
   rw [hx] at hxl
   have HROW := Aside0.mk (show rowsOf b (l.take (k + 1)) = rs ++ [row] by
    rw [HRS.out, List.take_succ_eq_append_getElem hk]
    unfold rowsOf
    rw [List.map_append, List.map_cons, List.map_nil, show l[k] = x by rw [← hx]; simp [rd, List.getD_eq_getElem?_getD, List.getElem?_eq_getElem hk]]
    unfold rd_L1
    rw [hrow])
   have HRSL := Aside0.mk (show rs.length ≤ 12 by rw [HRS.out]; unfold rowsOf; rw [List.length_map, List.length_take]; omega)
   have HM1 := Aside0.mk (show (frow w).M wr w.heap.size (fun _ => False) row [.slice Ar row.length cr] from ⟨Ar, cr, rfl, hcr, hCr⟩)
   clear hxm hcs1 hcc1 hrow hx
   cases el
   cases e1
   have hcz8 : wr.cell? ⟨w.heap.size + 1, 1, none⟩ = some (.slice AT rs.length ct) := (blk_cell HG8.out 1).trans rfl
   have hmb := Kd.C_max H.out.r1
   go_upto_region 8 with (fail)
   clear hcz8
   have HXL := Aside0.mk hxl
   have HCL1 := Aside0.mk hcell1
   clear hxl hcell1
   refine start_ (n := 13) (S := fun w' => w'.cell? ⟨w.heap.size, 1, none⟩ = some (.slice (some ad1) b.length c1) ∧ w'.cell? (adl.add k) = some (.int .i64 x) ∧ w'.cell? (ad1.add x.toNat) = some (.slice Ar row.length cr)) (ds := [10, 12]) #[false, false, false, false, false, false, false, false, false, false, false, false, false] (by kernel_rfl) rfl rfl (chS HG3.out HXL.out HCL1.out (below_drew (Below.refl _ _))) (fun hHeld => ?_)
   refine pure_ (i := 0) (N := (some 29)) (v := ?_) (a' := ?_) #[true, false, false, false, false, false, false, false, false, false, false, false, false] rfl rfl (by kernel_rfl) (fun _ _ _ h => h) (Or.inl ⟨by rfl, ?_⟩) ?_ ?_
   rotate_left
   ·intro w'
    go_simp
    with_reducible rfl
   rotate_left
   ·simp only [Act.put, List.setIfInBounds_toArray, List.set_cons_zero, List.set_cons_succ, i64_w, i32_w]
    rfl
   refine pure_ (i := 1) (N := (some 30)) (v := ?_) (a' := ?_) #[true, true, false, false, false, false, false, false, false, false, false, false, false] rfl rfl (by kernel_rfl) (fun _ _ _ h => h) (Or.inl ⟨by rfl, ?_⟩) ?_ ?_
   rotate_left
   ·intro w'
    go_simp
    with_reducible rfl
   rotate_left
   ·simp only [Act.put, List.setIfInBounds_toArray, List.set_cons_zero, List.set_cons_succ, i64_w, i32_w]
    rfl
   refine take_ (i := 2) (N := (some 31)) (v := ?_) (a' := ?_) #[true, true, true, false, false, false, false, false, false, false, false, false, false] rfl rfl (by kernel_rfl) (fun _ _ _ h => h) (Or.inl ⟨by rfl, ?_⟩) hHeld ?_ ?_
   rotate_left
   ·rintro w' ⟨s0, s1, s2⟩
    go_simp
    with_reducible rfl
   rotate_left
   ·simp only [Act.put, List.setIfInBounds_toArray, List.set_cons_zero, List.set_cons_succ, i64_w, i32_w]
    rfl
   refine pure_ (i := 3) (N := (some 32)) (v := ?_) (a' := ?_) #[true, true, true, true, false, false, false, false, false, false, false, false, false] rfl rfl (by kernel_rfl) (fun _ _ _ h => h) (Or.inl ⟨by rfl, ?_⟩) ?_ ?_
   rotate_left
   ·intro w'
    go_simp
    with_reducible rfl
   rotate_left
   ·simp only [Act.put, List.setIfInBounds_toArray, List.set_cons_zero, List.set_cons_succ, i64_w, i32_w]
    rfl
   refine pure_ (i := 4) (N := (some 33)) (v := ?_) (a' := ?_) #[true, true, true, true, true, false, false, false, false, false, false, false, false] rfl rfl (by kernel_rfl) (fun _ _ _ h => h) (Or.inl ⟨by rfl, ?_⟩) ?_ ?_
   rotate_left
   ·intro w'
    go_simp
    with_reducible rfl
   rotate_left
   ·simp only [Act.put, List.setIfInBounds_toArray, List.set_cons_zero, List.set_cons_succ, i64_w, i32_w]
    rfl
   refine pure_ (i := 5) (N := (some 34)) (v := ?_) (a' := ?_) #[true, true, true, true, true, true, false, false, false, false, false, false, false] rfl rfl (by kernel_rfl) (fun _ _ _ h => h) (Or.inl ⟨by rfl, ?_⟩) ?_ ?_
   rotate_left
   ·intro w'
    go_simp
    with_reducible rfl
   rotate_left
   ·simp only [Act.put, List.setIfInBounds_toArray, List.set_cons_zero, List.set_cons_succ, i64_w, i32_w]
    rfl
   refine take_ (i := 6) (N := (some 35)) (v := ?_) (a' := ?_) #[true, true, true, true, true, true, true, false, false, false, false, false, false] rfl rfl (by kernel_rfl) (fun _ _ _ h => h) (Or.inl ⟨by rfl, ?_⟩) hHeld ?_ ?_
   rotate_left
   ·rintro w' ⟨s0, s1, s2⟩
    go_simp
    with_reducible rfl
   rotate_left
   ·simp only [Act.put, List.setIfInBounds_toArray, List.set_cons_zero, List.set_cons_succ, i64_w, i32_w]
    rfl
   refine pure_ (i := 7) (N := (some 36)) (v := ?_) (a' := ?_) #[true, true, true, true, true, true, true, true, false, false, false, false, false] rfl rfl (by kernel_rfl) (fun _ _ _ h => h) (Or.inl ⟨by rfl, ?_⟩) ?_ ?_
   rotate_left
   ·intro w'
    go_simp
    with_reducible rfl
   rotate_left
   ·simp only [Act.put, List.setIfInBounds_toArray, List.set_cons_zero, List.set_cons_succ, i64_w, i32_w]
    rfl
   refine take_ (i := 8) (N := (some 37)) (v := ?_) (a' := ?_) #[true, true, true, true, true, true, true, true, true, false, false, false, false] rfl rfl (by kernel_rfl) (fun _ _ _ h => h) (Or.inl ⟨by rfl, ?_⟩) hHeld ?_ ?_
   rotate_left
   ·rintro w' ⟨s0, s1, s2⟩
    go_simp
    with_reducible rfl
   rotate_left
   ·simp only [Act.put, List.setIfInBounds_toArray, List.set_cons_zero, List.set_cons_succ, i64_w, i32_w]
    rfl
   refine one_ (i := 9) (N := (some 38)) #[true, true, true, true, true, true, true, true, true, true, false, false, false] rfl rfl (by kernel_rfl) (by decide) (fun K hK => ?_)
   refine value_ (w1 := ?_) (v := ?_) (by rfl) rfl ?_ ?_
   rotate_left 2
   ·go_simp
    constructor
    ·rfl
    ·rfl
   refine hK.out _ _ (chS HG3.out HXL.out HCL1.out (below_alloc (below_drew (Below.refl _ _)) _)) (fun hHeld => ?_)
   clear hK K
   refine norm_ (a' := ?_) ?_ ?_
   rotate_left
   ·show Act.put _ (some 38) _ = _
    simp only [Act.put, List.setIfInBounds_toArray, List.set_cons_zero, List.set_cons_succ, i64_w, i32_w]
    rfl
   refine last_ (i := 10) (N := (some 39)) #[true, true, true, true, true, true, true, true, true, true, true, false, false] rfl rfl (by kernel_rfl) (by decide) (fun K hK => ?_)
   refine Kd.R_append_step (frow w) (w0 := w) w.heap.size (by rfl) (.tmp 29) (.tmp 38) 23 22 (.slice none 0 0) 24 rfl Tryd.underlying23 info22t rfl Nat.one_pos (by omega) (.slice AT rs.length ct) rs row [.slice Ar row.length cr] (fun _ => True) (fun _ => False) rfl rfl (show (frow w).M wr.drew w.heap.size (fun _ => False) row [.slice Ar row.length cr] from HM1.out) (fun _ hk => hk.elim) (fun _ _ => trivial) (Kd.R_drew HRT.out) (below_drew HBW.out) (by have := HBW.out.size; exact this) (by have := HRSL.out; omega) ?_
   intro v1 w1 ho hb hg hat
   obtain ⟨AT1, ct1, rfl⟩ := Kd.R_slice ho
   have g3' := blk_grown (blk_drew HG3.out) hg (Kd.R_ne (Kd.R_drew HRT.out) (blk_drew HG3.out) (by decide))
   have g8' := blk_grown (blk_drew HG8.out) hg (Kd.R_ne (Kd.R_drew HRT.out) (blk_drew HG8.out) (by decide))
   have HO := Aside0.mk ho
   have HB1 := Aside0.mk hb
   have HG31 := Aside0.mk g3'
   have HG81 := Aside0.mk g8'
   have hlen : (rs ++ [row]).length = rs.length + 1 := by simp
   rw [hlen]
   have hcz1 : w1.cell? ⟨w.heap.size + 1, 1, none⟩ = some (.slice AT rs.length ct) := (blk_cell g8' 1).trans rfl
   have hfz1 := blk_frozen g8' 1
   clear ho hb hg hat g3' g8'
   refine hK.out _ _ ?_
   clear hK K
   refine norm_ (a' := ?_) ?_ ?_
   rotate_left
   ·show Act.put _ (some 39) _ = _
    simp only [Act.put, List.setIfInBounds_toArray, List.set_cons_zero, List.set_cons_succ, i64_w, i32_w]
    rfl
   refine pure_ (i := 11) (N := (some 40)) (v := ?_) (a' := ?_) #[true, true, true, true, true, true, true, true, true, true, true, true, false] rfl rfl (by kernel_rfl) (fun _ _ _ h => h) (Or.inl ⟨by rfl, ?_⟩) ?_ ?_
   rotate_left
   ·intro w'
    go_simp
    with_reducible rfl
   rotate_left
   ·simp only [Act.put, List.setIfInBounds_toArray, List.set_cons_zero, List.set_cons_succ, i64_w, i32_w]
    rfl
   refine last_ (i := 12) (N := none) #[true, true, true, true, true, true, true, true, true, true, true, true, true] rfl rfl (by kernel_rfl) (by decide) (fun K hK => ?_)
   refine skip_ (w1 := ?_) (by rfl) rfl ?_ ?_
   rotate_left
   ·go_simp
    rfl
   refine hK.out _ _ ?_
   clear hK K
   refine done_ (by kernel_rfl) ?_
   go_wp2
   go_roundg (k1 - 1)
   case measure => have := HKQ.out; omega
   case rel =>
    refine ⟨k + 1, .slice AT1 (rs.length + 1) ct1, by go_num, ⟨by have := HKQ.out; omega⟩, ⟨HB1.out.setCell (by show w.heap.size ≤ w.heap.size + 1; omega) _⟩, ⟨blk_far HG31.out (by show w.heap.size ≠ w.heap.size + 1; omega) _⟩, ⟨(blk_set HG81.out 1 _).trans rfl⟩, ⟨?_⟩⟩
    rw [HROW.out]
    have := Kd.R_set HO.out HG81.out (fun q hq => by rw [List.mem_singleton.1 hq]; decide) 1 (.slice AT1 (rs.length + 1) ct1)
    rw [hlen] at this
    exact this
  ·obtain rfl : k = l.length := by have := HKQ.out; omega
   have hrs : rs = rowsOf b l := by rw [HRS.out, List.take_length]
   have hcz0 : wr.cell? ⟨w.heap.size + 1, 0, none⟩ = some (.slice A0 a.length c0) := (blk_cell HG8.out 0).trans rfl
   have hcz1 : wr.cell? ⟨w.heap.size + 1, 1, none⟩ = some (.slice AT rs.length ct) := (blk_cell HG8.out 1).trans rfl
   have hcz2 : wr.cell? ⟨w.heap.size + 1, 2, none⟩ = some (.slice none 0 0) := (blk_cell HG8.out 2).trans rfl
   obtain ⟨kk, hkk⟩ := rows_alike HC.out HL.out HM.out
   rw [← hrs] at hkk
   have HKK := Aside0.mk hkk
   have HRT2 := Aside0.mk (Kd.R_reads' HRT.out)
   have HQ := Aside0.mk (show r = (l, decide (alikeL (onesOf rs) a.length = [])) by rw [HRR.out, hrs]; rfl)
   obtain ⟨n, hn⟩ : ∃ n, n = (alikeL (onesOf rs) a.length).length := ⟨_, rfl⟩
   have HN := Aside0.mk hn
   clear hrs hkk hk hn
   go_wp2_with (go_at_call 18; go_loud (refine (tickingref07_Alike.calls kk A0 c0 a AT ct rs none 0 [] _ wr (Kd.C_below H.out.r0 HBW.out) H.out.n0 (frow_C HRT2.out.2.2 HBW.out) HRT2.out.2.1 (Kd.C_nil _ _) (Nat.le_refl _) HKK.out).mono ?_); rintro e w7 ⟨v7, rfl, hr7, hb⟩; obtain ⟨A7, c7, rfl⟩ := Kd.R_slice hr7; rw [← HN.out]; have HB7 := Aside0.mk hb; clear hb hr7)
   go_ret2
   refine ⟨.slice AL l.length cl, ?_, ?_, below_step HBW.out HB7.out⟩
   ·rw [HQ.out]
    show _ = Ending.returned (.tuple #[_, .bool (decide (alikeL (onesOf rs) a.length = []))])
    have hb : decide (alikeL (onesOf rs) a.length = []) = decide (n = 0) := by rw [HN.out]; exact decide_eq_decide.2 List.length_eq_zero_iff.symm
    rw [hb]
    show Ending.returned (.tuple #[.slice AL l.length cl, .bool ((n : Int) == 0)]) = _
    rw [show ((n : Int) == 0) = decide (n = 0) from by rw [Bool.eq_iff_iff]; simp]
   ·rw [HQ.out]
    exact Kd.R_below HR.out (below_step HBW.out HB7.out)
end
end Go.Proofs.YtekmiepdodaidaaDoor.X
end

section
/- tickingref07.chosen, by hand: the search, and the whole. -/
set_option linter.unusedVariables false
set_option linter.unusedSimpArgs false
namespace Go.Proofs.YtekmiepdodaidaaDoor.X
open Go.RowKit Go.Proofs.YtekmiepdodaidaaDoorW.PrintWords Go.Proofs.YtekmiepdodaidaaDoorW.PrintLast Go.Proofs.YtekmiepdodaidaaDoorW.PrintMore

theorem chLoop_step (f : List Int → List Int × Bool) (l : List Int) (t T : Nat) (h : t < T) : chLoop f l t (T - t) = if (f (l ++ [(t : Int)])).2 = true then ((f (l ++ [(t : Int)])).1, true) else chLoop f l (t + 1) (T - (t + 1)) := by
 rw [show T - t = (T - (t + 1)) + 1 by omega]; rfl
theorem chLoop_end (f : List Int → List Int × Bool) (l : List Int) (T : Nat) : chLoop f l T (T - T) = ([], false) := by rw [Nat.sub_self]; rfl
theorem fromB_le {l : List Int} {n : Nat} (hm : ∀ x ∈ l, 0 ≤ x ∧ x < (n : Int)) : fromB l ≤ n := by
 unfold fromB
 split
 ·exact Nat.zero_le _
 ·rename_i h
  have hk : l.length - 1 < l.length := by omega
  have : rd l ((l.length : Int) - 1) = l[l.length - 1] := by simp [rd, show ((l.length : Int) - 1).toNat = l.length - 1 by omega, List.getD_eq_getElem?_getD, List.getElem?_eq_getElem hk]
  rw [this]
  have := hm _ (List.getElem_mem hk)
  omega
theorem info3d : (Tryd.prog.info? 3).map (fun i => (i.zero, i.size, i.bytes)) = some (some (.int .i64 0), 1, 8) := by kernel_rfl
section
variable {A0 : Option Addr} {c0 : Nat} {a : List Int} {A1 : Option Addr} {c1 : Nat} {b : List (List Int)} {A2 : Option Addr} {c2 : Nat} {c : List Int} {w : World}
theorem boxS {W : World} {g : Nat} (h : W.heap[g]? = some (.cells #[.slice A0 a.length c0, .slice A1 b.length c1, .slice A2 c.length c2] 25 (0, 0))) : W.cell? ⟨g, 0, none⟩ = some (.slice A0 a.length c0) ∧ W.cell? ⟨g, 1, none⟩ = some (.slice A1 b.length c1) ∧ W.cell? ⟨g, 2, none⟩ = some (.slice A2 c.length c2) :=
 ⟨(blk_cell h 0).trans rfl, (blk_cell h 1).trans rfl, (blk_cell h 2).trans rfl⟩
set_option maxHeartbeats 8000000 in
set_option maxRecDepth 100000 in
theorem chosen_step (h : CaseAt w A0 c0 a A1 c1 b A2 c2 c) (hc : CaseIs a b c) (m : Nat) (base : Nat) (v : Value) (l : List Int) (hR : Kd.R (Kd.int .i64) 3 w base (fun _ => True) v l) (hbase : base ≤ w.heap.size) (hl : l.length + (m + 1) ≤ 12) (hm : ∀ x ∈ l, 0 ≤ x ∧ x < (b.length : Int))
  (ih : ∀ (w : World), CaseAt w A0 c0 a A1 c1 b A2 c2 c → ∀ (base : Nat) (v : Value) (l : List Int), Kd.R (Kd.int .i64) 3 w base (fun _ => True) v l → base ≤ w.heap.size → l.length + m ≤ 12 → (∀ x ∈ l, 0 ≤ x ∧ x < (b.length : Int)) → Calls Tryd.prog 57 #[.agg #[.slice A0 a.length c0, .slice A1 b.length c1, .slice A2 c.length c2], v, .int .i64 m] w (ChPost base (chosenB a b m l) w)) :
  Calls Tryd.prog 57 #[.agg #[.slice A0 a.length c0, .slice A1 b.length c1, .slice A2 c.length c2], v, .int .i64 ((m + 1 : Nat) : Int)] w (ChPost base (chosenB a b (m + 1) l) w) := by
 have H := Aside0.mk h
 have HC := Aside0.mk hc
 have HR := Aside0.mk hR
 have HM := Aside0.mk hm
 have HBASE := Aside0.mk hbase
 have IH := Aside0.mk ih
 have HB := Aside0.mk (Below.refl w.heap.size w)
 obtain ⟨AL, cl, rfl⟩ := Kd.R_slice hR
 have HCL := Aside0.mk (Kd.R_reads' hR)
 have HL := Aside0.mk hl
 obtain ⟨r, hr⟩ : ∃ r, r = chosenB a b (m + 1) l := ⟨_, rfl⟩
 have HRR := Aside0.mk (show r = chLoop (chosenB a b m) l (fromB l) (b.length - fromB l) from hr)
 rw [← hr]
 have hz : (((m + 1 : Nat) : Int) == 0) = false := by rw [beq_eq_false_iff_ne]; omega
 have HFR := Aside0.mk (fromB_le hm)
 obtain ⟨fr, hfr⟩ : ∃ fr, fr = fromB l := ⟨_, rfl⟩
 rw [← hfr] at HFR HRR
 have hb12 := hc.b12
 have hm12 : m ≤ 12 := by omega
 have hc1 := h.n1
 have HLN := Aside0.mk (show l.length ≤ 12 by omega)
 have HFRD := Aside0.mk hfr
 have hl12 : l.length ≤ 12 := by omega
 clear h hc hR hm hr hbase ih hl hfr
 by_cases hl0 : l.length = 0
 case' pos =>
  have hd : decide (0 < l.length) = false := by simp [hl0]
  have hd2 : decide ((0 : Int) < (l.length : Int)) = false := by simp [hl0]
  have HFZ := Aside0.mk (show (0 : Int) = fr by rw [HFRD.out]; unfold fromB; rw [if_pos hl0]; rfl)
  clear hl0
  go_enter Tryd.func57, Tryd.ntmps57
  go_wp2
  rw [HFZ.out]
 case' neg =>
  have hd : decide (0 < l.length) = true := decide_eq_true (by omega)
  have hd2 : decide ((0 : Int) < (l.length : Int)) = true := decide_eq_true (by omega)
  obtain ⟨adl, el, hxl⟩ := Kd.at_int HCL.out.2.2 ((l.length : Int) - 1) (by omega) (by omega)
  obtain ⟨x, hx⟩ : ∃ x, rd l ((l.length : Int) - 1) = x := ⟨_, rfl⟩
  have hxm : x ∈ l := by rw [← hx]; simp only [rd]; rw [List.getD_eq_getElem?_getD, List.getElem?_eq_getElem (by omega)]; exact List.getElem_mem _
  obtain ⟨hx0, hx1⟩ := HM.out x hxm
  have HFZ := Aside0.mk (show x + 1 = (fr : Int) by rw [HFRD.out]; unfold fromB; rw [if_neg hl0, hx]; omega)
  rw [hx, show ((l.length : Int) - 1).toNat = l.length - 1 from by omega] at hxl
  clear hx hxm
  cases el
  replace hxl := fun o => pw_cell_below (below_alloc (Below.refl _ _) o) hxl
  have hla : (0 : Int) ≤ (l.length : Int) - 1 := by omega
  clear hl0
  go_enter Tryd.func57, Tryd.ntmps57
  go_wp2
  rw [HFZ.out]
  clear hxl
 all_goals
  clear hd hd2
  go_loopg [12] (b.length - fr) (fun kq v12 w' => ∃ t : Nat, v12 = .int .i64 t ∧ Aside0 (kq + t = b.length) ∧ Aside0 (Below w.heap.size w w') ∧ Aside0 (w'.heap[w.heap.size]? = some (.cells #[.slice A0 a.length c0, .slice A1 b.length c1, .slice A2 c.length c2] 25 (0, 0))) ∧ Aside0 (r = chLoop (chosenB a b m) l t (b.length - t)))
  case atStart => exact ⟨fr, rfl, ⟨by have := HFR.out; omega⟩, ⟨below_alloc (Below.refl _ _) _⟩, ⟨blk_new w _⟩, HRR⟩
  case round =>
   obtain ⟨t, rfl, HKQ, HBW, HG3, HLP⟩ := hrel
   obtain ⟨k1, rfl⟩ : ∃ k1, k1 = gk := ⟨_, rfl⟩
   have hcz1 : wr.cell? ⟨w.heap.size, 1, none⟩ = some (.slice A1 b.length c1) := (blk_cell HG3.out 1).trans rfl
   by_cases ht : t < b.length
   ·have HN := Aside0.mk (show r = if (chosenB a b m (l ++ [(t : Int)])).2 = true then ((chosenB a b m (l ++ [(t : Int)])).1, true) else chLoop (chosenB a b m) l (t + 1) (b.length - (t + 1)) by rw [HLP.out, chLoop_step _ _ _ _ ht])
    go_upto_region 18 with (at_builtin; go_loud (refine Kd.R_append_rows (Kd.int .i64) (w0 := wr) wr.heap.size rfl (.tmp 64) (.tmp 65) 22 3 (.int .i64 0) 8 rfl Tryd.underlying22 info3d rfl (by decide) (by omega) (.slice none 0 0) ([] : List Int) l _ _ _ (fun _ => True) (fun _ => False) rfl rfl ?aO ?aR (fun _ _ h => h) (fun _ h => h.elim) ?aF ?aB ?aS ?aL ?_); go_loud (case aO => exact Kd.R_nil _ _ _ _ _); go_loud (case aR => exact Kd.C_below HCL.out.2.2 HBW.out); go_loud (case aF => exact fun _ _ => trivial); go_loud (case aB => exact Below.refl _ _); go_loud (case aS => exact Nat.le_refl _); go_loud (case aL => have := HLN.out; simp; omega); intro v9 w9 ho hb hg hat; rw [List.nil_append] at ho; obtain ⟨A9, c9, rfl⟩ := Kd.R_slice ho; have HO := Aside0.mk ho; have HB9 := Aside0.mk hb; clear ho hb hg hat)
    clear hcz1
    have HG9 := Aside0.mk (blk_below HG3.out HB9.out)
    have HBN := Aside0.mk (show Below w.heap.size w w9 from below_step HBW.out HB9.out)
    have HMT := Aside0.mk (show ∀ x ∈ l ++ [(t : Int)], 0 ≤ x ∧ x < (b.length : Int) by intro x hx; rcases List.mem_append.1 hx with h | h; exact HM.out x h; rw [List.mem_singleton.1 h]; omega)
    have hlen : (l ++ [(t : Int)]).length = l.length + 1 := by simp
    have HLL := Aside0.mk hlen
    clear hlen
    refine start_ (n := 13) (S := fun w' => w'.cell? ⟨w.heap.size, 0, none⟩ = some (.slice A0 a.length c0) ∧ w'.cell? ⟨w.heap.size, 1, none⟩ = some (.slice A1 b.length c1) ∧ w'.cell? ⟨w.heap.size, 2, none⟩ = some (.slice A2 c.length c2)) (ds := []) #[false, false, false, false, false, false, false, false, false, false, false, false, false] (by kernel_rfl) rfl rfl (boxS (blk_drew HG9.out)) (fun hHeld => ?_)
    refine take_ (i := 0) (N := (some 68)) (v := ?_) (a' := ?_) #[true, false, false, false, false, false, false, false, false, false, false, false, false] rfl rfl (by kernel_rfl) (fun _ _ _ h => h) (Or.inl ⟨by rfl, ?_⟩) hHeld ?_ ?_
    rotate_left
    ·rintro w' ⟨s0, s1, s2⟩
     go_simp
     with_reducible rfl
    rotate_left
    ·simp only [Act.put, List.setIfInBounds_toArray, List.set_cons_zero, List.set_cons_succ, i64_w, i32_w]
     rfl
    refine pure_ (i := 1) (N := (some 69)) (v := ?_) (a' := ?_) #[true, true, false, false, false, false, false, false, false, false, false, false, false] rfl rfl (by kernel_rfl) (fun _ _ _ h => h) (Or.inl ⟨by rfl, ?_⟩) ?_ ?_
    rotate_left
    ·intro w'
     go_simp
     with_reducible rfl
    rotate_left
    ·simp only [Act.put, List.setIfInBounds_toArray, List.set_cons_zero, List.set_cons_succ, i64_w, i32_w]
     rfl
    refine pure_ (i := 2) (N := (some 70)) (v := ?_) (a' := ?_) #[true, true, true, false, false, false, false, false, false, false, false, false, false] rfl rfl (by kernel_rfl) (fun _ _ _ h => h) (Or.inl ⟨by rfl, ?_⟩) ?_ ?_
    rotate_left
    ·intro w'
     go_simp
     with_reducible rfl
    rotate_left
    ·simp only [Act.put, List.setIfInBounds_toArray, List.set_cons_zero, List.set_cons_succ, i64_w, i32_w]
     rfl
    refine pure_ (i := 5) (N := (some 73)) (v := ?_) (a' := ?_) #[true, true, true, false, false, true, false, false, false, false, false, false, false] rfl rfl (by kernel_rfl) (fun _ _ _ h => h) (Or.inl ⟨by rfl, ?_⟩) ?_ ?_
    rotate_left
    ·intro w'
     go_simp
     with_reducible rfl
    rotate_left
    ·simp only [Act.put, List.setIfInBounds_toArray, List.set_cons_zero, List.set_cons_succ, i64_w, i32_w]
     rfl
    refine pure_ (i := 6) (N := (some 74)) (v := ?_) (a' := ?_) #[true, true, true, false, false, true, true, false, false, false, false, false, false] rfl rfl (by kernel_rfl) (fun _ _ _ h => h) (Or.inl ⟨by rfl, ?_⟩) ?_ ?_
    rotate_left
    ·intro w'
     go_simp
     with_reducible rfl
    rotate_left
    ·simp only [Act.put, List.setIfInBounds_toArray, List.set_cons_zero, List.set_cons_succ, i64_w, i32_w]
     rfl
    refine one_ (i := 3) (N := (some 71)) #[true, true, true, true, false, true, true, false, false, false, false, false, false] rfl rfl (by kernel_rfl) (by decide) (fun K hK => ?_)
    refine value_ (w1 := ?_) (v := ?_) (by rfl) rfl ?_ ?_
    rotate_left 2
    ·go_simp
     constructor
     ·rfl
     ·rfl
    refine hK.out _ _ (boxS (blk_alloc (blk_drew HG9.out) _)) (fun hHeld => ?_)
    clear hK K
    refine norm_ (a' := ?_) ?_ ?_
    rotate_left
    ·show Act.put _ (some 71) _ = _
     simp only [Act.put, List.setIfInBounds_toArray, List.set_cons_zero, List.set_cons_succ, i64_w, i32_w]
     rfl
    refine one_ (i := 4) (N := (some 72)) #[true, true, true, true, true, true, true, false, false, false, false, false, false] rfl rfl (by kernel_rfl) (by decide) (fun K hK => ?_)
    refine Kd.R_append_step (Kd.int .i64) (w0 := wr) wr.heap.size (by rfl) (.tmp 69) (.tmp 71) 22 3 (.int .i64 0) 8 rfl Tryd.underlying22 info3d rfl (by decide) (by omega) (.slice A9 l.length c9) l (t : Int) [.int .i64 (t : Int)] (fun _ => True) (fun _ => False) rfl rfl rfl (fun _ hk => hk.elim) (fun _ _ => trivial) (Kd.R_drew HO.out) (below_drew HB9.out) (by have := HB9.out.size; exact this) (by have := HLN.out; omega) ?_
    intro v10 w10 ho hb hg hat
    obtain ⟨A10, c10, rfl⟩ := Kd.R_slice ho
    have HO10 := Aside0.mk ho
    have HB10 := Aside0.mk hb
    have HG10 := Aside0.mk (blk_grown (blk_drew HG9.out) hg (Kd.R_ne (Kd.R_drew HO.out) (blk_drew HG9.out) (by decide)))
    clear ho hb hg hat
    refine hK.out _ _ (boxS HG10.out) (fun hHeld => ?_)
    clear hK K
    refine norm_ (a' := ?_) ?_ ?_
    rotate_left
    ·show Act.put _ (some 72) _ = _
     simp only [Act.put, List.setIfInBounds_toArray, List.set_cons_zero, List.set_cons_succ, i64_w, i32_w]
     rfl
    refine one_ (i := 7) (N := (some 75)) #[true, true, true, true, true, true, true, true, false, false, false, false, false] rfl rfl (by kernel_rfl) (by decide) (fun K hK => ?_)
    refine goes_ Tryd.func57 (by kernel_rfl) rfl #[.agg #[.slice A0 a.length c0, .slice A1 b.length c1, .slice A2 c.length c2], .slice A10 (l ++ [(t : Int)]).length c10, .int .i64 (wrap64 (m : Int))] (by rfl) rfl rfl (by (try simp only [List.map_toArray, List.map_cons, List.map_nil]); first | done | rfl) ?_
    rw [show wrap64 (m : Int) = m from by unfold wrap64; omega]
    refine (IH.out _ (H.out.below (HBW.out.trans (HB10.out.mono HBW.out.size))) base _ (l ++ [(t : Int)]) (Kd.R_lower HO10.out (Nat.le_trans HBASE.out HBW.out.size)) (Nat.le_trans HBASE.out (Nat.le_trans HBW.out.size HB10.out.size)) (by have h1 := HLL.out; have h2 := HL.out; omega) HMT.out).mono ?_
    rintro e w11 ⟨v11, rfl, hr11, hb11⟩
    have HR11 := Aside0.mk hr11
    have HG11 := Aside0.mk (blk_below HG10.out hb11)
    have HB11 := Aside0.mk (below_step (HBW.out.trans (HB10.out.mono HBW.out.size)) hb11)
    clear hr11 hb11
    obtain ⟨q, hq⟩ : ∃ q, q = chosenB a b m (l ++ [(t : Int)]) := ⟨_, rfl⟩
    rw [← hq] at HR11 HN ⊢
    obtain ⟨q1, q2⟩ := q
    have HR12 := Aside0.mk (show Kd.R (Kd.int .i64) 3 w11 base (fun _ => True) v11 q1 from HR11.out)
    have HNN := Aside0.mk (show r = if q2 = true then (q1, true) else chLoop (chosenB a b m) l (t + 1) (b.length - (t + 1)) from HN.out)
    clear hq HN HR11
    dsimp only
    refine ⟨_, rfl, ?_⟩
    refine hK.out _ _ (boxS HG11.out) (fun hHeld => ?_)
    clear hK K
    refine norm_ (a' := ?_) ?_ ?_
    rotate_left
    ·show Act.put _ (some 75) _ = _
     simp only [Act.put, List.setIfInBounds_toArray, List.set_cons_zero, List.set_cons_succ, i64_w, i32_w]
     rfl
    refine pure_ (i := 8) (N := (some 67)) (v := ?_) (a' := ?_) #[true, true, true, true, true, true, true, true, true, false, false, false, false] rfl rfl (by kernel_rfl) (fun _ _ _ h => h) (Or.inl ⟨by rfl, ?_⟩) ?_ ?_
    rotate_left
    ·intro w'
     go_simp
     with_reducible rfl
    rotate_left
    ·simp only [Act.put, List.setIfInBounds_toArray, List.set_cons_zero, List.set_cons_succ, i64_w, i32_w]
     rfl
    refine pure_ (i := 9) (N := (some 76)) (v := ?_) (a' := ?_) #[true, true, true, true, true, true, true, true, true, true, false, false, false] rfl rfl (by kernel_rfl) (fun _ _ _ h => h) (Or.inl ⟨by rfl, ?_⟩) ?_ ?_
    rotate_left
    ·intro w'
     go_simp
     with_reducible rfl
    rotate_left
    ·simp only [Act.put, List.setIfInBounds_toArray, List.set_cons_zero, List.set_cons_succ, i64_w, i32_w]
     rfl
    refine pure_ (i := 10) (N := (some 77)) (v := ?_) (a' := ?_) #[true, true, true, true, true, true, true, true, true, true, true, false, false] rfl rfl (by kernel_rfl) (fun _ _ _ h => h) (Or.inl ⟨by rfl, ?_⟩) ?_ ?_
    rotate_left
    ·intro w'
     go_simp
     with_reducible rfl
    rotate_left
    ·simp only [Act.put, List.setIfInBounds_toArray, List.set_cons_zero, List.set_cons_succ, i64_w, i32_w]
     rfl
    refine pure_ (i := 11) (N := (some 14)) (v := ?_) (a' := ?_) #[true, true, true, true, true, true, true, true, true, true, true, true, false] rfl rfl (by kernel_rfl) (fun _ _ _ h => h) (Or.inl ⟨by rfl, ?_⟩) ?_ ?_
    rotate_left
    ·intro w'
     go_simp
     with_reducible rfl
    rotate_left
    ·simp only [Act.put, List.setIfInBounds_toArray, List.set_cons_zero, List.set_cons_succ, i64_w, i32_w]
     rfl
    refine pure_ (i := 12) (N := (some 15)) (v := ?_) (a' := ?_) #[true, true, true, true, true, true, true, true, true, true, true, true, true] rfl rfl (by kernel_rfl) (fun _ _ _ h => h) (Or.inl ⟨by rfl, ?_⟩) ?_ ?_
    rotate_left
    ·intro w'
     go_simp
     with_reducible rfl
    rotate_left
    ·simp only [Act.put, List.setIfInBounds_toArray, List.set_cons_zero, List.set_cons_succ, i64_w, i32_w]
     rfl
    refine done_ (by kernel_rfl) ?_
    cases q2 with
    | true =>
     have HRV := Aside0.mk (show r = (q1, true) by rw [HNN.out, if_pos rfl])
     go_wp2
     go_ret2
     rw [HRV.out]
     exact ⟨v11, rfl, HR12.out, HB11.out⟩
    | false =>
     have HRV := Aside0.mk (show r = chLoop (chosenB a b m) l (t + 1) (b.length - (t + 1)) by rw [HNN.out, if_neg (by decide)])
     go_wp2
     go_roundg (k1 - 1)
     case measure => have := HKQ.out; omega
     case rel => exact ⟨t + 1, by go_num, ⟨by have := HKQ.out; omega⟩, HB11, HG11, HRV⟩
   ·obtain rfl : t = b.length := by have := HKQ.out; omega
    have HRV := Aside0.mk (show r = ([], false) by rw [HLP.out, chLoop_end])
    go_wp2
    go_ret2
    rw [HRV.out]
    exact ⟨_, rfl, Kd.R_nil _ _ _ _ _, HBW.out⟩
theorem chosen_all (hc : CaseIs a b c) : ∀ (m : Nat) (w : World), CaseAt w A0 c0 a A1 c1 b A2 c2 c → ∀ (base : Nat) (v : Value) (l : List Int), Kd.R (Kd.int .i64) 3 w base (fun _ => True) v l → base ≤ w.heap.size → l.length + m ≤ 12 → (∀ x ∈ l, 0 ≤ x ∧ x < (b.length : Int)) → Calls Tryd.prog 57 #[.agg #[.slice A0 a.length c0, .slice A1 b.length c1, .slice A2 c.length c2], v, .int .i64 m] w (ChPost base (chosenB a b m l) w)
 | 0, w, h, base, v, l, hR, hb, hl, hm => chosen_zero h hc base v l hR (by omega) hm
 | m + 1, w, h, base, v, l, hR, hb, hl, hm => chosen_step h hc m base v l hR hb hl hm (fun w h base v l hR hb hl hm => chosen_all hc m w h base v l hR hb hl hm)
end
def tickingref07_chosen.f (a : List Int) (b : List (List Int)) (c : List Int) (l : List Int) (x : Int) : Option (List Int × Bool) := if caseB a b c = true ∧ l = [] ∧ 0 ≤ x ∧ x ≤ 12 then some (chosenB a b x.toNat []) else none
theorem tickingref07_chosen.calls (A0 : Option Addr) (c0 : Nat) (a : List Int) (A1 : Option Addr) (c1 : Nat) (b : List (List Int)) (A2 : Option Addr) (c2 : Nat) (c : List Int) (AL : Option Addr) (cl : Nat) (l : List Int) (x : Int) (r1 : List Int) (r2 : Bool) (w : World)
  (h0 : Kd.C (Kd.int .i64) w A0 a.length a) (n0 : a.length ≤ c0) (h1 : Kd.C (Kd.slice 3 (Kd.int .i64)) w A1 b.length b) (n1 : b.length ≤ c1) (h2 : Kd.C (Kd.int .i64) w A2 c.length c) (n2 : c.length ≤ c2) (hl : Kd.C (Kd.int .i64) w AL l.length l) (nl : l.length ≤ cl) (h : tickingref07_chosen.f a b c l x = some (r1, r2)) (hnil : Value.slice AL l.length cl = .slice none 0 0 := by exact rfl) :
  Calls Tryd.prog 57 #[.agg #[.slice A0 a.length c0, .slice A1 b.length c1, .slice A2 c.length c2], .slice AL l.length cl, .int .i64 x] w fun e w' => ∃ v0_ : Value, e = .returned (.tuple #[v0_, .bool r2]) ∧ Kd.R (Kd.int .i64) 3 w' w.heap.size (fun _ => True) v0_ r1 ∧ Below w.heap.size w w' := by
 have H : CaseAt w A0 c0 a A1 c1 b A2 c2 c := ⟨h0, n0, h1, n1, h2, n2⟩
 unfold tickingref07_chosen.f at h
 split at h
 ·rename_i hc
  obtain ⟨hc1, rfl, hx0, hx1⟩ := hc
  have e := Option.some.inj h
  rw [hnil, show x = ((x.toNat : Nat) : Int) by omega]
  have := chosen_all (case_is hc1) x.toNat w H w.heap.size (.slice none 0 0) [] (Kd.R_nil _ _ _ _ _) (Nat.le_refl _) (by simp; omega) (by simp)
  rw [e] at this
  exact this
 ·cases h
end Go.Proofs.YtekmiepdodaidaaDoor.X
end

section
namespace Go.Proofs.YtekmiepdodaidaaDoor.X
open Go.RowKit Go.Proofs.YtekmiepdodaidaaDoorW.PrintWords Go.Proofs.YtekmiepdodaidaaDoorW.PrintLast Go.Proofs.YtekmiepdodaidaaDoorW.PrintMore
attribute [local go_sem] max2_int min2_int max_two min_two max_three min_three max_four min_four   -- for this text's walks alone
set_option linter.unusedVariables false
set_option linter.unusedSimpArgs false

def tickingref07_Cover.l0 : Nat → Int → List Int → List (List Int) → List Int → Option (List Int × Bool)
 | 0, _, _, _, _ => none
 | k + 1, x4, x440000, x440001, x440002 => if x4 ≤ (x440001.length : Int) then ((tickingref07_chosen.f x440000 x440001 x440002 ([] : List Int) x4).bind fun bt443 => (if bt443.2 = true then (some (bt443.1, true)) else (tickingref07_Cover.l0 k (wrap64 (x4 + 1)) x440000 x440001 x440002))) else (some (([] : List Int), false))
def tickingref07_Cover.f (k : Nat) (l0_0 : List Int) (l0_1 : List (List Int)) (l0_2 : List Int) : Option (List Int × Bool) := (tickingref07_Alike.f k l0_0 l0_1 l0_2).bind fun t440 => (if (t440.length : Int) > 0 then (some (([] : List Int), false)) else (tickingref07_Cover.l0 k 0 l0_0 l0_1 l0_2))
set_option maxHeartbeats 8000000 in
set_option maxRecDepth 100000 in
theorem tickingref07_Cover.calls (k : Nat) (A0_0 : Option Addr) (c0_0 : Nat) (l0_0 : List Int) (A0_1 : Option Addr) (c0_1 : Nat) (l0_1 : List (List Int)) (A0_2 : Option Addr) (c0_2 : Nat) (l0_2 : List Int) (r1 : List Int) (r2 : Bool) (w : World) (hr0_0 : Kd.C (Kd.int .i64) w A0_0 l0_0.length l0_0) (hc0_0 : l0_0.length ≤ c0_0) (hr0_1 : Kd.C (Kd.slice 3 (Kd.int .i64)) w A0_1 l0_1.length l0_1) (hc0_1 : l0_1.length ≤ c0_1) (hr0_2 : Kd.C (Kd.int .i64) w A0_2 l0_2.length l0_2) (hc0_2 : l0_2.length ≤ c0_2) (h : tickingref07_Cover.f k l0_0 l0_1 l0_2 = some (r1, r2)) :
  Calls Tryd.prog 30 #[.agg #[.slice A0_0 l0_0.length c0_0, .slice A0_1 l0_1.length c0_1, .slice A0_2 l0_2.length c0_2]] w fun e w' => ∃ v0_ : Value, e = .returned (.tuple #[v0_, .bool r2]) ∧ Kd.R (Kd.int .i64) 3 w' w.heap.size (fun _ => True) v0_ r1 ∧ Below w.heap.size w w' := by
 have hu25 := Tryd.underlying25
 have HR0_0 := Aside0.mk hr0_0
 have HC0_0 := Aside0.mk hc0_0
 clear hr0_0 hc0_0
 have HR0_1 := Aside0.mk hr0_1
 have HC0_1 := Aside0.mk hc0_1
 clear hr0_1 hc0_1
 have HR0_2 := Aside0.mk hr0_2
 have HC0_2 := Aside0.mk hc0_2
 clear hr0_2 hc0_2
 have HB := Aside0.mk (Below.refl w.heap.size w)
 have H : ((tickingref07_Alike.f k l0_0 l0_1 l0_2).bind fun t440 => (if (t440.length : Int) > 0 then (some (([] : List Int), false)) else (tickingref07_Cover.l0 k 0 l0_0 l0_1 l0_2))) = some (r1, r2) := h
 clear h
 replace H := Option.bind_eq_some_iff.mp H
 obtain ⟨t440, A20, H⟩ := H
 replace H : (if (t440.length : Int) > 0 then (some (([] : List Int), false)) else (tickingref07_Cover.l0 k 0 l0_0 l0_1 l0_2)) = some (r1, r2) := H
 have A2 := Aside0.mk A20
 clear A20
 go_enter Tryd.func30, Tryd.ntmps30
 go_wp2_with (first | ((with_reducible refine gate_dst (N := 1) rfl ?_); refine box_event ?hg (N := 1) ?hd (cs := #[.slice A0_0 l0_0.length c0_0, .slice A0_1 l0_1.length c0_1, .slice A0_2 l0_2.length c0_2]) (t := 25) ?hr ?_; (case hd => rfl); (case hg => rfl); (case hr => first | (go_simp; done) | (go_simp; rfl)); intro gb439 hg w4 hbox hb; have n0_ := Aside0.mk (below_step bz hb); have n1_ := Aside0.mk (hbox); have n2_ := Aside0.mk ((by rw [hg]; exact (below_size bz) : w.heap.size ≤ gb439)); have n3_ := Aside0.mk ((by rw [hg]; exact (below_size bz) : w.heap.size ≤ gb439)); clear HB; have HB := n0_; have BK439 := n1_; have GW439 := n2_; have GE439 := n3_; clear n0_ n1_ n2_ n3_; clear hb hbox hg; have hcz5_0 : w4.cell? ⟨gb439, 0, none⟩ = some (.slice A0_0 l0_0.length c0_0) := (blk_cell BK439.out 0).trans rfl; have hcz5_1 : w4.cell? ⟨gb439, 1, none⟩ = some (.slice A0_1 l0_1.length c0_1) := (blk_cell BK439.out 1).trans rfl; have hcz5_2 : w4.cell? ⟨gb439, 2, none⟩ = some (.slice A0_2 l0_2.length c0_2) := (blk_cell BK439.out 2).trans rfl; have hfz5_0 := blk_frozen BK439.out 0; have hfz5_1 := blk_frozen BK439.out 1; have hfz5_2 := blk_frozen BK439.out 2) | ((with_reducible refine gate_callee (f := 18) rfl ?_); refine goesL_ (some 8) rfl rfl Tryd.func18 (by kernel_rfl) rfl #[.agg #[.slice A0_0 l0_0.length c0_0, .slice A0_1 l0_1.length c0_1, .slice A0_2 l0_2.length c0_2]] rfl dz ?_; (with_reducible refine (tickingref07_Alike.calls k _ _ l0_0 _ _ l0_1 _ _ l0_2 t440 _ ?side1 ?side2 ?side3 ?side4 ?side5 ?side6 A2.out).mono ?_); (case side1 => exact cz ((Kd.C_below HR0_0.out HB.out))); (case side2 => exact HC0_0.out); (case side3 => exact cz ((Kd.C_below HR0_1.out HB.out))); (case side4 => exact HC0_1.out); (case side5 => exact cz ((Kd.C_below HR0_2.out HB.out))); (case side6 => exact HC0_2.out); rintro e w6 ⟨v441, rfl, ho0, hb⟩; refine ⟨_, rfl, ?_⟩; have n0_ := Aside0.mk (Kd.R_lower ho0 (below_size bz)); have n1_ := Aside0.mk (kb BK439.out hb); have n2_ := Aside0.mk (below_step bz hb); clear BK439; clear HB; have HO442 := n0_; have BK439 := n1_; have HB := n2_; clear n0_ n1_ n2_; (try clear hb); (try clear hb2); (try clear hk); (try clear hi); (try clear ho0); obtain ⟨Ao7, co7, eo7⟩ := Kd.R_slice HO442.out; subst eo7; refine hold_ ?_; intro P_ hP_))
 refine hP_.out ?_
 clear hP_ P_
 by_cases c3 : (t440.length : Int) > 0
 ·rw [if_pos c3] at H
  have c3b0 : decide (0 < (t440.length : Int)) = true := decide_eq_true c3
  have c3b1 : decide (0 < t440.length) = true := decide_eq_true (by omega)
  clear c3
  simp only [Option.some.injEq, Prod.mk.injEq] at H
  obtain ⟨rfl, rfl⟩ := H
  go_wp2_with fail
  go_ret2
  exact ⟨_, by first | rfl | (simp [errW_none, errW_some] <;> rfl) | (simp [*, errW_none, errW_some] <;> rfl), by first | exact Kd.R_nil _ _ _ _ _ | exact Kd.N_nil _ _ _ _ _ | exact Kd.V_nil _ _ _ _ _ | exact Kd.Q_nil _ _ _ _ _ | exact Kd.S_nil _ _ _ _ _, by repeat (first | (with_reducible first | exact HB.out | apply below_alloc | apply pw_below_drewN | apply below_drew1 | refine below_set ?_ GE439.out) | exact HB.out)⟩
 ·rw [if_neg c3] at H
  have c3b0 : decide (0 < (t440.length : Int)) = false := decide_eq_false c3
  have c3b1 : decide (0 < t440.length) = false := decide_eq_false (by omega)
  clear c3
  have H' := Aside0.mk H
  clear H
  go_wp2_with fail
  go_loopg [4] k (fun kq v4 w' => ∃ (x4_1 : Int), v4 = .int .i64 x4_1 ∧ Aside0 (tickingref07_Cover.l0 kq x4_1 l0_0 l0_1 l0_2 = some (r1, r2)) ∧ Aside0 (kq ≤ k) ∧ Aside0 (w'.heap[gb439]? = some (.cells #[(.slice A0_0 l0_0.length c0_0), (.slice A0_1 l0_1.length c0_1), (.slice A0_2 l0_2.length c0_2)] 25 (0, 0))) ∧ Aside0 (Below w.heap.size w w'))
  case atStart => exact ⟨(0), (by first | rfl | (simp; done) | (simp [*]; done)), H', ⟨Nat.le_refl _⟩, ⟨by (with_reducible repeat (first | refine blk_drewN ?_ _ | refine blk_drew ?_ | refine blk_alloc ?_ _)); exact BK439.out⟩, ⟨by repeat (first | (with_reducible first | exact HB.out | apply below_alloc | apply pw_below_drewN | apply below_drew1 | refine below_set ?_ GE439.out) | exact HB.out)⟩⟩
  case round =>
   clear H'
   try clear c1
   try clear p2
   try clear c3
   try clear c3b0
   try clear c3b1
   try clear hcz5_0
   try clear hcz5_1
   try clear hcz5_2
   try clear hcz5_0
   try clear hcz5_1
   try clear hcz5_2
   try clear hfz5_0
   try clear hfz5_1
   try clear hfz5_2
   try clear hfz5_0
   try clear hfz5_1
   try clear hfz5_2
   obtain ⟨x4_1, rfl, HA, HK1, BK439, HB⟩ := hrel
   cases gk with
   | zero => exact absurd HA.out (by simp [tickingref07_Cover.l0])
   | succ k1 =>
    have H := HA.out
    clear HA
    simp only [tickingref07_Cover.l0] at H
    by_cases c12 : x4_1 ≤ (l0_1.length : Int)
    ·rw [if_pos c12] at H
     have c12b0 : decide (x4_1 ≤ (l0_1.length : Int)) = true := decide_eq_true c12
     clear c12
     replace H := Option.bind_eq_some_iff.mp H
     obtain ⟨⟨t443, t446⟩, A130, H⟩ := H
     replace H : (if t446 = true then (some (t443, true)) else (tickingref07_Cover.l0 k1 (wrap64 (x4_1 + 1)) l0_0 l0_1 l0_2)) = some (r1, r2) := H
     have A13 := Aside0.mk A130
     clear A130
     by_cases c14 : t446 = true
     ·subst c14
      have H1 : (some (t443, true)) = some (r1, r2) := by rw [if_pos rfl] at H; exact H
      clear H
      have H := H1
      clear H1
      simp only [Option.some.injEq, Prod.mk.injEq] at H
      obtain ⟨rfl, rfl⟩ := H
      have hcz15_0 : wr.cell? ⟨gb439, 0, none⟩ = some (.slice A0_0 l0_0.length c0_0) := (blk_cell BK439.out 0).trans rfl
      have hcz15_1 : wr.cell? ⟨gb439, 1, none⟩ = some (.slice A0_1 l0_1.length c0_1) := (blk_cell BK439.out 1).trans rfl
      have hcz15_2 : wr.cell? ⟨gb439, 2, none⟩ = some (.slice A0_2 l0_2.length c0_2) := (blk_cell BK439.out 2).trans rfl
      have hfz15_0 := blk_frozen BK439.out 0
      have hfz15_1 := blk_frozen BK439.out 1
      have hfz15_2 := blk_frozen BK439.out 2
      go_wp2_with (first | ((with_reducible refine gate_callee (f := 57) rfl ?_); refine goesL_ (some 21) rfl rfl Tryd.func57 (by kernel_rfl) rfl #[.agg #[.slice A0_0 l0_0.length c0_0, .slice A0_1 l0_1.length c0_1, .slice A0_2 l0_2.length c0_2], .slice none 0 0, .int .i64 x4_1] rfl dz ?_; (refine (tickingref07_chosen.calls _ _ l0_0 _ _ l0_1 _ _ l0_2 _ _ ([] : List Int) x4_1 t443 true _ ?side1 ?side2 ?side3 ?side4 ?side5 ?side6 ?side7 ?side8 A13.out).mono ?_); (case side1 => exact cz ((Kd.C_below HR0_0.out HB.out))); (case side2 => exact HC0_0.out); (case side3 => exact cz ((Kd.C_below HR0_1.out HB.out))); (case side4 => exact HC0_1.out); (case side5 => exact cz ((Kd.C_below HR0_2.out HB.out))); (case side6 => exact HC0_2.out); (case side7 => exact Kd.C_nil _ _); (case side8 => exact Nat.le_refl _); rintro e w16 ⟨v444, rfl, ho0, hb⟩; refine ⟨_, rfl, ?_⟩; have n0_ := Aside0.mk (Kd.R_lower ho0 (below_size bz)); have n1_ := Aside0.mk (kb BK439.out hb); have n2_ := Aside0.mk (below_step bz hb); clear BK439; clear HB; have HO445 := n0_; have BK439 := n1_; have HB := n2_; clear n0_ n1_ n2_; (try clear hb); (try clear hb2); (try clear hk); (try clear hi); (try clear ho0)))
      go_ret2
      exact ⟨_, by first | rfl | (simp [errW_none, errW_some] <;> rfl) | (simp [*, errW_none, errW_some] <;> rfl), by (with_reducible repeat (first | apply Kd.R_alloc | apply Kd.R_drewN | apply Kd.R_drew)); exact HO445.out, by repeat (first | (with_reducible first | exact HB.out | apply below_alloc | apply pw_below_drewN | apply below_drew1 | refine below_set ?_ GE439.out) | exact HB.out)⟩
     ·replace c14 := Bool.eq_false_iff.mpr c14
      subst c14
      have H1 : (tickingref07_Cover.l0 k1 (wrap64 (x4_1 + 1)) l0_0 l0_1 l0_2) = some (r1, r2) := by rw [if_neg (show ¬ (false = true) by decide)] at H; exact H
      clear H
      have H := H1
      clear H1
      have H' := Aside0.mk H
      clear H
      have hcz17_0 : wr.cell? ⟨gb439, 0, none⟩ = some (.slice A0_0 l0_0.length c0_0) := (blk_cell BK439.out 0).trans rfl
      have hcz17_1 : wr.cell? ⟨gb439, 1, none⟩ = some (.slice A0_1 l0_1.length c0_1) := (blk_cell BK439.out 1).trans rfl
      have hcz17_2 : wr.cell? ⟨gb439, 2, none⟩ = some (.slice A0_2 l0_2.length c0_2) := (blk_cell BK439.out 2).trans rfl
      have hfz17_0 := blk_frozen BK439.out 0
      have hfz17_1 := blk_frozen BK439.out 1
      have hfz17_2 := blk_frozen BK439.out 2
      go_wp2_with (first | ((with_reducible refine gate_callee (f := 57) rfl ?_); refine goesL_ (some 21) rfl rfl Tryd.func57 (by kernel_rfl) rfl #[.agg #[.slice A0_0 l0_0.length c0_0, .slice A0_1 l0_1.length c0_1, .slice A0_2 l0_2.length c0_2], .slice none 0 0, .int .i64 x4_1] rfl dz ?_; (refine (tickingref07_chosen.calls _ _ l0_0 _ _ l0_1 _ _ l0_2 _ _ ([] : List Int) x4_1 t443 false _ ?side1 ?side2 ?side3 ?side4 ?side5 ?side6 ?side7 ?side8 A13.out).mono ?_); (case side1 => exact cz ((Kd.C_below HR0_0.out HB.out))); (case side2 => exact HC0_0.out); (case side3 => exact cz ((Kd.C_below HR0_1.out HB.out))); (case side4 => exact HC0_1.out); (case side5 => exact cz ((Kd.C_below HR0_2.out HB.out))); (case side6 => exact HC0_2.out); (case side7 => exact Kd.C_nil _ _); (case side8 => exact Nat.le_refl _); rintro e w18 ⟨v444, rfl, ho0, hb⟩; refine ⟨_, rfl, ?_⟩; have n0_ := Aside0.mk (Kd.R_lower ho0 (below_size bz)); have n1_ := Aside0.mk (kb BK439.out hb); have n2_ := Aside0.mk (below_step bz hb); clear BK439; clear HB; have HO445 := n0_; have BK439 := n1_; have HB := n2_; clear n0_ n1_ n2_; (try clear hb); (try clear hb2); (try clear hk); (try clear hi); (try clear ho0)))
      go_roundg k1
      case measure => have := HK1.out; omega
      case rel => exact ⟨(wrap64 (x4_1 + 1)), (by first | rfl | (simp; done) | (simp [*]; done)), H', ⟨by have := HK1.out; omega⟩, ⟨by (with_reducible repeat (first | refine blk_drewN ?_ _ | refine blk_drew ?_ | refine blk_alloc ?_ _)); exact BK439.out⟩, ⟨by repeat (first | (with_reducible first | exact HB.out | apply below_alloc | apply pw_below_drewN | apply below_drew1 | refine below_set ?_ GE439.out) | exact HB.out)⟩⟩
    ·rw [if_neg c12] at H
     have c12b0 : decide (x4_1 ≤ (l0_1.length : Int)) = false := decide_eq_false c12
     clear c12
     simp only [Option.some.injEq, Prod.mk.injEq] at H
     obtain ⟨rfl, rfl⟩ := H
     have hcz19_0 : wr.cell? ⟨gb439, 0, none⟩ = some (.slice A0_0 l0_0.length c0_0) := (blk_cell BK439.out 0).trans rfl
     have hcz19_1 : wr.cell? ⟨gb439, 1, none⟩ = some (.slice A0_1 l0_1.length c0_1) := (blk_cell BK439.out 1).trans rfl
     have hcz19_2 : wr.cell? ⟨gb439, 2, none⟩ = some (.slice A0_2 l0_2.length c0_2) := (blk_cell BK439.out 2).trans rfl
     have hfz19_0 := blk_frozen BK439.out 0
     have hfz19_1 := blk_frozen BK439.out 1
     have hfz19_2 := blk_frozen BK439.out 2
     go_wp2
     go_ret2
     exact ⟨_, by first | rfl | (simp [errW_none, errW_some] <;> rfl) | (simp [*, errW_none, errW_some] <;> rfl), by first | exact Kd.R_nil _ _ _ _ _ | exact Kd.N_nil _ _ _ _ _ | exact Kd.V_nil _ _ _ _ _ | exact Kd.Q_nil _ _ _ _ _ | exact Kd.S_nil _ _ _ _ _, by repeat (first | (with_reducible first | exact HB.out | apply below_alloc | apply pw_below_drewN | apply below_drew1 | refine below_set ?_ GE439.out) | exact HB.out)⟩

end Go.Proofs.YtekmiepdodaidaaDoor.X
end

section
/- Layer 7, plain: Cover: the first smallest set of tests, as the program and as the reference find it. -/
set_option linter.unusedVariables false
namespace Go.Proofs.YtekmiepdodaidaaDoor.X
open Go.RowKit Go.Proofs.YtekmiepdodaidaaDoorW.PrintWords Go.Proofs.YtekmiepdodaidaaDoorW.PrintLast Go.Proofs.YtekmiepdodaidaaDoorW.PrintMore

def AscB : Int → Int → List Int → Prop
 | _, _, [] => True
 | lo, T, x :: xs => lo ≤ x ∧ x < T ∧ AscB (x + 1) T xs
theorem AscB.mono {T T' : Int} (h : T ≤ T') : ∀ {l : List Int} {lo : Int}, AscB lo T l → AscB lo T' l
 | [], _, _ => trivial
 | x :: xs, lo, hl => ⟨hl.1, by have := hl.2.1; omega, AscB.mono h hl.2.2⟩
theorem AscB.snoc {T : Int} : ∀ {l : List Int} {lo : Int}, AscB lo T l → lo ≤ T → AscB lo (T + 1) (l ++ [T])
 | [], lo, _, h => ⟨h, by omega, trivial⟩
 | x :: xs, lo, hl, h => ⟨hl.1, by have := hl.2.1; omega, AscB.snoc hl.2.2 (by have := hl.2.1; omega)⟩
theorem AscB.mem {T : Int} : ∀ {l : List Int} {lo : Int}, AscB lo T l → ∀ x ∈ l, lo ≤ x ∧ x < T
 | [], _, _, x, h => by cases h
 | y :: ys, lo, hl, x, h => by
  rcases List.mem_cons.1 h with rfl | h
  ·exact ⟨hl.1, hl.2.1⟩
  ·have := AscB.mem hl.2.2 x h
   have := hl.1
   omega
theorem AscB.split {T : Int} : ∀ {l : List Int} {lo : Int}, AscB lo (T + 1) l → AscB lo T l ∨ ∃ l', l = l' ++ [T] ∧ AscB lo T l'
 | [], _, _ => .inl trivial
 | x :: xs, lo, h => by
  obtain ⟨h1, h2, h3⟩ := h
  rcases AscB.split h3 with h4 | ⟨l', h4, h5⟩
  ·by_cases e : x = T
   ·subst e
    cases xs with
    | nil => exact .inr ⟨[], rfl, trivial⟩
    | cons y ys => have := h4.1; have := h4.2.1; omega
   ·exact .inl ⟨h1, by omega, h4⟩
  ·by_cases e : x = T
   ·subst e
    subst h4
    cases l' with
    | nil => have := h3.1; have := h3.2.1; omega
    | cons y ys => have := h5.1; have := h5.2.1; omega
   ·exact .inr ⟨x :: l', by rw [h4]; rfl, h1, by omega, h5⟩
theorem AscB.len {T : Int} : ∀ {l : List Int} {lo : Int}, AscB lo T l → lo ≤ T → (l.length : Int) ≤ T - lo
 | [], lo, _, h => by simp; omega
 | x :: xs, lo, hl, h => by
  have := AscB.len hl.2.2 (by have := hl.2.1; omega)
  have := hl.1
  simp only [List.length_cons]
  omega
theorem selB_asc (set : Nat) : ∀ T : Nat, AscB 0 (T : Int) (selB set T)
 | 0 => trivial
 | T + 1 => by
  have ih := selB_asc set T
  unfold selB
  split
  ·have := AscB.snoc ih (by omega)
   rwa [show ((T + 1 : Nat) : Int) = (T : Int) + 1 by omega]
  ·rw [List.append_nil]
   exact ih.mono (by omega)
theorem selB_congr {s s' : Nat} : ∀ T : Nat, (∀ i, i < T → s.testBit i = s'.testBit i) → selB s T = selB s' T
 | 0, _ => rfl
 | T + 1, h => by unfold selB; rw [selB_congr T (fun i hi => h i (by omega)), h T (by omega)]
theorem selB_all : ∀ (T : Nat) (l : List Int), AscB 0 (T : Int) l → ∃ set, set < 2 ^ T ∧ selB set T = l
 | 0, l, h => by
  cases l with
  | nil => exact ⟨0, by simp, rfl⟩
  | cons x xs => have := h.1; have := h.2.1; omega
 | T + 1, l, h => by
  rw [show ((T + 1 : Nat) : Int) = (T : Int) + 1 by omega] at h
  rcases AscB.split h with h1 | ⟨l', rfl, h1⟩
  ·obtain ⟨set, hs, he⟩ := selB_all T l h1
   refine ⟨set, by rw [Nat.pow_succ]; omega, ?_⟩
   unfold selB
   rw [he, if_neg (by rw [Nat.testBit_lt_two_pow hs]; decide), List.append_nil]
  ·obtain ⟨set, hs, he⟩ := selB_all T l' h1
   refine ⟨2 ^ T + set, by rw [Nat.pow_succ]; omega, ?_⟩
   unfold selB
   have h2 : selB (2 ^ T + set) T = selB set T := selB_congr T (fun i hi => Nat.testBit_two_pow_add_gt hi set)
   have h3 : (2 ^ T + set).testBit T = true := by rw [Nat.testBit_two_pow_add_eq, Nat.testBit_lt_two_pow hs]; rfl
   rw [h2, he, if_pos h3]
theorem cmpI_lt (x y : Int) : cmpI x y < 0 ↔ x < y := by unfold cmpI; split <;> (try split) <;> omega
theorem cmpI_eq (x y : Int) : cmpI x y = 0 ↔ x = y := by unfold cmpI; split <;> (try split) <;> omega
theorem cmpL_cons (x y : Int) (a b : List Int) : cmpL (x :: a) (y :: b) < 0 ↔ x < y ∨ (x = y ∧ cmpL a b < 0) := by
 rw [cmpL]
 by_cases h : cmpI x y = 0
 ·rw [if_pos h]
  have := (cmpI_eq x y).1 h
  omega
 ·rw [if_neg h, cmpI_lt]
  have := mt (cmpI_eq x y).2 h
  omega
theorem cmpL_trans : ∀ {a b c : List Int}, cmpL a b < 0 → cmpL b c < 0 → cmpL a c < 0
 | [], [], _, h, _ => by simp [cmpL] at h
 | [], _ :: _, [], _, h => by simp [cmpL] at h
 | [], _ :: _, _ :: _, _, _ => by simp [cmpL]
 | _ :: _, [], _, h, _ => by simp [cmpL] at h
 | _ :: _, _ :: _, [], _, h => by simp [cmpL] at h
 | x :: a, y :: b, z :: c, h1, h2 => by
  rw [cmpL_cons] at h1 h2 ⊢
  rcases h1 with h1 | ⟨rfl, h1⟩ <;> rcases h2 with h2 | ⟨rfl, h2⟩
  ·exact .inl (by omega)
  ·exact .inl h1
  ·exact .inl h2
  ·exact .inr ⟨rfl, cmpL_trans h1 h2⟩
theorem cmpL_total : ∀ {a b : List Int}, ¬ cmpL a b < 0 → ¬ cmpL b a < 0 → a = b
 | [], [], _, _ => rfl
 | [], _ :: _, h, _ => by simp [cmpL] at h
 | _ :: _, [], _, h => by simp [cmpL] at h
 | x :: a, y :: b, h1, h2 => by
  rw [cmpL_cons] at h1 h2
  obtain rfl : x = y := by
   rcases Int.lt_trichotomy x y with h | h | h
   ·exact absurd (.inl h) h1
   ·exact h
   ·exact absurd (.inl h) h2
  rw [cmpL_total (a := a) (b := b) (fun h => h1 (.inr ⟨rfl, h⟩)) (fun h => h2 (.inr ⟨rfl, h⟩))]
theorem before_iff (l b : List Int) : beforeB l b = true ↔ l.length < b.length ∨ (l.length = b.length ∧ cmpL l b < 0) := by
 unfold beforeB
 rw [decide_eq_true_iff]
 unfold orI
 split
 ·rename_i h
  have := (cmpI_eq _ _).1 h
  omega
 ·rename_i h
  have h2 := mt (cmpI_eq (l.length : Int) (b.length : Int)).2 h
  rw [cmpI_lt]
  omega
theorem before_trans {a b c : List Int} (h1 : beforeB a b = true) (h2 : beforeB b c = true) : beforeB a c = true := by
 rw [before_iff] at *
 rcases h1 with h1 | ⟨h1, h3⟩ <;> rcases h2 with h2 | ⟨h2, h4⟩
 ·exact .inl (by omega)
 ·exact .inl (by omega)
 ·exact .inl (by omega)
 ·exact .inr ⟨by omega, cmpL_trans h3 h4⟩
theorem before_irr (l : List Int) : beforeB l l = false := by
 cases h : beforeB l l with
 | false => rfl
 | true =>
  have h2 := before_trans h h
  rw [before_iff] at h
  exfalso
  rcases h with h | ⟨_, h⟩
  ·omega
  ·have : ∀ (l : List Int), ¬ cmpL l l < 0 := by
    intro l
    induction l with
    | nil => simp [cmpL]
    | cons x xs ih => rw [cmpL_cons]; rintro (h | ⟨_, h⟩); omega; exact ih h
   exact this l h
/-- What the program finds. -/
theorem coverB_is (ones : List Int) (n : Nat) : ∀ M,
  (∀ l, coverB ones n M = some l → (∃ set, set < M ∧ l = selB set ones.length) ∧ apartB ones l n = true ∧ ∀ set, set < M → apartB ones (selB set ones.length) n = true → beforeB (selB set ones.length) l = false) ∧
  (coverB ones n M = none → ∀ set, set < M → apartB ones (selB set ones.length) n = false)
 | 0 => ⟨fun l h => (by cases h), fun _ set h => absurd h (Nat.not_lt_zero _)⟩
 | M + 1 => by
  obtain ⟨h1, h2⟩ := coverB_is ones n M
  cases hc : coverB ones n M with
  | none =>
   have h2 := h2 hc
   have e : coverB ones n (M + 1) = if apartB ones (selB M ones.length) n = true then some (selB M ones.length) else none := by
    show coverStep ones n (coverB ones n M) M = _
    rw [hc]; unfold coverStep coverTake; simp only [Bool.and_true]
   rw [e]
   by_cases ha : apartB ones (selB M ones.length) n = true
   ·rw [if_pos ha]
    refine ⟨fun l hl => ?_, fun h => (by cases h)⟩
    obtain rfl := Option.some.inj hl
    refine ⟨⟨M, Nat.lt_succ_self _, rfl⟩, ha, fun set hs hap => ?_⟩
    by_cases es : set = M
    ·subst es; exact before_irr _
    ·rw [h2 set (by omega)] at hap; cases hap
   ·rw [if_neg ha]
    refine ⟨fun l hl => (by cases hl), fun _ set hs => ?_⟩
    by_cases es : set = M
    ·subst es; simpa using ha
    ·exact h2 set (by omega)
  | some lb =>
   obtain ⟨⟨sb, hsb, rfl⟩, hap, hmin⟩ := h1 lb hc
   have e : coverB ones n (M + 1) = if (apartB ones (selB M ones.length) n && beforeB (selB M ones.length) (selB sb ones.length)) = true then some (selB M ones.length) else some (selB sb ones.length) := by
    show coverStep ones n (coverB ones n M) M = _
    rw [hc]; rfl
   rw [e]
   by_cases ht : (apartB ones (selB M ones.length) n && beforeB (selB M ones.length) (selB sb ones.length)) = true
   ·rw [if_pos ht]
    refine ⟨fun l hl => ?_, fun h => (by cases h)⟩
    obtain rfl := Option.some.inj hl
    rw [Bool.and_eq_true] at ht
    refine ⟨⟨M, Nat.lt_succ_self _, rfl⟩, ht.1, fun set hs hap2 => ?_⟩
    by_cases es : set = M
    ·subst es; exact before_irr _
    ·cases hb : beforeB (selB set ones.length) (selB M ones.length) with
     | false => rfl
     | true =>
      have := hmin set (by omega) hap2
      rw [before_trans hb ht.2] at this
      cases this
   ·rw [if_neg ht]
    refine ⟨fun l hl => ?_, fun h => (by cases h)⟩
    obtain rfl := Option.some.inj hl
    refine ⟨⟨sb, by omega, rfl⟩, hap, fun set hs hap2 => ?_⟩
    by_cases es : set = M
    ·subst es
     rw [hap2, Bool.true_and] at ht
     simpa using ht
    ·exact hmin set (by omega) hap2
theorem resB_eq (ones : List Int) (i j : Nat) : ∀ (l : List Int) (r r' : Nat), resB ones i l r = resB ones j l r' ↔ r = r' ∧ ∀ k ∈ l, hasB (rd ones k) i = hasB (rd ones k) j
 | [], r, r' => by simp [resB]
 | k :: l, r, r' => by
  unfold resB
  rw [resB_eq ones i j l]
  constructor
  ·rintro ⟨h1, h2⟩
   have : hasB (rd ones k) i = hasB (rd ones k) j ∧ r = r' := by
    cases ha : hasB (rd ones k) i <;> cases hb : hasB (rd ones k) j <;> simp [ha, hb] at h1 ⊢ <;> omega
   exact ⟨this.2, fun q hq => by rcases List.mem_cons.1 hq with rfl | hq; exact this.1; exact h2 q hq⟩
  ·rintro ⟨rfl, h2⟩
   rw [h2 k (by simp)]
   exact ⟨rfl, fun q hq => h2 q (by simp [hq])⟩
theorem apart_iff (ones l : List Int) : ∀ n : Nat, apartB ones l n = true ↔ ∀ j, j < n → ∀ i, i < j → ∃ k ∈ l, sameB (i : Int) (j : Int) (rd ones k) = false
 | 0 => by simp [apartB_zero]
 | n + 1 => by
  rw [apartB_snoc, Bool.and_eq_true, apart_iff ones l n, decide_eq_true_iff]
  have key : ∀ i : Nat, resB ones i l 0 ≠ resB ones n l 0 ↔ ∃ k ∈ l, sameB (i : Int) (n : Int) (rd ones k) = false := by
   intro i
   rw [ne_eq, resB_eq]
   unfold sameB
   constructor
   ·intro h
    refine Classical.byContradiction fun hn => h ⟨rfl, fun k hk => ?_⟩
    refine Classical.byContradiction fun hk2 => hn ⟨k, hk, by simpa using hk2⟩
   ·rintro ⟨k, hk, h1⟩ ⟨_, h2⟩
    rw [h2 k hk] at h1
    simp at h1
  constructor
  ·rintro ⟨h1, h2⟩ j hj i hi
   by_cases e : j = n
   ·subst e; exact (key i).1 (h2 i hi)
   ·exact h1 j (by omega) i hi
  ·intro h
   exact ⟨fun j hj i hi => h j (by omega) i hi, fun i hi => (key i).2 (h n (by omega) i hi)⟩
theorem pairsIn_nil {ones : List Int} {a : Nat} : ∀ (m b : Nat), (∀ j, j < m → ∃ x ∈ ones, sameB (a : Int) ((b + j : Nat) : Int) x = false) → pairsIn ones a b m = []
 | 0, _, _ => rfl
 | m + 1, b, h => by
  unfold pairsIn
  obtain ⟨x, hx, hs⟩ := h 0 (by omega)
  rw [Nat.add_zero] at hs
  rw [if_neg (by intro hall; rw [List.all_eq_true.1 hall x hx] at hs; cases hs), List.nil_append]
  exact pairsIn_nil m (b + 1) (fun j hj => by have := h (j + 1) (by omega); rwa [show b + (j + 1) = b + 1 + j by omega] at this)
theorem pairsOut_nil {ones : List Int} {n : Nat} (h : ∀ j, j < n → ∀ i, i < j → ∃ x ∈ ones, sameB (i : Int) (j : Int) x = false) : ∀ (m a : Nat), a + m = n → pairsOut ones n a m = []
 | 0, _, _ => rfl
 | m + 1, a, ha => by
  unfold pairsOut
  rw [pairsIn_nil _ _ (fun j hj => h (a + 1 + j) (by omega) a (by omega)), List.nil_append]
  exact pairsOut_nil h m (a + 1) (by omega)
theorem alikeL_iff (ones : List Int) (n : Nat) : alikeL ones n = [] ↔ ∀ j, j < n → ∀ i, i < j → ∃ x ∈ ones, sameB (i : Int) (j : Int) x = false :=
 ⟨fun h j hj i hi => alikeL_none h hi hj, fun h => pairsOut_nil h n 0 (by omega)⟩
theorem rows_ones {b : List (List Int)} {l : List Int} (hm : ∀ x ∈ l, 0 ≤ x ∧ x < (b.length : Int)) : onesOf (rowsOf b l) = l.map (rd (onesOf b)) := by
 unfold onesOf rowsOf
 rw [List.map_map]
 refine List.map_congr_left (fun x hx => ?_)
 have h := hm x hx
 have hl : x.toNat < b.length := by omega
 simp [rd_L1, rd, List.getD_eq_getElem?_getD, List.getElem?_map, List.getElem?_eq_getElem hl]
theorem rows_apart {b : List (List Int)} {l : List Int} (hm : ∀ x ∈ l, 0 ≤ x ∧ x < (b.length : Int)) (n : Nat) : alikeL (onesOf (rowsOf b l)) n = [] ↔ apartB (onesOf b) l n = true := by
 rw [alikeL_iff, apart_iff, rows_ones hm]
 constructor
 ·intro h j hj i hi
  obtain ⟨x, hx, hs⟩ := h j hj i hi
  obtain ⟨k, hk, rfl⟩ := List.mem_map.1 hx
  exact ⟨k, hk, hs⟩
 ·intro h j hj i hi
  obtain ⟨k, hk, hs⟩ := h j hj i hi
  exact ⟨_, List.mem_map.2 ⟨k, hk, rfl⟩, hs⟩
theorem fromB_snoc (l : List Int) (t : Nat) : fromB (l ++ [(t : Int)]) = t + 1 := by
 unfold fromB
 rw [if_neg (by simp), show (((l ++ [(t : Int)]).length : Int) - 1) = (l.length : Int) by simp]
 simp [rd, List.getD_eq_getElem?_getD]
theorem chosen_is (a : List Int) (b : List (List Int)) : ∀ (m : Nat) (l : List Int),
  ((chosenB a b m l).2 = true → ∃ e, (chosenB a b m l).1 = l ++ e ∧ e.length = m ∧ AscB (fromB l) b.length e ∧ alikeL (onesOf (rowsOf b (l ++ e))) a.length = [] ∧ ∀ e', e'.length = m → AscB (fromB l) b.length e' → alikeL (onesOf (rowsOf b (l ++ e'))) a.length = [] → ¬ cmpL e' e < 0) ∧
  ((chosenB a b m l).2 = false → ∀ e', e'.length = m → AscB (fromB l) b.length e' → alikeL (onesOf (rowsOf b (l ++ e'))) a.length ≠ [])
 | 0, l => by
  have e : chosenB a b 0 l = (l, decide (alikeL (onesOf (rowsOf b l)) a.length = [])) := rfl
  rw [e]
  refine ⟨fun h => ⟨[], by simp, rfl, trivial, by simpa using h, fun e' he _ _ => ?_⟩, fun h e' he _ => ?_⟩
  ·rw [List.length_eq_zero_iff.1 he]; simp [cmpL]
  ·rw [List.length_eq_zero_iff.1 he, List.append_nil]; simpa using h
 | m + 1, l => by
  have ih := chosen_is a b m
  have e : chosenB a b (m + 1) l = chLoop (chosenB a b m) l (fromB l) (b.length - fromB l) := rfl
  have key : ∀ (n t : Nat), t + n = b.length ∨ (n = 0 ∧ b.length ≤ t) →
    ((chLoop (chosenB a b m) l t n).2 = true → ∃ e, (chLoop (chosenB a b m) l t n).1 = l ++ e ∧ e.length = m + 1 ∧ AscB t b.length e ∧ alikeL (onesOf (rowsOf b (l ++ e))) a.length = [] ∧ ∀ e', e'.length = m + 1 → AscB t b.length e' → alikeL (onesOf (rowsOf b (l ++ e'))) a.length = [] → ¬ cmpL e' e < 0) ∧
    ((chLoop (chosenB a b m) l t n).2 = false → ∀ e', e'.length = m + 1 → AscB t b.length e' → alikeL (onesOf (rowsOf b (l ++ e'))) a.length ≠ []) := by
   intro n
   induction n with
   | zero =>
    intro t ht
    refine ⟨fun h => (by cases h), fun _ e' he hA => ?_⟩
    cases e' with
    | nil => simp at he
    | cons x xs => have := hA.1; have := hA.2.1; omega
   | succ n ihn =>
    intro t ht
    obtain ⟨i1, i2⟩ := ihn (t + 1) (by omega)
    obtain ⟨f1, f2⟩ := ih (l ++ [(t : Int)])
    rw [fromB_snoc] at f1 f2
    have el : chLoop (chosenB a b m) l t (n + 1) = if (chosenB a b m (l ++ [(t : Int)])).2 = true then ((chosenB a b m (l ++ [(t : Int)])).1, true) else chLoop (chosenB a b m) l (t + 1) n := rfl
    rw [el]
    by_cases hf : (chosenB a b m (l ++ [(t : Int)])).2 = true
    ·rw [if_pos hf]
     obtain ⟨e, e1, e2, e3, e4, e5⟩ := f1 hf
     refine ⟨fun _ => ⟨(t : Int) :: e, by rw [e1, List.append_assoc]; rfl, by rw [List.length_cons, e2], ⟨Int.le_refl _, by omega, e3⟩, by rw [List.append_assoc] at e4; exact e4, fun e' he hA hP => ?_⟩, fun h => (by cases h)⟩
     cases e' with
     | nil => simp at he
     | cons x xs =>
      rw [cmpL_cons]
      rintro (h | ⟨rfl, h⟩)
      ·have := hA.1; omega
      ·exact e5 xs (by simpa using he) hA.2.2 (by rw [List.append_assoc]; exact hP) h
    ·rw [if_neg hf]
     have hf2 := f2 (by simpa using hf)
     have hno : ∀ e', e'.length = m + 1 → AscB t b.length e' → alikeL (onesOf (rowsOf b (l ++ e'))) a.length = [] → AscB ((t + 1 : Nat) : Int) b.length e' := by
      intro e' he hA hP
      cases e' with
      | nil => trivial
      | cons x xs =>
       by_cases ex : x = (t : Int)
       ·subst ex
        exact absurd (by rw [List.append_assoc]; exact hP) (hf2 xs (by simpa using he) hA.2.2)
       ·exact ⟨by have := hA.1; omega, hA.2⟩
     refine ⟨fun h => ?_, fun h e' he hA hP => i2 h e' he (hno e' he hA hP) hP⟩
     obtain ⟨e, e1, e2, e3, e4, e5⟩ := i1 h
     refine ⟨e, e1, e2, ?_, e4, fun e' he hA hP => e5 e' he (hno e' he hA hP) hP⟩
     cases e with
     | nil => trivial
     | cons x xs => exact ⟨by have := e3.1; omega, e3.2⟩
  rw [e]
  exact key (b.length - fromB l) (fromB l) (by omega)
section
variable {a : List Int} {b : List (List Int)} {c : List Int}
/-- The program's cover, and what makes it the reference's. -/
theorem cover_has (D : Differ a b c) : ∃ l, coverB (onesOf b) a.length (2 ^ (onesOf b).length) = some l ∧ AscB 0 b.length l ∧ alikeL (onesOf (rowsOf b l)) a.length = [] ∧ ∀ l', AscB 0 b.length l' → alikeL (onesOf (rowsOf b l')) a.length = [] → beforeB l' l = false := by
 have hlen : (onesOf b).length = b.length := onesOf_len
 have mem : ∀ l, AscB 0 b.length l → ∀ x ∈ l, 0 ≤ x ∧ x < (b.length : Int) := fun l h x hx => h.mem x hx
 obtain ⟨h1, h2⟩ := coverB_is (onesOf b) a.length (2 ^ (onesOf b).length)
 cases hc : coverB (onesOf b) a.length (2 ^ (onesOf b).length) with
 | none =>
  exfalso
  -- all tests together
  have h3 := h2 hc (2 ^ (onesOf b).length - 1) (by have := Nat.two_pow_pos (onesOf b).length; omega)
  have : apartB (onesOf b) (selB (2 ^ (onesOf b).length - 1) (onesOf b).length) a.length = true := by
   rw [apart_iff]
   intro j hj i hi
   obtain ⟨x, hx, hs⟩ := alikeL_none D.al hi hj
   obtain ⟨t, ht, rfl⟩ := List.mem_iff_getElem.1 hx
   refine ⟨(t : Int), ?_, by simpa [rd, List.getD_eq_getElem?_getD, List.getElem?_eq_getElem ht] using hs⟩
   have : ∀ (T s : Nat), (∀ i, i < T → s.testBit i = true) → ∀ t, t < T → (t : Int) ∈ selB s T := by
    intro T s hb
    induction T with
    | zero => intro t ht; omega
    | succ T ih =>
     intro t ht
     unfold selB
     rw [if_pos (hb T (by omega)), List.mem_append]
     by_cases e : t = T
     ·subst e; exact .inr (by simp)
     ·exact .inl (ih (fun i hi => hb i (by omega)) t (by omega))
   exact this _ _ (fun i hi => by rw [Nat.testBit_two_pow_sub_one]; simpa using hi) t ht
  rw [this] at h3
  cases h3
 | some l =>
  obtain ⟨⟨set, hs, rfl⟩, hap, hmin⟩ := h1 l hc
  have hasc := selB_asc set (onesOf b).length
  rw [hlen] at hasc
  refine ⟨_, rfl, by rw [hlen]; exact hasc, (rows_apart (fun x hx => mem _ (by rw [hlen]; exact hasc) x hx) _).2 hap, fun l' hA hP => ?_⟩
  obtain ⟨s', hs', rfl⟩ := selB_all b.length l' hA
  have := hmin s' (by rw [hlen]; exact hs') (by rw [hlen]; exact (rows_apart (mem _ hA) _).1 hP)
  rw [hlen] at this ⊢
  exact this
theorem rcover_l0 (D : Differ a b c) (hc : caseB a b c = true) (l : List Int) (hA : AscB 0 b.length l) (hP : alikeL (onesOf (rowsOf b l)) a.length = []) (hmin : ∀ l', AscB 0 b.length l' → alikeL (onesOf (rowsOf b l')) a.length = [] → beforeB l' l = false) (m : Nat) : ∀ s : Nat, s + m = l.length → Ev (fun k => tickingref07_Cover.l0 k (s : Int) a b c) (l, true) := by
 have hb12 := D.is.b12
 have hll := hA.len (by omega)
 have hf0 : fromB [] = 0 := rfl
 induction m with
 | zero =>
  intro s hs
  obtain ⟨f1, f2⟩ := chosen_is a b s []
  rw [hf0] at f1 f2
  have ht : (chosenB a b s []).2 = true := by
   cases hch : (chosenB a b s []).2 with
   | true => rfl
   | false => exact absurd hP (by have := f2 hch l (by omega) hA; rwa [List.nil_append] at this)
  obtain ⟨e, e1, e2, e3, e4, e5⟩ := f1 ht
  rw [List.nil_append] at e1 e4
  have h1 := e5 l (by omega) hA (by rw [List.nil_append]; exact hP)
  have h2 := hmin e e3 e4
  have hle : e = l := by
   refine cmpL_total ?_ h1
   intro h
   have := (before_iff e l).2 (.inr ⟨by omega, h⟩)
   rw [this] at h2; cases h2
  have hch : chosenB a b s [] = (l, true) := by
   rw [← hle, ← e1, ← ht]
  refine Ev.step (f := fun _ => some _) (fun k => ?_) (Ev.now _)
  simp only [tickingref07_Cover.l0]
  rw [if_pos (by omega)]
  unfold tickingref07_chosen.f
  rw [if_pos ⟨hc, rfl, by omega, by omega⟩, Int.toNat_natCast, hch]
  rfl
 | succ m ih =>
  intro s hs
  obtain ⟨f1, f2⟩ := chosen_is a b s []
  rw [hf0] at f1 f2
  have ht : (chosenB a b s []).2 = false := by
   cases hch : (chosenB a b s []).2 with
   | false => rfl
   | true =>
    obtain ⟨e, e1, e2, e3, e4, e5⟩ := f1 hch
    rw [List.nil_append] at e4
    have := hmin e e3 e4
    rw [(before_iff e l).2 (.inl (by omega))] at this
    cases this
  refine Ev.step (fun k => ?_) (ih (s + 1) (by omega))
  simp only [tickingref07_Cover.l0]
  rw [if_pos (by omega)]
  unfold tickingref07_chosen.f
  rw [if_pos ⟨hc, rfl, by omega, by omega⟩, Int.toNat_natCast]
  simp only [Option.bind_some]
  rw [if_neg (by rw [ht]; decide), w1 s (by omega)]
/-- The reference's Cover is the program's. -/
theorem rcover_ev (D : Differ a b c) (hc : caseB a b c = true) : Ev (fun k => tickingref07_Cover.f k a b c) ((coverB (onesOf b) a.length (2 ^ (onesOf b).length)).getD [], true) := by
 obtain ⟨l, h1, h2, h3, h4⟩ := cover_has D
 rw [h1]
 unfold tickingref07_Cover.f
 refine Ev.bind (ralike_ev D.is) ?_
 refine Ev.congr (fun k => if_neg (by rw [D.al]; decide)) ?_
 exact rcover_l0 D hc l h2 h3 h4 l.length 0 (by omega)
end
end Go.Proofs.YtekmiepdodaidaaDoor.X
end

section
namespace Go.Proofs.YtekmiepdodaidaaDoor.X
open Go.RowKit Go.Proofs.YtekmiepdodaidaaDoorW.PrintWords Go.Proofs.YtekmiepdodaidaaDoorW.PrintLast Go.Proofs.YtekmiepdodaidaaDoorW.PrintMore
attribute [local go_sem] max2_int min2_int max_two min_two max_three min_three max_four min_four   -- for this text's walks alone
set_option linter.unusedVariables false
set_option linter.unusedSimpArgs false

def tickinglaw07_mod.f (a0 : Int) (a1 : Int) : Option (Int) := if (IntKind.u64.wrap (a1)) = 0 then (none) else (some (wrap64 (Int.tmod (IntKind.u64.wrap (a0)) (IntKind.u64.wrap (a1)))))
set_option maxHeartbeats 8000000 in
set_option maxRecDepth 100000 in
theorem tickinglaw07_mod.calls (a0 : Int) (a1 : Int) (r : Int) (w : World) (h : tickinglaw07_mod.f a0 a1 = some r) :
  Calls Tryd.prog 34 #[.int .i64 a0, .int .i64 a1] w fun e w' => e = .returned (.int .i64 r) ∧ Drawn0 w w' := by
 have H : (if (IntKind.u64.wrap (a1)) = 0 then (none) else (some (wrap64 (Int.tmod (IntKind.u64.wrap (a0)) (IntKind.u64.wrap (a1)))))) = some r := h
 clear h
 by_cases c3 : (IntKind.u64.wrap (a1)) = 0
 ·rw [if_pos c3] at H
  exact absurd H (by simp)
 ·rw [if_neg c3] at H
  have c3b0 : ((IntKind.u64.wrap (a1)) == 0) = false := beq_eq_false_iff_ne.mpr c3
  have c3b1 : ((IntKind.u64.wrap (a1)) != 0) = true := bne_iff_ne.mpr c3
  obtain rfl := Option.some.inj H
  go_enter Tryd.func34, Tryd.ntmps34
  go_wp2
  go_ret
  exact ⟨by first | rfl | (simp; done) | (simp [*]; done), by repeat (first | exact Drawn0.refl _ | apply Drawn0.step)⟩

end Go.Proofs.YtekmiepdodaidaaDoor.X
end

section
namespace Go.Proofs.YtekmiepdodaidaaDoor.X
open Go.RowKit Go.Proofs.YtekmiepdodaidaaDoorW.PrintWords Go.Proofs.YtekmiepdodaidaaDoorW.PrintLast Go.Proofs.YtekmiepdodaidaaDoorW.PrintMore
attribute [local go_sem] max2_int min2_int max_two min_two max_three min_three max_four min_four   -- for this text's walks alone
set_option linter.unusedVariables false
set_option linter.unusedSimpArgs false

def tickinglaw07_at.f (l0 : List Int) (a1 : Int) : Option (Int) := if a1 < (l0.length : Int) then (if 0 ≤ a1 then (some (rd l0 a1)) else (none)) else (some 0)
set_option maxHeartbeats 8000000 in
set_option maxRecDepth 100000 in
theorem tickinglaw07_at.calls (A0 : Option Addr) (c0 : Nat) (l0 : List Int) (a1 : Int) (r : Int) (w : World) (hr0 : Kd.C (Kd.int .i64) w A0 l0.length l0) (hc0 : l0.length ≤ c0) (h : tickinglaw07_at.f l0 a1 = some r) :
  Calls Tryd.prog 35 #[.slice A0 l0.length c0, .int .i64 a1] w fun e w' => e = .returned (.int .i64 r) ∧ Drawn0 w w' := by
 have HR0 := Aside0.mk hr0
 have HC0 := Aside0.mk hc0
 clear hr0 hc0
 have H : (if a1 < (l0.length : Int) then (if 0 ≤ a1 then (some (rd l0 a1)) else (none)) else (some 0)) = some r := h
 clear h
 by_cases c3 : a1 < (l0.length : Int)
 ·rw [if_pos c3] at H
  have c3b0 : decide (a1 < (l0.length : Int)) = true := decide_eq_true c3
  clear c3
  by_cases c4 : 0 ≤ a1
  ·rw [if_pos c4] at H
   have c4b0 : decide (0 ≤ a1) = true := decide_eq_true c4
   clear c4
   obtain rfl := Option.some.inj H
   have p558 : 0 ≤ (a1 : Int) := of_decide_eq_true az
   have q558 : a1 < (l0.length : Int) := of_decide_eq_true az
   obtain ⟨ad558, e558, hx558_0⟩ := Kd.at_int HR0.out a1 p558 q558
   cases e558
   replace p558 := eq_true p558
   replace q558 := eq_true q558
   go_enter Tryd.func35, Tryd.ntmps35
   go_wp2
   go_ret
   exact ⟨by first | rfl | (simp; done) | (simp [*]; done), by repeat (first | exact Drawn0.refl _ | apply Drawn0.step)⟩
  ·rw [if_neg c4] at H
   exact absurd H (by simp)
 ·rw [if_neg c3] at H
  have c3b0 : decide (a1 < (l0.length : Int)) = false := decide_eq_false c3
  clear c3
  obtain rfl := Option.some.inj H
  go_enter Tryd.func35, Tryd.ntmps35
  go_wp2
  go_ret
  exact ⟨by first | rfl | (simp; done) | (simp [*]; done), by repeat (first | exact Drawn0.refl _ | apply Drawn0.step)⟩

end Go.Proofs.YtekmiepdodaidaaDoor.X
end
