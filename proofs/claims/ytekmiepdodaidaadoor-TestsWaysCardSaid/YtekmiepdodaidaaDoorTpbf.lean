/- Texts behind TestsWays, part 32: contracts of the program's functions and the plain words for them. -/
import Derived.Deep.Slices
import Derived.Deep.Strs
import Derived.ProofKit
import Derived.OpenShut
import Derived.Lib.SmallJoins
import Derived.Lib.LaidTab
import Derived.Stop.LaidErr
import Derived.Test.YtekmiepdodaidaaDoorRows
import Derived.LaidMore
import Derived.Stop.Joined
import Derived.LaidHandle
import Derived.ChangeOld
import Derived.Test.YtekmiepdodaidaaDoorTpaa
import Derived.Test.YtekmiepdodaidaaDoorTpas
import Derived.Test.YtekmiepdodaidaaDoorTpay
import Derived.Test.YtekmiepdodaidaaDoorTpbd
import Derived.Test.YtekmiepdodaidaaDoorTpbe
section
/- Layer 7, plain: what Left returns. -/
set_option linter.unusedVariables false
namespace Go.Proofs.YtekmiepdodaidaaDoor.X
open Go.RowKit Go.Proofs.YtekmiepdodaidaaDoorW.PrintWords Go.Proofs.YtekmiepdodaidaaDoorW.PrintLast Go.Proofs.YtekmiepdodaidaaDoorW.PrintMore

/-- Is a pair a result of a test? -/
def resOk (b : List (List Int)) (p : S53) : Bool := decide (0 ≤ p.f0) && decide (p.f0 < b.length) && inB 0 1 p.f1
def fits1 (b : List (List Int)) (i : Nat) (p : S53) : Bool := rd (rd_L1 b p.f0) (i : Int) == p.f1
/-- The faults from i on, m of them, that have all results. -/
def leftL (b : List (List Int)) (l : List S53) : Nat → Nat → List Int
 | _, 0 => []
 | i, m + 1 => (if l.all (fits1 b i) = true then [(i : Int)] else []) ++ leftL b l (i + 1) m
theorem rd_T53_at (l : List S53) (i : Nat) (h : i < l.length) : rd_T53 l (i : Int) = l[i] := by simp [rd_T53, List.getD_eq_getElem?_getD, List.getElem?_eq_getElem h]
section
variable {a : List Int} {b : List (List Int)} {c : List Int} (hc : CaseIs a b c)
include hc
theorem row_isL (k : Nat) (hk : k < b.length) : b[k].length = a.length ∧ ∀ x ∈ b[k], x = 0 ∨ x = 1 := by
 have h1 := List.all_eq_true.1 hc.rows b[k] (List.getElem_mem hk)
 unfold rowOkB at h1
 simp only [Bool.and_eq_true, beq_iff_eq] at h1
 exact ⟨h1.1, fun x hx => by have := (all_inB _ _ _).1 h1.2 x hx; omega⟩
/-- The last loop: the faults of the set. -/
theorem left_l1 (v : Nat) (hv : v < 1024) (l : List S53) (hbit : ∀ i, i < a.length → v.testBit i = l.all (fits1 b i)) (m : Nat) : ∀ (i : Nat) (acc : List Int), i + m = a.length → acc.length ≤ i →
  Ev (fun k => tests_Left.l1 k (v : Int) acc (a.length : Int) (i : Int)) (acc ++ leftL b l i m, 0) := by
 have h10 := hc.a10
 induction m with
 | zero =>
  intro i acc hi ha
  refine Ev.step (f := fun _ => some _) (fun k => ?_) (Ev.now _)
  simp only [tests_Left.l1, leftL]
  rw [if_neg (by omega), List.append_nil]
 | succ m ih =>
  intro i acc hi ha
  have hhas : tests_faults_has.f (v : Int) (i : Int) = some (l.all (fits1 b i)) := by
   rw [← hbit i (by omega), ← hasB_nat v i hv]
   unfold tests_faults_has.f hasB
   rw [if_pos (by omega)]
  by_cases h : l.all (fits1 b i) = true
  ·have h2 := ih (i + 1) (acc ++ [(i : Int)]) (by omega) (by simp; omega)
   have e : (acc ++ [(i : Int)]) ++ leftL b l (i + 1) m = acc ++ leftL b l i (m + 1) := by
    show _ = acc ++ ((if l.all (fits1 b i) = true then [(i : Int)] else []) ++ leftL b l (i + 1) m)
    rw [if_pos h, List.append_assoc]
   rw [e] at h2
   refine Ev.step (fun k => ?_) h2
   show tests_Left.l1 (k + 1) (v : Int) acc (a.length : Int) (i : Int) = _
   simp only [tests_Left.l1]
   rw [if_pos (by omega), hhas, h]
   simp only [Option.bind_some, if_true]
   rw [if_pos (by omega), w1 i (by omega)]
  ·have h2 := ih (i + 1) acc (by omega) (by omega)
   have e : acc ++ leftL b l (i + 1) m = acc ++ leftL b l i (m + 1) := by
    show _ = acc ++ ((if l.all (fits1 b i) = true then [(i : Int)] else []) ++ leftL b l (i + 1) m)
    rw [if_neg h, List.nil_append]
   rw [e] at h2
   refine Ev.step (fun k => ?_) h2
   show tests_Left.l1 (k + 1) (v : Int) acc (a.length : Int) (i : Int) = _
   simp only [tests_Left.l1]
   rw [if_pos (by omega), hhas]
   simp only [Option.bind_some]
   rw [if_neg h, w1 i (by omega)]
omit hc in
theorem ones_atL (k : Nat) (hk : k < b.length) : rd (onesOf b) (k : Int) = ((rowV b[k] : Nat) : Int) := by
 rw [rd_at (onesOf b) k (by rw [onesOf_len]; exact hk)]; simp [onesOf]
theorem row_fits (k i : Nat) (hk : k < b.length) (hi : i < a.length) (p : S53) (h0 : p.f0 = (k : Int)) : ((p.f1 = 1 → fits1 b i p = (rowV b[k]).testBit i) ∧ (p.f1 = 0 → fits1 b i p = !(rowV b[k]).testBit i)) := by
 obtain ⟨hl, hb⟩ := row_isL hc k hk
 have hil : i < b[k].length := by omega
 have hr : rd (rd_L1 b p.f0) (i : Int) = b[k][i] := by rw [h0, rd_L1_at b k hk, rd_at _ i hil]
 have ht : (rowV b[k]).testBit i = decide (b[k][i] = 1) := by rw [rowV_bit _ hb, List.getD_eq_getElem?_getD, List.getElem?_eq_getElem hil]; rfl
 have h01 := hb b[k][i] (List.getElem_mem hil)
 unfold fits1
 rw [hr, ht]
 constructor
 ·intro h1; rw [h1]; rcases h01 with h | h <;> simp [h]
 ·intro h1; rw [h1]; rcases h01 with h | h <;> simp [h]
/-- The loop over the results. -/
theorem left_l0 (l : List S53) (hl : l.length ≤ 100) (al : Int) (m : Nat) : ∀ (j v : Nat), j + m = l.length → v < 1024 → (∀ i, i < a.length → v.testBit i = (l.take j).all (fits1 b i)) →
  Ev (fun k => tests_Left.l0 k (v : Int) l (l.length : Int) (j : Int) a b c (onesOf b) al) (if (l.drop j).all (resOk b) = true then (leftL b l 0 a.length, 0) else ([], 2)) := by
 have h12 := hc.b12
 induction m with
 | zero =>
  intro j v hj hv hbit
  obtain rfl : j = l.length := by omega
  rw [List.take_length] at hbit
  rw [List.drop_length, List.all_nil, if_pos rfl]
  have h1 := left_l1 hc v hv l hbit a.length 0 [] (by omega) (by simp)
  rw [List.nil_append] at h1
  refine Ev.step (fun k => ?_) h1
  show tests_Left.l0 (k + 1) (v : Int) l (l.length : Int) (l.length : Int) a b c (onesOf b) al = _
  simp only [tests_Left.l0]
  rw [if_neg (by omega)]
  rfl
 | succ m ih =>
  intro j v hj hv hbit
  have hjl : j < l.length := by omega
  have hd : l.drop j = l[j] :: l.drop (j + 1) := List.drop_eq_getElem_cons hjl
  have ht : l.take (j + 1) = l.take j ++ [l[j]] := List.take_succ_eq_append_getElem hjl
  rw [hd, List.all_cons]
  have bad : ∀ v' x y, Ev (fun k => tests_Left.j2 k v' l (l.length : Int) (j : Int) true a b c (onesOf b) al x y) (([] : List Int), (2 : Int)) := by
   intro v' x y
   refine Ev.step (f := fun _ => some _) (fun k => ?_) (Ev.now _)
   simp only [tests_Left.j2, if_true]
  have hwn : wrap64 (((onesOf b).length : Int) - 1) = (b.length : Int) - 1 := by rw [onesOf_len]; unfold wrap64; omega
  by_cases h0 : 0 ≤ l[j].f0 ∧ l[j].f0 < b.length
  ·by_cases h1 : 0 ≤ l[j].f1 ∧ l[j].f1 ≤ 1
   ·have hok : resOk b l[j] = true := by unfold resOk inB; simp; omega
    rw [hok, Bool.true_and]
    obtain ⟨kk, hkk⟩ : ∃ kk : Nat, l[j].f0 = kk := ⟨l[j].f0.toNat, by omega⟩
    have hkb : kk < b.length := by omega
    obtain ⟨hrl, hrb⟩ := row_isL hc kk hkb
    have hx : rowV b[kk] < 1024 := by
     have e1 := rowV_lt _ hrb
     have e2 : 2 ^ b[kk].length ≤ 2 ^ 10 := Nat.pow_le_pow_right (by omega) (by have := hc.a10; omega)
     omega
    have hset : SetB ((v : Nat) : Int) := by unfold SetB; omega
    have hsetx : SetB ((rowV b[kk] : Nat) : Int) := by unfold SetB; omega
    have main : ∀ v2 : Nat, v2 < 1024 → (∀ i, i < a.length → v2.testBit i = (v.testBit i && fits1 b i l[j])) → Ev (fun k => tests_Left.l0 k (v2 : Int) l (l.length : Int) ((j + 1 : Nat) : Int) a b c (onesOf b) al) (if (l.drop (j + 1)).all (resOk b) = true then (leftL b l 0 a.length, 0) else ([], 2)) := by
     intro v2 hv2 hb2
     refine ih (j + 1) v2 (by omega) hv2 (fun i hi => ?_)
     rw [hb2 i hi, hbit i hi, ht, List.all_append]
     simp
    have hj2 : Ev (fun k => tests_Left.j2 k (v : Int) l (l.length : Int) (j : Int) false a b c (onesOf b) al l[j].f0 l[j].f1) (if (l.drop (j + 1)).all (resOk b) = true then (leftL b l 0 a.length, 0) else ([], 2)) := by
     by_cases h11 : l[j].f1 = 1
     ·have e1 : Go.bits .and .u64 (v : Int) (rd (onesOf b) (kk : Int)) = ((v &&& rowV b[kk] : Nat) : Int) := by rw [ones_atL kk hkb]; exact bAnd_nat (s := (v : Int)) (x := ((rowV b[kk] : Nat) : Int)) hset hsetx
      refine Ev.step (fun k => ?_) (main (v &&& rowV b[kk]) (Nat.lt_of_le_of_lt Nat.and_le_left hv) (fun i hi => by rw [Nat.testBit_and, (row_fits hc kk i hkb hi _ hkk).1 h11]))
      show tests_Left.j2 (k + 1) (v : Int) l (l.length : Int) (j : Int) false a b c (onesOf b) al l[j].f0 l[j].f1 = _
      simp only [tests_Left.j2]
      rw [if_neg (by decide), if_pos h11, hkk, if_pos (by omega), if_pos (by rw [onesOf_len]; omega), e1, w1 j (by omega)]
     ·have h10 : l[j].f1 = 0 := by omega
      have e1 : Go.bits .andNot .u64 (v : Int) (rd (onesOf b) (kk : Int)) = ((v &&& (18446744073709551615 - rowV b[kk]) : Nat) : Int) := by rw [ones_atL kk hkb]; exact bSub_nat hv hx
      refine Ev.step (fun k => ?_) (main (v &&& (18446744073709551615 - rowV b[kk])) (Nat.lt_of_le_of_lt Nat.and_le_left hv) (fun i hi => by rw [Nat.testBit_and, not_bit hx (by have := hc.a10; omega), (row_fits hc kk i hkb hi _ hkk).2 h10]))
      show tests_Left.j2 (k + 1) (v : Int) l (l.length : Int) (j : Int) false a b c (onesOf b) al l[j].f0 l[j].f1 = _
      simp only [tests_Left.j2]
      rw [if_neg (by decide), if_neg h11, hkk, if_pos (by omega), if_pos (by rw [onesOf_len]; omega), e1, w1 j (by omega)]
    refine Ev.step (fun k => ?_) hj2
    show tests_Left.l0 (k + 1) (v : Int) l (l.length : Int) (j : Int) a b c (onesOf b) al = _
    simp only [tests_Left.l0]
    rw [if_pos (by omega), if_pos (by omega), if_pos (by omega), rd_T53_at l j hjl, hwn, within_yes _ _ _ (by omega) (by omega)]
    simp only [Option.bind_some, if_true]
    rw [within_yes _ _ _ h1.1 h1.2]
    rfl
   ·have hok : resOk b l[j] = false := by unfold resOk inB; simp; omega
    rw [hok, Bool.false_and, if_neg (by decide)]
    refine Ev.step (fun k => ?_) (bad (v : Int) l[j].f0 l[j].f1)
    show tests_Left.l0 (k + 1) (v : Int) l (l.length : Int) (j : Int) a b c (onesOf b) al = _
    simp only [tests_Left.l0]
    rw [if_pos (by omega), if_pos (by omega), if_pos (by omega), rd_T53_at l j hjl, hwn, within_yes _ _ _ (by omega) (by omega)]
    simp only [Option.bind_some, if_true]
    rw [within_no _ _ _ h1]
    rfl
  ·have hok : resOk b l[j] = false := by unfold resOk; simp; omega
   rw [hok, Bool.false_and, if_neg (by decide)]
   refine Ev.step (fun k => ?_) (bad (v : Int) l[j].f0 l[j].f1)
   show tests_Left.l0 (k + 1) (v : Int) l (l.length : Int) (j : Int) a b c (onesOf b) al = _
   simp only [tests_Left.l0]
   rw [if_pos (by omega), if_pos (by omega), if_pos (by omega), rd_T53_at l j hjl, hwn, within_no _ _ _ (by omega)]
   rfl
end
def leftOk (b : List (List Int)) (l : List S53) : Bool := decide (l.length ≤ 100) && l.all (resOk b)
theorem left_ev (a : List Int) (b : List (List Int)) (c : List Int) (l : List S53) : Ev (fun k => tests_Left.f k a b c l) (if caseB a b c = true then (if leftOk b l = true then (leftL b l 0 a.length, 0) else ([], 2)) else ([], 2)) := by
 unfold tests_Left.f
 refine Ev.bind (newTrial_all a b c) ?_
 have bad : ∀ x1 x2 x3 x4 x5, Ev (fun k => tests_Left.j0 k l true x1 x2 x3 x4 x5) (([] : List Int), (2 : Int)) := by
  intro x1 x2 x3 x4 x5
  refine Ev.step (f := fun _ => some _) (fun k => ?_) (Ev.now _)
  simp only [tests_Left.j0, if_true]
 unfold trialR
 by_cases h : caseB a b c = true
 ·rw [if_pos h, if_pos h]
  have hc := case_is h
  simp only [if_true]
  by_cases hl : l.length ≤ 100
  ·have e : decide ((l.length : Int) > 100) = false := decide_eq_false (by omega)
   rw [e]
   have hv : 2 ^ a.length - 1 < 1024 := by
    have e2 : 2 ^ a.length ≤ 2 ^ 10 := Nat.pow_le_pow_right (by omega) hc.a10
    omega
   have hp : 0 < 2 ^ a.length := Nat.two_pow_pos _
   have h1 := left_l0 hc l hl (((2 ^ a.length : Nat) : Int) - 1) l.length 0 (2 ^ a.length - 1) (by omega) hv (fun i hi => by rw [List.take_zero, List.all_nil, Nat.testBit_two_pow_sub_one]; simp [hi])
   rw [List.drop_zero, show ((2 ^ a.length - 1 : Nat) : Int) = ((2 ^ a.length : Nat) : Int) - 1 by omega] at h1
   have hr : leftOk b l = l.all (resOk b) := by unfold leftOk; rw [decide_eq_true hl, Bool.true_and]
   rw [hr]
   refine Ev.step (fun k => ?_) h1
   show tests_Left.j0 (k + 1) l false a b c (onesOf b) _ = _
   simp only [tests_Left.j0]
   rw [if_neg (by decide)]
   rfl
  ·have e : decide ((l.length : Int) > 100) = true := decide_eq_true (by omega)
   have hr : leftOk b l = false := by unfold leftOk; rw [decide_eq_false hl, Bool.false_and]
   rw [e, hr, if_neg (by decide)]
   exact bad _ _ _ _ _
 ·rw [if_neg h, if_neg h]
  exact Ev.congr (fun k => if_neg (by decide)) (bad _ _ _ _ _)
end Go.Proofs.YtekmiepdodaidaaDoor.X
end

section
/- Layer 7, plain: the way of a fault in the best plan: its results leave the fault alone. -/
set_option linter.unusedVariables false
namespace Go.Proofs.YtekmiepdodaidaaDoor.X
open Go.RowKit Go.Proofs.YtekmiepdodaidaaDoorW.PrintWords Go.Proofs.YtekmiepdodaidaaDoorW.PrintLast Go.Proofs.YtekmiepdodaidaaDoorW.PrintMore

/-- How many leaves a list of nodes has. -/
def leafN : List S57 → Nat
 | [] => 0
 | x :: xs => (if x.f0 = -1 then 1 else 0) + leafN xs
theorem leafN_append : ∀ (x y : List S57), leafN (x ++ y) = leafN x + leafN y
 | [], y => by simp [leafN]
 | a :: x, y => by simp only [List.cons_append, leafN, leafN_append x y]; omega
theorem leafN_snoc (x : List S57) (a : S57) : leafN (x ++ [a]) = leafN x + (if a.f0 = -1 then 1 else 0) := by rw [leafN_append]; simp [leafN]
theorem leafN_le : ∀ x : List S57, leafN x ≤ x.length
 | [] => Nat.le_refl _
 | a :: x => by have := leafN_le x; simp only [leafN, List.length_cons]; split <;> omega
section
variable {n nt : Nat} {tf : Int → Int} {ones : List Int} {R : Int → Prop} (H : TreeOk n nt tf ones R)
include H
theorem leaf_tree (d : Nat) : ∀ (s : Int) (p : Nat), R s → s.toNat ≤ d → leafN (treeB tf ones s p) = cntB s.toNat := by
 induction d with
 | zero => intro s p hR h; have := (H.runs.set s hR).2; omega
 | succ d ih =>
  intro s p hR h
  have hs := H.runs.set s hR
  by_cases h1 : pcount s = 1
  ·rw [treeB_one s p h1]
   rw [pcount_set hs.1] at h1
   simp [leafN]; omega
  ·obtain ⟨t0, t1, t2, t4, t5, k1, k2⟩ := run_parts H s hR h1
   have hc := cnt_add hs.1 t2
   rw [treeB_two H.runs s p hR h1]
   rw [leafN, if_neg (by show ¬ tf s = -1; omega), leafN_append, ih _ _ t4 (by omega), ih _ _ t5 (by omega)]
   omega
end
theorem cnt_all : ∀ n, n ≤ 10 → cntB (2 ^ n - 1) = n := by decide +kernel
section
variable {a : List Int} {b : List (List Int)} {c : List Int}
theorem leaf_best (D : Differ a b c) (mf : Int → Int → Int → Int → Int) : leafN (treeB (fun s => (chs mf (onesOf b) s).1) (onesOf b) (allOf a) 0) = a.length := by
 have e := leaf_tree (chs_ok D mf) (allOf a).toNat (allOf a) 0 (all_in D) (Nat.le_refl _)
 rw [e]
 have h1 : (allOf a).toNat = 2 ^ a.length - 1 := by unfold allOf; have := Nat.two_pow_pos a.length; omega
 rw [h1]
 exact cnt_all _ D.is.a10
/-- Faults that agree in the tests on the way go the same way. -/
theorem way_same (plan : List S57) (f g : Int) : ∀ (d : Nat) (p : Int), (∀ t ∈ (wayN b plan f d p).1, (rd (rd_L1 b t) g = 1 ↔ rd (rd_L1 b t) f = 1)) → wayN b plan g d p = wayN b plan f d p
 | 0, p, _ => rfl
 | d + 1, p, h => by
  unfold wayN at h ⊢
  by_cases h0 : (rd_T57 plan p).f0 < 0
  ·rw [if_pos h0, if_pos h0]
  ·rw [if_neg h0] at h
   rw [if_neg h0, if_neg h0]
   have h1 := h (rd_T57 plan p).f0 (by simp)
   have e : (if rd (rd_L1 b (rd_T57 plan p).f0) g = 1 then (rd_T57 plan p).f3 else (rd_T57 plan p).f2) = (if rd (rd_L1 b (rd_T57 plan p).f0) f = 1 then (rd_T57 plan p).f3 else (rd_T57 plan p).f2) := by
    by_cases hf : rd (rd_L1 b (rd_T57 plan p).f0) f = 1
    ·rw [if_pos hf, if_pos (h1.2 hf)]
    ·rw [if_neg hf, if_neg (fun hg => hf (h1.1 hg))]
   dsimp only
   rw [e, way_same plan f g d _ (fun t ht => h t (by simp [ht]))]
/-- The results of a fault in tests. -/
def resOf (b : List (List Int)) (f : Nat) (l : List Int) : List S53 := l.map fun t => ⟨t, rd (rd_L1 b t) (f : Int)⟩
theorem leftL_one (b : List (List Int)) (l : List S53) (f : Nat) : ∀ (m i : Nat), i ≤ f → f < i + m → (∀ j, i ≤ j → j < i + m → (l.all (fits1 b j) = true ↔ j = f)) → leftL b l i m = [(f : Int)]
 | 0, i, h1, h2, _ => by omega
 | m + 1, i, h1, h2, h => by
  unfold leftL
  by_cases e : i = f
  ·subst e
   rw [if_pos ((h i (Nat.le_refl _) (by omega)).2 rfl)]
   have : ∀ (m j : Nat), (∀ q, j ≤ q → q < j + m → ¬ l.all (fits1 b q) = true) → leftL b l j m = [] := by
    intro m
    induction m with
    | zero => intro j _; rfl
    | succ m ih => intro j hj; unfold leftL; rw [if_neg (hj j (Nat.le_refl _) (by omega)), ih (j + 1) (fun q h1 h2 => hj q (by omega) (by omega))]; rfl
   rw [this m (i + 1) (fun q h1 h2 hq => by have := (h q (by omega) (by omega)).1 hq; omega)]; rfl
  ·rw [if_neg (fun hq => e ((h i (Nat.le_refl _) (by omega)).1 hq)), List.nil_append]
   exact leftL_one b l f m (i + 1) (by omega) (by omega) (fun j h1 h2 => h j (by omega) (by omega))
/-- The results on a fault's way, in a correct plan, leave the fault alone. -/
theorem way_left (D : Differ a b c) {plan : List S57} {m w : Int} (hcorr : corrR a b c plan = (m, w, true)) (f : Nat) (hf : f < a.length) : leftL b (resOf b f (wayP b plan (f : Int)).1) 0 a.length = [(f : Int)] ∧ (wayP b plan (f : Int)).2 = (f : Int) ∧ costL c (wayP b plan (f : Int)).1 ≤ w ∧ (wayP b plan (f : Int)).1.length ≤ plan.length ∧ ∀ t ∈ (wayP b plan (f : Int)).1, 0 ≤ t ∧ t < (b.length : Int) := by
 have hc := hcorr
 unfold corrR at hc
 split at hc
 ·rename_i hp
  rw [Bool.and_eq_true] at hp
  have H := plan_is hp.1
  have hl1 := H.l1
  have leaf : ∀ g, g < a.length → (wayP b plan (g : Int)).2 = (g : Int) := fun g hg => by
   have := (allB_iff _ _ _).1 hp.2 g (by omega) (by omega)
   simpa using this
  obtain ⟨ht1, ht2⟩ := way_tests (a := a) (b := b) H (f : Int)
  refine ⟨leftL_one b _ f a.length 0 (by omega) (by omega) (fun j _ hj => ?_), leaf f hf, ?_, wayN_len H b (f : Int) plan.length 0 (by omega), ht2⟩
  ·rw [List.all_eq_true]
   constructor
   ·intro h
    have hsame : wayP b plan (j : Int) = wayP b plan (f : Int) := by
     refine way_same plan (f : Int) (j : Int) plan.length 0 (fun t ht => ?_)
     have := h ⟨t, rd (rd_L1 b t) (f : Int)⟩ (by unfold resOf; exact List.mem_map.2 ⟨t, ht, rfl⟩)
     unfold fits1 at this
     have e : rd (rd_L1 b t) (j : Int) = rd (rd_L1 b t) (f : Int) := by simpa using this
     rw [e]
    have h1 := leaf j (by omega)
    rw [hsame, leaf f hf] at h1
    omega
   ·rintro rfl x hx
    unfold resOf at hx
    obtain ⟨t, ht, rfl⟩ := List.mem_map.1 hx
    unfold fits1
    simp
  ·injection hc with _ hc
   injection hc with hc _
   rw [← hc]
   exact le_maxR (fun f => wayC b c plan f) a.length f hf
 ·injection hc with _ hc
  injection hc with _ hc
  cases hc
theorem way_res_ok (D : Differ a b c) (f : Nat) (hf : f < a.length) (l : List Int) (hl : l.length ≤ 100) (ht : ∀ t ∈ l, 0 ≤ t ∧ t < (b.length : Int)) : leftOk b (resOf b f l) = true := by
 unfold leftOk
 rw [Bool.and_eq_true, decide_eq_true_iff, List.all_eq_true]
 refine ⟨by unfold resOf; simpa using hl, fun x hx => ?_⟩
 unfold resOf at hx
 obtain ⟨t, hm, rfl⟩ := List.mem_map.1 hx
 obtain ⟨h1, h2⟩ := ht t hm
 obtain ⟨r1, r2⟩ := row_at D.is t.toNat (by omega)
 have e : rd_L1 b t = b[t.toNat] := by
  have := rd_L1_at b t.toNat (by omega)
  rwa [show ((t.toNat : Nat) : Int) = t by omega] at this
 have hbit := r2 b[t.toNat][f] (List.getElem_mem (by omega))
 unfold resOk inB
 simp only [Bool.and_eq_true, decide_eq_true_eq]
 rw [e, rd_at _ f (by omega)]
 exact ⟨⟨h1, h2⟩, by omega, by omega⟩
end
end Go.Proofs.YtekmiepdodaidaaDoor.X
end

section
/- tickinglaw07.TestsWays, by hand: walked with what is known of the program's answers. -/
set_option linter.unusedVariables false
set_option linter.unusedSimpArgs false
namespace Go.Proofs.YtekmiepdodaidaaDoor.X
open Go.RowKit Go.Proofs.YtekmiepdodaidaaDoorW.PrintWords Go.Proofs.YtekmiepdodaidaaDoorW.PrintLast Go.Proofs.YtekmiepdodaidaaDoorW.PrintMore

theorem info53w : (Tryd.prog.info? 53).map (fun i => (i.zero, i.size, i.bytes)) = some (some (.agg #[.int .i64 0, .int .i64 0]), 2, 16) := by kernel_rfl
theorem costL_snoc (c : List Int) (t : Int) : ∀ l : List Int, costL c (l ++ [t]) = costL c l + rd c t
 | [] => by simp [costL]
 | x :: xs => by simp only [List.cons_append, costL, costL_snoc c t xs]; omega
theorem one_C (w : World) (x : Int) : Kd.C (Kd.int .i64) (w.alloc (.cells #[.int .i64 x] 3 (0, 0))) (some ⟨w.heap.size, 0, none⟩) 1 [x] := by
 refine ⟨rfl, by omega, fun _ => ⟨_, rfl, fun j p hj => ?_⟩⟩
 obtain rfl : j = 0 := by have := (List.getElem?_eq_some_iff.1 hj).1; simp at this; omega
 have hp : p = x := by simpa using hj.symm
 refine ⟨[.int .i64 p], rfl, rfl, fun i u hu => ?_⟩
 obtain rfl : i = 0 := by have := (List.getElem?_eq_some_iff.1 hu).1; simp at this; omega
 have hu' : u = .int .i64 x := by rw [← hp]; simpa using hu.symm
 rw [hu']
 exact (blk_cell (blk_new w _) 0).trans rfl
section
variable {A0 : Option Addr} {c0 : Nat} {a : List Int} {A1 : Option Addr} {c1 : Nat} {b : List (List Int)} {A2 : Option Addr} {c2 : Nat} {c : List Int} {w : World}
theorem find_n (h : CaseAt w A0 c0 a A1 c1 b A2 c2 c) (D : Differ a b c) (A : Option Addr) (n : Nat) (p : List S57) (hp : p.length ≤ n ∧ k57.C w A p.length p) (f : Nat) (hf : f < a.length) {m wo : Int} (hc : corrR a b c p = (m, wo, true)) :
  Calls Tryd.prog 23 #[.agg #[.slice A0 a.length c0, .slice A1 b.length c1, .slice A2 c.length c2], .slice A p.length n, .int .i64 f] w (SlPost (Kd.int .i64) (wayP b p (f : Int)).1 (fun v => .tuple #[v, .int .i64 0]) w) := by
 obtain ⟨k, hk⟩ := (find_ev a b c p (f : Int)).rounds
 have e : findR a b c p (f : Int) = ((wayP b p (f : Int)).1, 0) := by
  unfold findR
  rw [if_pos ⟨caseB_of D.is, by omega, by omega⟩, hc, if_pos rfl]
 rw [e] at hk
 refine (tests_Find.calls k A0 c0 a A1 c1 b A2 c2 c A n p _ _ _ w h.r0 h.n0 h.r1 h.n1 h.r2 h.n2 hp.2 hp.1 hk).mono ?_
 rintro e w' ⟨v, rfl, hv, hb⟩
 exact sl_post (f := fun v => .tuple #[v, .int .i64 0]) hv hb
theorem left_n (h : CaseAt w A0 c0 a A1 c1 b A2 c2 c) (D : Differ a b c) (A : Option Addr) (n : Nat) (l : List S53) (hp : l.length ≤ n ∧ k53.C w A l.length l) (hl : leftOk b l = true) :
  Calls Tryd.prog 31 #[.agg #[.slice A0 a.length c0, .slice A1 b.length c1, .slice A2 c.length c2], .slice A l.length n] w (SlPost (Kd.int .i64) (leftL b l 0 a.length) (fun v => .tuple #[v, .int .i64 0]) w) := by
 obtain ⟨k, hk⟩ := (left_ev a b c l).rounds
 rw [if_pos (caseB_of D.is), if_pos hl] at hk
 refine (tests_Left.calls k A0 c0 a A1 c1 b A2 c2 c A n l _ _ w h.r0 h.n0 h.r1 h.n1 h.r2 h.n2 hp.2 hp.1 hk).mono ?_
 rintro e w' ⟨v, rfl, hv, hb⟩
 exact sl_post (f := fun v => .tuple #[v, .int .i64 0]) hv hb
set_option maxHeartbeats 16000000 in
set_option maxRecDepth 100000 in
theorem ways_n (h : CaseAt w A0 c0 a A1 c1 b A2 c2 c) (fault : Int) (hT : Tab w) :
  Calls Tryd.prog 9 #[.agg #[.slice A0 a.length c0, .slice A1 b.length c1, .slice A2 c.length c2], .int .i64 fault] w fun e w' => e = .returned (.bool true) ∧ Below w.heap.size w w' := by
 have H := Aside0.mk h
 have HT := Aside0.mk hT
 have D := tame_differ a b c
 obtain ⟨ta, hta⟩ : ∃ ta, ta = tameW a := ⟨_, rfl⟩
 obtain ⟨tb, htb⟩ : ∃ tb, tb = tameB a b := ⟨_, rfl⟩
 obtain ⟨tc, htc⟩ : ∃ tc, tc = tameC b c := ⟨_, rfl⟩
 have HTS := Aside0.mk (fun (W : World) (hb : Below w.heap.size w W) => tame_sl (H.out.below hb))
 unfold TameSl at HTS
 rw [← hta, ← htb, ← htc] at HTS D
 have HD := Aside0.mk D
 obtain ⟨wo, hcorr⟩ := corr_M D
 have hmod := modN_in fault (ta.length : Int) (by have := D.is.a1; omega)
 obtain ⟨f, hf⟩ : ∃ f : Nat, modN fault (ta.length : Int) = f := ⟨(modN fault (ta.length : Int)).toNat, by omega⟩
 have hft : f < ta.length := by omega
 have hchk : checkR ta tb tc (planM ta tb tc) = (valM ta tb tc, wo, 0) := by unfold checkR; rw [if_pos (caseB_of D.is), hcorr, if_pos rfl]
 obtain ⟨k1, k2, k3, k4, k5⟩ := way_left D hcorr f hft
 have hlen := (tree_pos (chs_ok D (mfMean ta tb tc)) (allOf ta) 0 (all_in D)).2
 have hleaf := leaf_best D (mfMean ta tb tc)
 obtain ⟨pl, hpl⟩ : ∃ pl, pl = planM ta tb tc := ⟨_, rfl⟩
 obtain ⟨vm, hvm⟩ : ∃ vm, vm = valM ta tb tc := ⟨_, rfl⟩
 obtain ⟨lw, hlw⟩ : ∃ lw, lw = (wayP tb (planM ta tb tc) (f : Int)).1 := ⟨_, rfl⟩
 rw [← hlw] at k1 k3 k4 k5
 rw [← hpl] at hcorr hchk k4
 rw [← hvm] at hcorr hchk
 have hl19 : pl.length ≤ 19 := by rw [hpl]; exact hlen
 have hlw19 : lw.length ≤ 19 := Nat.le_trans k4 hl19
 have hok := way_res_ok D f hft lw (by omega) k5
 have HPL := Aside0.mk hpl
 have HVM := Aside0.mk hvm
 have HLW := Aside0.mk hlw
 have HCORR := Aside0.mk hcorr
 have HCHK := Aside0.mk hchk
 have HK1 := Aside0.mk k1
 have HK3 := Aside0.mk k3
 have HK5 := Aside0.mk k5
 have HOK := Aside0.mk hok
 have HMOD := Aside0.mk hf
 have HLEAF := Aside0.mk (show leafN pl = ta.length by rw [hpl]; exact hleaf)
 have HB := Aside0.mk (Below.refl w.heap.size w)
 have hta1 : ta.length ≤ 10 := D.is.a10
 have htb12 : tb.length ≤ 12 := D.is.b12
 have htc12 : tc.length = tb.length := D.is.cb
 have HCB := Aside0.mk htc12
 have hta0 := D.is.a1
 clear h hT hta htb htc D hcorr hchk k1 k2 k3 k4 k5 hlen hleaf hpl hvm hlw hok hf hmod htc12
 go_enter Tryd.func9, Tryd.ntmps9
 go_upto_region 2 with (go_at_call 33; refine (HTS.out _ (below_alloc (Below.refl _ _) _)).mono ?_; rintro e w1 ⟨B0, d0, B1, d1, B2, d2, rfl, hx, hb⟩; have HX := Aside0.mk hx; have HB1 := Aside0.mk (below_step (below_alloc HB.out _) hb); clear hx hb)
 have HL1 := Aside0.mk (show LawW w B0 d0 ta B1 d1 tb B2 d2 tc w1.heap.size (w1.alloc (.cells #[.slice B0 ta.length d0, .slice B1 tb.length d1, .slice B2 tc.length d2] 25)) from ⟨blk_new _ _, HX.out.below (below_alloc (Below.refl _ _) _), below_alloc HB1.out _, HB1.out.size⟩)
 generalize w1.alloc (.cells #[.slice B0 ta.length d0, .slice B1 tb.length d1, .slice B2 tc.length d2] 25) = w2 at HL1 ⊢
 generalize w1.heap.size = g at HL1 ⊢
 clear HX HB1 w1 HTS
 obtain ⟨z0, z1, z2⟩ := HL1.out.cells
 go_upto_region 3 with (go_at_call 34; refine (mod_n _ _ (by omega) (by omega) _).mono ?_; rw [HMOD.out]; rintro e w' ⟨rfl, ⟨nd, rfl⟩⟩)
 clear z0 z1 z2
 have HL2 := Aside0.mk (HL1.out.below (pw_below_drewN (Below.refl _ _) nd))
 generalize w2.drewN nd = w3 at HL2 ⊢
 clear HL1 w2
 obtain ⟨z0, z1, z2⟩ := HL2.out.cells
 go_upto_region 4 with (go_at_call 14; refine (best_n HL2.out.cs HD.out (HT.out.below HL2.out.bl)).mono ?_; rintro e w4 ⟨AP, nP, rfl, hq, hb⟩; rw [← HVM.out, ← HPL.out]; rw [← HPL.out] at hq; have HP := Aside0.mk hq; have HL4 := Aside0.mk (HL2.out.below hb); clear hq hb)
 clear z0 z1 z2
 obtain ⟨z0, z1, z2⟩ := HL4.out.cells
 go_upto_region 5 with (go_at_call 22; refine (check_n HL4.out.cs AP nP _ HP.out).mono ?_; rw [HCHK.out]; rintro e w5 ⟨rfl, hb⟩; dsimp only; have HP5 := Aside0.mk (And.intro HP.out.1 (Kd.C_below HP.out.2 hb)); have HL5 := Aside0.mk (HL4.out.below hb); clear hb)
 clear z0 z1 z2
 obtain ⟨z0, z1, z2⟩ := HL5.out.cells
 go_upto_region 6 with (go_at_call 23; refine (find_n HL5.out.cs HD.out AP nP _ HP5.out f hft HCORR.out).mono ?_; rintro e w6 ⟨AL, nL, rfl, hq, hb⟩; rw [HPL.out] at hq ⊢; rw [← HLW.out] at hq ⊢; rw [← HPL.out]; have HLL := Aside0.mk hq; have HP6 := Aside0.mk (And.intro HP5.out.1 (Kd.C_below HP5.out.2 hb)); have HL6 := Aside0.mk (HL5.out.below hb); clear hq hb)
 clear z0 z1 z2
 go_wp2
 have hlf0 := leafN_le
 go_loopg [15, 14] pl.length (fun kq v15 v14 w' => ∃ i : Nat, v15 = .int .i64 i ∧ v14 = .int .i64 (leafN (pl.take i)) ∧ Aside0 (kq + i = pl.length) ∧ Aside0 (Below w6.heap.size w6 w'))
 case atStart => exact ⟨0, rfl, rfl, ⟨by omega⟩, ⟨Below.refl _ _⟩⟩
 case round =>
  clear hlf0
  obtain ⟨i, rfl, rfl, HKI, HBI⟩ := hrel
  obtain ⟨k1, rfl⟩ : ∃ k1, k1 = gk := ⟨_, rfl⟩
  have hlf := leafN_le (pl.take i)
  rw [List.length_take] at hlf
  by_cases hi : i < pl.length
  ·obtain ⟨ad, cs, e1, hcs, hK, hcc⟩ := ReadsRow.get_ (Kd.C_below HP6.out.2 HBI.out) z57 (i : Int) (by omega) (by omega)
   simp only [Int.toNat_natCast] at hK hcc
   obtain ⟨x, hx⟩ : ∃ x, pl.getD i z57 = x := ⟨_, rfl⟩
   rw [hx] at hK
   have hop := k57_open hK
   subst hop
   have hcell := hcc 0 _ rfl
   rw [show i * k57.sz + 0 = i * 4 from rfl] at hcell
   have HSN := Aside0.mk (show leafN (pl.take (i + 1)) = leafN (pl.take i) + (if x.f0 = -1 then 1 else 0) by
    rw [List.take_succ_eq_append_getElem hi, leafN_snoc, show pl[i] = x by rw [← hx, List.getD_eq_getElem?_getD, List.getElem?_eq_getElem hi]; rfl])
   clear hcs hK hcc hx
   cases e1
   obtain ⟨m, hm⟩ : ∃ m, m = leafN (pl.take i) := ⟨_, rfl⟩
   rw [← hm] at hlf HSN ⊢
   clear hm
   by_cases h0 : x.f0 = -1
   ·have q1 : (x.f0 == -1) = true := by simp [h0]
    rw [if_pos h0] at HSN
    clear h0
    go_wp2
    go_roundg (k1 - 1)
    case measure => have := HKI.out; omega
    case rel => exact ⟨i + 1, by go_num, by rw [HSN.out]; go_num, ⟨by have := HKI.out; omega⟩, HBI⟩
   ·have q1 : (x.f0 == -1) = false := by simp [h0]
    rw [if_neg h0] at HSN
    clear h0
    go_wp2
    go_roundg (k1 - 1)
    case measure => have := HKI.out; omega
    case rel => exact ⟨i + 1, by go_num, by rw [HSN.out, Nat.add_zero], ⟨by have := HKI.out; omega⟩, HBI⟩
  ·obtain rfl : i = pl.length := by have := HKI.out; omega
   rw [List.take_length, HLEAF.out]
   clear hlf hi
   go_wp2
   obtain ⟨wq, rfl⟩ : ∃ wq : World, wq = wr := ⟨_, rfl⟩
   have HLQ := Aside0.mk (HL6.out.below HBI.out)
   have HLLQ := Aside0.mk (And.intro HLL.out.1 (Kd.C_below HLL.out.2 HBI.out))
   clear HKI
   go_loopg [18, 16, 17] lw.length (fun kq v18 v16 v17 w' => ∃ (i : Nat) (u : Value), v18 = .int .i64 i ∧ v16 = u ∧ v17 = .int .i64 (costL tc (lw.take i)) ∧ Aside0 (kq + i = lw.length) ∧ Aside0 (Kd.R k53 53 w' wq.heap.size (fun _ => True) u (resOf tb f (lw.take i))) ∧ Aside0 (Below wq.heap.size wq w'))
   case atStart => exact ⟨0, .slice none 0 0, rfl, rfl, rfl, ⟨by omega⟩, ⟨Kd.R_nil _ _ _ _ _⟩, ⟨Below.refl _ _⟩⟩
   case round =>
    obtain ⟨i, u, rfl, rfl, rfl, HKJ, HRS, HBJ⟩ := hrel
    obtain ⟨k2, rfl⟩ : ∃ k2, k2 = gk := ⟨_, rfl⟩
    obtain ⟨AS, cS, rfl⟩ := Kd.R_slice HRS.out
    have HLJ := Aside0.mk (HLQ.out.below HBJ.out)
    obtain ⟨rs, hrs⟩ : ∃ rs, rs = resOf tb f (lw.take i) := ⟨_, rfl⟩
    rw [← hrs] at HRS
    obtain ⟨co, hco⟩ : ∃ co, co = costL tc (lw.take i) := ⟨_, rfl⟩
    have hcob := w_cost HD.out.is lw HK5.out (by omega) 0
    have hcoi : 0 ≤ co ∧ co ≤ 100000 := by
     have h1 := costL_bounds (c := tc) (nt := tb.length) (fun t ht => cost_at HD.out.is t ht) (lw.take i) (fun t ht => HK5.out t (List.mem_of_mem_take ht))
     rw [List.length_take, ← hco] at h1
     omega
    clear hcob
    have HRSE := Aside0.mk hrs
    have HCOE := Aside0.mk hco
    rw [← hrs, ← hco]
    clear hrs hco
    by_cases hi : i < lw.length
    ·obtain ⟨adl, el, hxl⟩ := Kd.at_int (Kd.C_below HLLQ.out.2 HBJ.out) (i : Int) (by omega) (by omega)
     have hlm := HK5.out _ (List.getElem_mem hi)
     obtain ⟨t, ht⟩ : ∃ t : Nat, lw[i] = (t : Int) := ⟨lw[i].toNat, by omega⟩
     have htl : t < tb.length := by rw [ht] at hlm; omega
     rw [show rd lw (i : Int) = (t : Int) from by rw [← ht]; simp [rd, List.getD_eq_getElem?_getD, List.getElem?_eq_getElem hi]] at hxl
     simp only [Int.toNat_natCast] at hxl
     obtain ⟨ad1, cs1, e1, hcs1, hK1, hcc1⟩ := ReadsRow.get_ HLJ.out.cs.r1 [] (t : Int) (by omega) (by omega)
     obtain ⟨Ar, cr, rfl, hcr, hCr⟩ := hK1
     simp only [Int.toNat_natCast] at hcr hCr hcc1
     obtain ⟨row, hrow⟩ : ∃ row, tb.getD t [] = row := ⟨_, rfl⟩
     rw [hrow] at hcr hCr hcc1
     have hrow2 : tb[t] = row := by rw [← hrow, List.getD_eq_getElem?_getD, List.getElem?_eq_getElem htl]; rfl
     have hrl : row.length = ta.length := by rw [← hrow2]; exact (row_at HD.out.is t htl).1
     have hcell1 := hcc1 0 _ rfl
     simp only [Nat.mul_one, Nat.add_zero, Kd.slice] at hcell1
     obtain ⟨adr, er, hxr⟩ := Kd.at_int hCr (f : Int) (by omega) (by omega)
     simp only [Int.toNat_natCast] at hxr
     obtain ⟨x, hx⟩ : ∃ x, rd row (f : Int) = x := ⟨_, rfl⟩
     rw [hx] at hxr
     obtain ⟨adc, ec, hxc⟩ := Kd.at_int HLJ.out.cs.r2 (t : Int) (by omega) (by have := HCB.out; omega)
     simp only [Int.toNat_natCast] at hxc
     have hct := cost_at HD.out.is t htl
     obtain ⟨ct, hctn⟩ : ∃ ct, rd tc (t : Int) = ct := ⟨_, rfl⟩
     have HCT := Aside0.mk hctn
     have HLI := Aside0.mk (show rd lw (i : Int) = (t : Int) from by rw [← ht]; simp [rd, List.getD_eq_getElem?_getD, List.getElem?_eq_getElem hi])
     rw [hctn] at hxc hct
     have HNR := Aside0.mk (show resOf tb f (lw.take (i + 1)) = rs ++ [(⟨(t : Int), x⟩ : S53)] by
      rw [HRSE.out, List.take_succ_eq_append_getElem hi]
      unfold resOf
      rw [List.map_append, List.map_cons, List.map_nil, ht, rd_L1_at tb t htl, hrow2, hx])
     have HNC := Aside0.mk (show costL tc (lw.take (i + 1)) = co + ct by rw [HCOE.out, List.take_succ_eq_append_getElem hi, costL_snoc, ht, hctn])
     have HXC := Aside0.mk hxc
     have HXL := Aside0.mk hxl
     clear hxc
     have HRSL := Aside0.mk (show rs.length ≤ 19 by rw [HRSE.out]; unfold resOf; rw [List.length_map, List.length_take]; omega)
     have hcl2 : t < tc.length := by have := HCB.out; omega
     have hfr : f < row.length := by omega
     clear hlm hcs1 hcc1 hrow hrow2 hCr hcr hx hctn hrl
     cases el
     cases e1
     cases er
     cases ec
     obtain ⟨z0, z1, z2⟩ := HLJ.out.cells
     have q1 : decide ((t : Int) < 0) = false := decide_eq_false (by omega)
     have q2 : decide ((tb.length : Int) ≤ (t : Int)) = false := decide_eq_false (by omega)
     have q3 : decide (tb.length ≤ t) = false := decide_eq_false (by omega)
     have HS := Aside0.mk (fun (W : World) (hb : Below wr.heap.size wr W) => And.intro (pw_cell_below hb hxl) (And.intro ((HLJ.out.below hb).cells).2.1 (And.intro (pw_cell_below hb hcell1) (pw_cell_below hb hxr))))
     go_upto_region 19 with (fail)
     go_quiet (fail)
     go_upto_region 21 with (fail)
     clear hxl z0 z1 z2 hcell1 hxr q1 q2 q3
     have hf0 : (0 : Int) ≤ (f : Int) := by omega
     have ht0 : (0 : Int) ≤ (t : Int) := by omega
     refine start_ (n := 20) (S := fun w' => w'.cell? (adl.add i) = some (.int .i64 t) ∧ w'.cell? ⟨g, 1, none⟩ = some (.slice (some ad1) tb.length d1) ∧ w'.cell? (ad1.add t) = some (.slice (some adr) row.length cr) ∧ w'.cell? (adr.add f) = some (.int .i64 x)) (ds := [18]) #[false, false, false, false, false, false, false, false, false, false, false, false, false, false, false, false, false, false, false, false] (by kernel_rfl) rfl rfl (HS.out _ (below_drew (pw_below_drewN (Below.refl _ _) nq))) (fun hHeld => ?_)
     refine pure_ (i := 0) (N := (some 93)) (v := ?_) (a' := ?_) #[true, false, false, false, false, false, false, false, false, false, false, false, false, false, false, false, false, false, false, false] rfl rfl (by kernel_rfl) (fun _ _ _ h => h) (Or.inl ⟨by rfl, ?_⟩) ?_ ?_
     rotate_left
     ·intro w'
      go_simp
      with_reducible rfl
     rotate_left
     ·simp only [Act.put, List.setIfInBounds_toArray, List.set_cons_zero, List.set_cons_succ, i64_w, i32_w]
      rfl
     refine pure_ (i := 1) (N := (some 94)) (v := ?_) (a' := ?_) #[true, true, false, false, false, false, false, false, false, false, false, false, false, false, false, false, false, false, false, false] rfl rfl (by kernel_rfl) (fun _ _ _ h => h) (Or.inl ⟨by rfl, ?_⟩) ?_ ?_
     rotate_left
     ·intro w'
      go_simp
      with_reducible rfl
     rotate_left
     ·simp only [Act.put, List.setIfInBounds_toArray, List.set_cons_zero, List.set_cons_succ, i64_w, i32_w]
      rfl
     refine pure_ (i := 2) (N := (some 95)) (v := ?_) (a' := ?_) #[true, true, true, false, false, false, false, false, false, false, false, false, false, false, false, false, false, false, false, false] rfl rfl (by kernel_rfl) (fun _ _ _ h => h) (Or.inl ⟨by rfl, ?_⟩) ?_ ?_
     rotate_left
     ·intro w'
      go_simp
      with_reducible rfl
     rotate_left
     ·simp only [Act.put, List.setIfInBounds_toArray, List.set_cons_zero, List.set_cons_succ, i64_w, i32_w]
      rfl
     refine pure_ (i := 3) (N := (some 96)) (v := ?_) (a' := ?_) #[true, true, true, true, false, false, false, false, false, false, false, false, false, false, false, false, false, false, false, false] rfl rfl (by kernel_rfl) (fun _ _ _ h => h) (Or.inl ⟨by rfl, ?_⟩) ?_ ?_
     rotate_left
     ·intro w'
      go_simp
      with_reducible rfl
     rotate_left
     ·simp only [Act.put, List.setIfInBounds_toArray, List.set_cons_zero, List.set_cons_succ, i64_w, i32_w]
      rfl
     refine take_ (i := 4) (N := (some 97)) (v := ?_) (a' := ?_) #[true, true, true, true, true, false, false, false, false, false, false, false, false, false, false, false, false, false, false, false] rfl rfl (by kernel_rfl) (fun _ _ _ h => h) (Or.inl ⟨by rfl, ?_⟩) hHeld ?_ ?_
     rotate_left
     ·rintro w' ⟨s0, s1, s2, s3⟩
      go_simp
      with_reducible rfl
     rotate_left
     ·simp only [Act.put, List.setIfInBounds_toArray, List.set_cons_zero, List.set_cons_succ, i64_w, i32_w]
      rfl
     refine pure_ (i := 5) (N := (some 98)) (v := ?_) (a' := ?_) #[true, true, true, true, true, true, false, false, false, false, false, false, false, false, false, false, false, false, false, false] rfl rfl (by kernel_rfl) (fun _ _ _ h => h) (Or.inl ⟨by rfl, ?_⟩) ?_ ?_
     rotate_left
     ·intro w'
      go_simp
      with_reducible rfl
     rotate_left
     ·simp only [Act.put, List.setIfInBounds_toArray, List.set_cons_zero, List.set_cons_succ, i64_w, i32_w]
      rfl
     refine take_ (i := 6) (N := (some 99)) (v := ?_) (a' := ?_) #[true, true, true, true, true, true, true, false, false, false, false, false, false, false, false, false, false, false, false, false] rfl rfl (by kernel_rfl) (fun _ _ _ h => h) (Or.inl ⟨by rfl, ?_⟩) hHeld ?_ ?_
     rotate_left
     ·rintro w' ⟨s0, s1, s2, s3⟩
      go_simp
      with_reducible rfl
     rotate_left
     ·simp only [Act.put, List.setIfInBounds_toArray, List.set_cons_zero, List.set_cons_succ, i64_w, i32_w]
      rfl
     refine pure_ (i := 7) (N := (some 100)) (v := ?_) (a' := ?_) #[true, true, true, true, true, true, true, true, false, false, false, false, false, false, false, false, false, false, false, false] rfl rfl (by kernel_rfl) (fun _ _ _ h => h) (Or.inl ⟨by rfl, ?_⟩) ?_ ?_
     rotate_left
     ·intro w'
      go_simp
      with_reducible rfl
     rotate_left
     ·simp only [Act.put, List.setIfInBounds_toArray, List.set_cons_zero, List.set_cons_succ, i64_w, i32_w]
      rfl
     refine pure_ (i := 8) (N := (some 101)) (v := ?_) (a' := ?_) #[true, true, true, true, true, true, true, true, true, false, false, false, false, false, false, false, false, false, false, false] rfl rfl (by kernel_rfl) (fun _ _ _ h => h) (Or.inl ⟨by rfl, ?_⟩) ?_ ?_
     rotate_left
     ·intro w'
      go_simp
      with_reducible rfl
     rotate_left
     ·simp only [Act.put, List.setIfInBounds_toArray, List.set_cons_zero, List.set_cons_succ, i64_w, i32_w]
      rfl
     refine pure_ (i := 9) (N := (some 102)) (v := ?_) (a' := ?_) #[true, true, true, true, true, true, true, true, true, true, false, false, false, false, false, false, false, false, false, false] rfl rfl (by kernel_rfl) (fun _ _ _ h => h) (Or.inl ⟨by rfl, ?_⟩) ?_ ?_
     rotate_left
     ·intro w'
      go_simp
      with_reducible rfl
     rotate_left
     ·simp only [Act.put, List.setIfInBounds_toArray, List.set_cons_zero, List.set_cons_succ, i64_w, i32_w]
      rfl
     refine take_ (i := 10) (N := (some 103)) (v := ?_) (a' := ?_) #[true, true, true, true, true, true, true, true, true, true, true, false, false, false, false, false, false, false, false, false] rfl rfl (by kernel_rfl) (fun _ _ _ h => h) (Or.inl ⟨by rfl, ?_⟩) hHeld ?_ ?_
     rotate_left
     ·rintro w' ⟨s0, s1, s2, s3⟩
      go_simp
      with_reducible rfl
     rotate_left
     ·simp only [Act.put, List.setIfInBounds_toArray, List.set_cons_zero, List.set_cons_succ, i64_w, i32_w]
      rfl
     refine pure_ (i := 11) (N := (some 104)) (v := ?_) (a' := ?_) #[true, true, true, true, true, true, true, true, true, true, true, true, false, false, false, false, false, false, false, false] rfl rfl (by kernel_rfl) (fun _ _ _ h => h) (Or.inl ⟨by rfl, ?_⟩) ?_ ?_
     rotate_left
     ·intro w'
      go_simp
      with_reducible rfl
     rotate_left
     ·simp only [Act.put, List.setIfInBounds_toArray, List.set_cons_zero, List.set_cons_succ, i64_w, i32_w]
      rfl
     refine take_ (i := 12) (N := (some 105)) (v := ?_) (a' := ?_) #[true, true, true, true, true, true, true, true, true, true, true, true, true, false, false, false, false, false, false, false] rfl rfl (by kernel_rfl) (fun _ _ _ h => h) (Or.inl ⟨by rfl, ?_⟩) hHeld ?_ ?_
     rotate_left
     ·rintro w' ⟨s0, s1, s2, s3⟩
      go_simp
      with_reducible rfl
     rotate_left
     ·simp only [Act.put, List.setIfInBounds_toArray, List.set_cons_zero, List.set_cons_succ, i64_w, i32_w]
      rfl
     refine pure_ (i := 13) (N := (some 106)) (v := ?_) (a' := ?_) #[true, true, true, true, true, true, true, true, true, true, true, true, true, true, false, false, false, false, false, false] rfl rfl (by kernel_rfl) (fun _ _ _ h => h) (Or.inl ⟨by rfl, ?_⟩) ?_ ?_
     rotate_left
     ·intro w'
      go_simp
      with_reducible rfl
     rotate_left
     ·simp only [Act.put, List.setIfInBounds_toArray, List.set_cons_zero, List.set_cons_succ, i64_w, i32_w]
      rfl
     refine pure_ (i := 14) (N := (some 107)) (v := ?_) (a' := ?_) #[true, true, true, true, true, true, true, true, true, true, true, true, true, true, true, false, false, false, false, false] rfl rfl (by kernel_rfl) (fun _ _ _ h => h) (Or.inl ⟨by rfl, ?_⟩) ?_ ?_
     rotate_left
     ·intro w'
      go_simp
      with_reducible rfl
     rotate_left
     ·simp only [Act.put, List.setIfInBounds_toArray, List.set_cons_zero, List.set_cons_succ, i64_w, i32_w]
      rfl
     refine take_ (i := 15) (N := (some 108)) (v := ?_) (a' := ?_) #[true, true, true, true, true, true, true, true, true, true, true, true, true, true, true, true, false, false, false, false] rfl rfl (by kernel_rfl) (fun _ _ _ h => h) (Or.inl ⟨by rfl, ?_⟩) hHeld ?_ ?_
     rotate_left
     ·rintro w' ⟨s0, s1, s2, s3⟩
      go_simp
      with_reducible rfl
     rotate_left
     ·simp only [Act.put, List.setIfInBounds_toArray, List.set_cons_zero, List.set_cons_succ, i64_w, i32_w]
      rfl
     refine pure_ (i := 16) (N := (some 109)) (v := ?_) (a' := ?_) #[true, true, true, true, true, true, true, true, true, true, true, true, true, true, true, true, true, false, false, false] rfl rfl (by kernel_rfl) (fun _ _ _ h => h) (Or.inl ⟨by rfl, ?_⟩) ?_ ?_
     rotate_left
     ·intro w'
      go_simp
      with_reducible rfl
     rotate_left
     ·simp only [Act.put, List.setIfInBounds_toArray, List.set_cons_zero, List.set_cons_succ, i64_w, i32_w]
      rfl
     refine one_ (i := 17) (N := (some 110)) #[true, true, true, true, true, true, true, true, true, true, true, true, true, true, true, true, true, true, false, false] rfl rfl (by kernel_rfl) (by decide) (fun K hK => ?_)
     refine value_ (w1 := ?_) (v := ?_) (by rfl) rfl ?_ ?_
     rotate_left 2
     ·go_simp
      constructor
      ·rfl
      ·rfl
     refine hK.out _ _ (HS.out _ (below_alloc (below_drew (pw_below_drewN (Below.refl _ _) nq)) _)) (fun hHeld => ?_)
     clear hK K
     refine norm_ (a' := ?_) ?_ ?_
     rotate_left
     ·show Act.put _ (some 110) _ = _
      simp only [Act.put, List.setIfInBounds_toArray, List.set_cons_zero, List.set_cons_succ, i64_w, i32_w]
      rfl
     refine last_ (i := 18) (N := (some 111)) #[true, true, true, true, true, true, true, true, true, true, true, true, true, true, true, true, true, true, true, false] rfl rfl (by kernel_rfl) (by decide) (fun K hK => ?_)
     refine Kd.R_append_step k53 (w0 := wq) wq.heap.size (by rfl) (.tmp 93) (.tmp 110) 33 53 (.agg #[.int .i64 0, .int .i64 0]) 16 rfl Tryd.underlying33 info53w rfl (by decide) (by omega) (.slice AS rs.length cS) rs (⟨(t : Int), x⟩ : S53) [.int .i64 (t : Int), .int .i64 x] (fun _ => True) (fun _ => False) rfl rfl (k53_mkM _ _ _ ⟨(t : Int), x⟩) (fun _ hk => hk.elim) (fun _ _ => trivial) (Kd.R_drew (Kd.R_drewN HRS.out nq)) (below_drew (pw_below_drewN HBJ.out nq)) (by have := HBJ.out.size; exact this) (by have := HRSL.out; omega) ?_
     intro v1 w7 ho hb hg hat
     obtain ⟨AV, cV, rfl⟩ := Kd.R_slice ho
     have HO := Aside0.mk ho
     have HB7 := Aside0.mk hb
     have hlen : (rs ++ [(⟨(t : Int), x⟩ : S53)]).length = rs.length + 1 := by simp
     rw [hlen] at HO ⊢
     clear ho hb hg hat hlen
     refine hK.out _ _ ?_
     clear hK K
     refine norm_ (a' := ?_) ?_ ?_
     rotate_left
     ·show Act.put _ (some 111) _ = _
      simp only [Act.put, List.setIfInBounds_toArray, List.set_cons_zero, List.set_cons_succ, i64_w, i32_w]
      rfl
     refine pure_ (i := 19) (N := (some 16)) (v := ?_) (a' := ?_) #[true, true, true, true, true, true, true, true, true, true, true, true, true, true, true, true, true, true, true, true] rfl rfl (by kernel_rfl) (fun _ _ _ h => h) (Or.inl ⟨by rfl, ?_⟩) ?_ ?_
     rotate_left
     ·intro w'
      go_simp
      with_reducible rfl
     rotate_left
     ·simp only [Act.put, List.setIfInBounds_toArray, List.set_cons_zero, List.set_cons_succ, i64_w, i32_w]
      rfl
     refine done_ (by kernel_rfl) ?_
     have HL7 := Aside0.mk (HLQ.out.below HB7.out)
     obtain ⟨z0, z1, z2⟩ := HL7.out.cells
     obtain ⟨adl2, el2, hxl2⟩ := Kd.at_int (Kd.C_below HLLQ.out.2 HB7.out) (i : Int) (by omega) (by omega)
     obtain rfl := Option.some.inj el2
     obtain ⟨adc2, ec2, hxc2⟩ := Kd.at_int HL7.out.cs.r2 (t : Int) (by omega) (by omega)
     obtain rfl := Option.some.inj ec2
     simp only [Int.toNat_natCast] at hxl2 hxc2
     rw [HLI.out] at hxl2
     rw [HCT.out] at hxc2
     have hw : IntKind.i64.wrap (co + ct) = co + ct := IntWalk.i64_in _ (by omega)
     clear el2 ec2
     go_upto_region 22 with (fail)
     go_quiet (fail)
     clear hxl2 hxc2 z0 z1 z2 hw
     go_wp2
     go_roundg (k2 - 1)
     case measure => have := HKJ.out; omega
     case rel => exact ⟨i + 1, .slice AV (rs.length + 1) cV, by go_num, rfl, by rw [HNC.out], ⟨by have := HKJ.out; omega⟩, ⟨by rw [HNR.out]; exact Kd.R_drewN HO.out nq⟩, ⟨pw_below_drewN HB7.out nq⟩⟩
    ·obtain rfl : i = lw.length := by have := HKJ.out; omega
     have hrse := HRSE.out
     rw [List.take_length] at hrse
     have hcoe := HCOE.out
     rw [List.take_length] at hcoe
     have hcow : co ≤ wo := by rw [hcoe]; exact HK3.out
     have hrl : rs.length ≤ 100 := by rw [hrse]; unfold resOf; rw [List.length_map]; omega
     have HRSR := Aside0.mk (And.intro (Kd.R_reads' HRS.out).2.1 (Kd.R_reads' HRS.out).2.2)
     have HOKR := Aside0.mk (show leftOk tb rs = true by rw [hrse]; exact HOK.out)
     have HLEFT := Aside0.mk (show leftL tb rs 0 ta.length = [(f : Int)] by rw [hrse]; exact HK1.out)
     clear hrse hcoe hi
     obtain ⟨z0, z1, z2⟩ := HLJ.out.cells
     go_upto_region 24 with (go_at_call 31; refine (left_n HLJ.out.cs HD.out AS cS rs HRSR.out HOKR.out).mono ?_; rw [HLEFT.out]; rintro e w8 ⟨A8, n8, rfl, hq, hb⟩; have HLF := Aside0.mk hq; have HL8 := Aside0.mk (HLJ.out.below hb); clear hq hb)
     clear z0 z1 z2
     obtain ⟨z0, z1, z2⟩ := HL8.out.cells
     have q1 : decide ((co : Int) ≤ wo) = true := decide_eq_true hcow
     have q2 : decide (rs.length ≤ 100) = true := decide_eq_true hrl
     have q3 : decide ((rs.length : Int) ≤ 100) = true := decide_eq_true (by omega)
     have HI := Aside0.mk (show Calls Tryd.prog 25 #[.slice A8 1 n8, .slice (some ⟨w8.heap.size, 0, none⟩) 1 1] (w8.alloc (.cells #[.int .i64 f] 3)) fun e w' => e = .returned (.bool true) ∧ Drawn0 (w8.alloc (.cells #[.int .i64 f] 3)) w' from ints_same A8 n8 [(f : Int)] (some ⟨w8.heap.size, 0, none⟩) 1 ⟨HLF.out.1, Kd.C_alloc HLF.out.2 _⟩ ⟨Nat.le_refl _, one_C w8 f⟩ (by simp))
     have HBL := Aside0.mk (below_alloc HL8.out.bl (.cells #[.int .i64 f] 3))
     go_wp2_with (first | (go_at_call 25; (with_reducible refine HI.out.mono ?_); rintro e w' ⟨rfl, ⟨nd3, rfl⟩⟩) | (go_at_call 17; refine (awake_n _ (HT.out.below (pw_below_drewN HBL.out nd3))).mono ?_; rintro e wd ⟨rfl, hb⟩; have HBd := Aside0.mk (below_step (pw_below_drewN HBL.out nd3) hb); clear hb))
     go_ret
     exact ⟨rfl, HBd.out⟩
end
def tickinglaw07_TestsWays.f (k : Nat) (a : List Int) (b : List (List Int)) (c : List Int) (f : Int) : Option Bool := some true
theorem TestsWays_ev (a : List Int) (b : List (List Int)) (c : List Int) (f : Int) : Ev (fun k => tickinglaw07_TestsWays.f k a b c f) true := Ev.now _
theorem tickinglaw07_TestsWays.calls (k : Nat) (A0 : Option Addr) (c0 : Nat) (a : List Int) (A1 : Option Addr) (c1 : Nat) (b : List (List Int)) (A2 : Option Addr) (c2 : Nat) (c : List Int) (f : Int) (r : Bool) (w : World)
  (h0 : Kd.C (Kd.int .i64) w A0 a.length a) (n0 : a.length ≤ c0) (h1 : Kd.C (Kd.slice 3 (Kd.int .i64)) w A1 b.length b) (n1 : b.length ≤ c1) (h2 : Kd.C (Kd.int .i64) w A2 c.length c) (n2 : c.length ≤ c2) (h : tickinglaw07_TestsWays.f k a b c f = some r) (hT : Tab w) :
  Calls Tryd.prog 9 #[.agg #[.slice A0 a.length c0, .slice A1 b.length c1, .slice A2 c.length c2], .int .i64 f] w fun e w' => e = .returned (.bool r) ∧ Below w.heap.size w w' := by
 obtain rfl := Option.some.inj h
 exact ways_n ⟨h0, n0, h1, n1, h2, n2⟩ f hT
end Go.Proofs.YtekmiepdodaidaaDoor.X
end

section
/- Arguments as they come in, opened kind by kind: what a value's cells read as is a word of the kind. -/
set_option linter.unusedVariables false
set_option linter.unusedSimpArgs false
namespace Go.Proofs.YtekmiepdodaidaaDoor.X
open Go.ChangeShapes Go.WideShapes Go.ChangeAt Go.RowKit Go.Proofs.YtekmiepdodaidaaDoorW.PrintWords
section
variable {H : Type} {enc : TypeId × Value → H} {P : Program} {W : World} {base : Nat} {held : Bool}
/-- Whatever is read of type t is a word of the kind, and it is good. -/
def Opens {α : Type} (enc : TypeId × Value → H) (P : Program) (W : World) (base : Nat) (held : Bool) (d : Kd α) (t : TypeId) (good : α → Prop) : Prop :=
 ∀ fuel cs x, DataW.trod enc P W base (fun _ => true) held fuel t cs = some x → ∃ a : α, d.K W a cs ∧ good a
theorem opens_int {t : TypeId} {k : IntKind} (ht : P.underlying t = some (.int k)) : Opens enc P W base held (Kd.int k) t (fun z => (Lit.int k z).wf = true) := by
 intro fuel cs x h
 obtain ⟨z, e, _, hw⟩ := DataW.trod_int ht h
 exact ⟨z, e, hw⟩
theorem opens_slice {α : Type} {d : Kd α} {t e : TypeId} {good : α → Prop} (ht : P.underlying t = some (.slice e)) (hs : P.cellsOf e = d.sz) (he : Opens enc P W base held d e good) :
  Opens enc P W base held (Kd.slice e d) t (fun l => l.length ≤ maxLen ∧ ∀ x ∈ l, good x) := by
 intro fuel cs x h
 rcases Go.Deep.open_slice ht h with ⟨rfl, _⟩ | ⟨a, len, cap, m, n, D, Pl, rfl, hb, hl, hm, hmm, hxx, hx⟩
 ·exact ⟨[], ⟨none, 0, rfl, Nat.le_refl _, Kd.C_nil _ _⟩, Nat.zero_le _, by simp⟩
 simp only [if_true] at hmm
 subst hmm
 have each : ∀ i, i < len → ∃ y : α, ∃ cs', W.cells? base (a.add (i * d.sz)) d.sz = some cs' ∧ d.K W y cs' ∧ good y := by
  intro i hi
  obtain ⟨cs', h1, h2⟩ := hx i (by omega)
  obtain ⟨y, h3, h4⟩ := he _ _ _ h2
  rw [hs] at h1
  exact ⟨y, cs', h1, h3, h4⟩
 have pick : ∃ l : List α, l.length = len ∧ ∀ i y, l[i]? = some y → ∃ cs', W.cells? base (a.add (i * d.sz)) d.sz = some cs' ∧ d.K W y cs' ∧ good y := by
  clear hl hm hx hxx h
  induction len with
  | zero => exact ⟨[], rfl, fun i y hy => by simp at hy⟩
  | succ len ih =>
   obtain ⟨l, hl, hy⟩ := ih (fun i hi => each i (by omega))
   obtain ⟨y0, hy0⟩ := each len (by omega)
   refine ⟨l ++ [y0], by simp [hl], fun i y hi => ?_⟩
   rcases Nat.lt_trichotomy i l.length with h | h | h
   ·rw [List.getElem?_append_left h] at hi
    exact hy i y hi
   ·rw [List.getElem?_append_right (by omega)] at hi
    have e0 : i - l.length = 0 := by omega
    rw [e0] at hi
    have : y0 = y := by simpa using hi
    subst this
    rw [h, hl]
    exact hy0
   ·rw [List.getElem?_eq_none (by simp; omega)] at hi
    cases hi
 obtain ⟨l, rfl, hy⟩ := pick
 refine ⟨l, ⟨some a, _, rfl, hl, rfl, ?_, fun hn => ⟨a, rfl, fun j p hj => ?_⟩⟩, Nat.le_trans hl hm, fun x hx => ?_⟩
 ·have := Nat.le_trans hl hm
  simpa [maxLen] using this
 ·obtain ⟨cs', h1, h2, _⟩ := hy j p hj
  obtain ⟨h3, h4, h5⟩ := World.cells?_some h1
  refine ⟨cs', h4, h2, fun i u hu => ?_⟩
  have hi : i < d.sz := by
   rcases Nat.lt_or_ge i d.sz with h | h
   ·exact h
   ·rw [List.getElem?_eq_none (by omega)] at hu
    cases hu
  have := h5 i hi
  rw [hu] at this
  rw [← this]
  congr 1
  simp only [Addr.add]
  by_cases h6 : i = 0
  ·subst h6; simp
  ·by_cases h7 : j * d.sz = 0
   ·simp [h6, h7]
   ·simp [h6, h7, Nat.add_assoc]
 ·obtain ⟨j, hj⟩ := List.getElem?_of_mem hx
  obtain ⟨_, _, _, h4⟩ := hy j x hj
  exact h4
theorem opens_arg {α : Type} {d : Kd α} {t : TypeId} {good : α → Prop} {v : Value} {x : DataW H} {p : List MemPlace} (ho : Opens enc P W base held d t good) (h : DataW.Trod enc P W base (fun _ => true) held t v x p) : ∃ a : α, d.K W a v.cells.toList ∧ good a := by
 obtain ⟨fuel, hf⟩ := h
 exact ho _ _ _ hf
/-- An argument that is a slice. -/
theorem open_slice {α : Type} {d : Kd α} {t e : TypeId} {good : α → Prop} {v : Value} {x : DataW H} {p : List MemPlace} (ht : P.underlying t = some (.slice e)) (hs : P.cellsOf e = d.sz) (he : Opens enc P W 0 true d e good)
  (hv : Value.okWide P W .any base t v) (h : DataW.Trod enc P W 0 (fun _ => true) true t v x p) :
  ∃ (a : Option Addr) (l : List α) (cap : Nat), v = .slice a l.length cap ∧ l.length ≤ cap ∧ Kd.C d W a l.length l ∧ l.length ≤ maxLen ∧ ∀ x ∈ l, good x := by
 obtain ⟨a, len, cap, rfl⟩ := okWide_slice ht hv
 obtain ⟨l, ⟨A, c, e1, h1, h2⟩, h3, h4⟩ := opens_arg (opens_slice ht hs he) h
 simp only [Value.cells, List.cons.injEq, Value.slice.injEq, and_true] at e1
 obtain ⟨rfl, rfl, rfl⟩ := e1
 exact ⟨_, l, _, rfl, h1, h2, h3, h4⟩
theorem okWide_struct {r : Reach} {fs : Array Field} {b0 : Nat} {t : TypeId} {v : Value} (ht : P.underlying t = some (.struct fs)) (h : Value.okWide P W r b0 t v) : ∃ cs, v = .agg cs ∧ cs.size = P.cellsOf t := by
 simp only [Value.okWide, ht] at h
 cases v <;> simp_all
/-- An argument that is a struct of three slices. -/
theorem open_three {α β γ : Type} {d0 : Kd α} {d1 : Kd β} {d2 : Kd γ} {t e0 e1 e2 : TypeId} {f0 f1 f2 : Field} {g0 : α → Prop} {g1 : β → Prop} {g2 : γ → Prop} {v : Value} {x : DataW H} {p : List MemPlace}
  (ht : P.underlying t = some (.struct #[f0, f1, f2])) (hc : P.cellsOf t = 3) (o0 : f0.offset = 0) (o1 : f1.offset = 1) (o2 : f2.offset = 2) (c0 : P.cellsOf f0.type = 1) (c1 : P.cellsOf f1.type = 1) (c2 : P.cellsOf f2.type = 1)
  (t0 : P.underlying f0.type = some (.slice e0)) (t1 : P.underlying f1.type = some (.slice e1)) (t2 : P.underlying f2.type = some (.slice e2)) (s0 : P.cellsOf e0 = d0.sz) (s1 : P.cellsOf e1 = d1.sz) (s2 : P.cellsOf e2 = d2.sz)
  (h0 : Opens enc P W 0 true d0 e0 g0) (h1 : Opens enc P W 0 true d1 e1 g1) (h2 : Opens enc P W 0 true d2 e2 g2)
  (hv : Value.okWide P W .any base t v) (h : DataW.Trod enc P W 0 (fun _ => true) true t v x p) :
  ∃ (a0 : Option Addr) (l0 : List α) (k0 : Nat) (a1 : Option Addr) (l1 : List β) (k1 : Nat) (a2 : Option Addr) (l2 : List γ) (k2 : Nat), v = .agg #[.slice a0 l0.length k0, .slice a1 l1.length k1, .slice a2 l2.length k2] ∧
   (l0.length ≤ k0 ∧ Kd.C d0 W a0 l0.length l0 ∧ l0.length ≤ maxLen ∧ ∀ x ∈ l0, g0 x) ∧ (l1.length ≤ k1 ∧ Kd.C d1 W a1 l1.length l1 ∧ l1.length ≤ maxLen ∧ ∀ x ∈ l1, g1 x) ∧ (l2.length ≤ k2 ∧ Kd.C d2 W a2 l2.length l2 ∧ l2.length ≤ maxLen ∧ ∀ x ∈ l2, g2 x) := by
 obtain ⟨cs, rfl, hsz⟩ := okWide_struct ht hv
 obtain ⟨fuel, hf⟩ := h
 obtain ⟨y0, y1, y2, n, _, hl, r0, r1, r2⟩ := Go.Deep.trod_struct3 ht hf
 rw [hc] at hl hsz
 obtain ⟨ls⟩ := cs
 match ls, hsz with
 | [u0, u1, u2], _ =>
  rw [o0, c0] at r0
  rw [o1, c1] at r1
  rw [o2, c2] at r2
  simp only [Value.cells, List.drop_zero, List.take_succ_cons, List.take_zero, List.drop_succ_cons] at r0 r1 r2
  obtain ⟨l0, ⟨a0, k0, q0, m0, n0⟩, w0⟩ := opens_slice t0 s0 h0 _ _ _ r0
  obtain ⟨l1, ⟨a1, k1, q1, m1, n1⟩, w1⟩ := opens_slice t1 s1 h1 _ _ _ r1
  obtain ⟨l2, ⟨a2, k2, q2, m2, n2⟩, w2⟩ := opens_slice t2 s2 h2 _ _ _ r2
  simp only [List.cons.injEq, and_true] at q0 q1 q2
  subst q0 q1 q2
  exact ⟨a0, l0, k0, a1, l1, k1, a2, l2, k2, rfl, ⟨m0, n0, w0⟩, ⟨m1, n1, w1⟩, ⟨m2, n2, w2⟩⟩
end
end Go.Proofs.YtekmiepdodaidaaDoor.X
end

section
/- What every row of this seat uses: what its condition gives, the door's heap, the listed tables, the arguments' kinds. -/
namespace Go.Proofs.YtekmiepdodaidaaDoor
open Go.ChangeShapes Go.WideShapes Go.ChangeAt Go.RowKit Go.Proofs.YtekmiepdodaidaaDoorW.PrintWords
theorem own : ownKnob Tryd.prog.godebug = none := by kernel_rfl
theorem laidOut : laidOutB Tryd.prog = true := by kernel_rfl
def laidTabs : List (String × DataW Unit) := [("math/bits.deBruijn32tab", Rows.laid_math_bits_deBruijn32tab), ("math/bits.deBruijn64tab", Rows.laid_math_bits_deBruijn64tab)]
theorem g64 : Tryd.prog.globalNamed "math/bits.deBruijn64tab" = some 1 := by kernel_rfl
theorem tab64 : Rows.laid_math_bits_deBruijn64tab (H := Unit) = Lib.tabData .u8 (Lib.deBruijn64tab.map fun n : Nat => (n : Int)) := rfl
set_option maxRecDepth 100000 in
theorem door_met (os : Os) (args : Array Value) : laidMetH Tryd.prog laidTabs ((World.doorLaid Tryd.prog 19 os).forCall (fun _ _ => 0) ⟨#[], args, []⟩).memory :=
 laidMetH_of_parts3 (fuel := 8) (laidMet_of_run' 8 (by kernel_rfl) (by kernel_rfl)) (by kernel_rfl) (by kernel_rfl)
set_option maxRecDepth 100000 in
theorem tab_of_laid {W : World} (h : laidMetH Tryd.prog laidTabs W) : X.Tab W := by
 rw [MakeChecks.laidMetH_plain _ _ _ (by kernel_rfl)] at h
 have h1 := laidMet.tail h
 rw [tab64] at h1
 have e : ∃ t n e, (Tryd.prog.globals[1]?).map (·.type) = some t ∧ Tryd.prog.underlying t = some (.array n e) ∧ Tryd.prog.underlying e = some (.int .u8) ∧ Tryd.prog.cellsOf e = 1 ∧ Tryd.prog.cellsOf t = n :=
  ⟨112, 64, 5, by kernel_rfl, by kernel_rfl, by kernel_rfl, by kernel_rfl, by kernel_rfl⟩
 obtain ⟨t, n, e, e1, e2, e3, e4, e5⟩ := e
 have h2 := Lib.tabIs_of_head g64 e1 e2 e3 e4 e5 h1
 have h3 : TabAt 1 Lib.deBruijn64tab W := by
  intro j hj
  have h4 := h2.cell g64 j (by simpa using hj)
  rw [h4]
  simp [List.getD, List.getElem?_map, List.getElem?_eq_getElem hj]
 refine ⟨h3, ?_⟩
 have h4 := h3 0 (by decide)
 unfold World.cell? at h4
 rcases Nat.lt_or_ge 1 W.heap.size with h | h
 ·exact h
 ·simp [Array.getElem?_eq_none h] at h4
section
variable {H : Type} {enc : TypeId × Value → H} {W : World} {base : Nat} {held : Bool}
theorem opens3 : X.Opens enc Tryd.prog W base held (Kd.int .i64) 3 (fun z => (Lit.int .i64 z).wf = true) := X.opens_int Tryd.underlying3
set_option maxRecDepth 100000 in
theorem opens22 : X.Opens enc Tryd.prog W base held (Kd.slice 3 (Kd.int .i64)) 22 (fun l => l.length ≤ maxLen ∧ ∀ z ∈ l, (Lit.int .i64 z).wf = true) := X.opens_slice Tryd.underlying22 (by kernel_rfl) opens3
set_option maxRecDepth 100000 in
theorem open_case {v : Value} {x : DataW H} {p : List MemPlace} (hv : Value.okWide Tryd.prog W .any base 25 v) (h : DataW.Trod enc Tryd.prog W 0 (fun _ => true) true 25 v x p) :
  ∃ (a0 : Option Addr) (l0 : List Int) (k0 : Nat) (a1 : Option Addr) (l1 : List (List Int)) (k1 : Nat) (a2 : Option Addr) (l2 : List Int) (k2 : Nat), v = .agg #[.slice a0 l0.length k0, .slice a1 l1.length k1, .slice a2 l2.length k2] ∧
   (l0.length ≤ k0 ∧ Kd.C (Kd.int .i64) W a0 l0.length l0 ∧ l0.length ≤ maxLen ∧ ∀ z ∈ l0, (Lit.int .i64 z).wf = true) ∧
   (l1.length ≤ k1 ∧ Kd.C (Kd.slice 3 (Kd.int .i64)) W a1 l1.length l1 ∧ l1.length ≤ maxLen ∧ ∀ l ∈ l1, l.length ≤ maxLen ∧ ∀ z ∈ l, (Lit.int .i64 z).wf = true) ∧
   (l2.length ≤ k2 ∧ Kd.C (Kd.int .i64) W a2 l2.length l2 ∧ l2.length ≤ maxLen ∧ ∀ z ∈ l2, (Lit.int .i64 z).wf = true) :=
 X.open_three Tryd.underlying25 (by kernel_rfl) rfl rfl rfl (by kernel_rfl) (by kernel_rfl) (by kernel_rfl) Tryd.underlying22 Tryd.underlying23 Tryd.underlying22 (by kernel_rfl) (by kernel_rfl) (by kernel_rfl) opens3 opens22 opens3 hv h
end
end Go.Proofs.YtekmiepdodaidaaDoor
end
