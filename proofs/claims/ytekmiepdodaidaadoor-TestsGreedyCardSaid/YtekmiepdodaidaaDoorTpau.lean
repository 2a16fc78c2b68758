/- Texts behind TestsGreedy, part 21: contracts of the program's functions and the plain words for them. -/
import Derived.Maps.OwnSet
import Derived.Maps.RangeWalk
import Derived.Laws.EntriesVeiled
import Derived.Test.YtekmiepdodaidaaDoorTpas
import Derived.Test.YtekmiepdodaidaaDoorTpat
section
/- Layer 7, plain: what newTrial makes of a case. -/
set_option linter.unusedVariables false
namespace Go.Proofs.YtekmiepdodaidaaDoor.X
open Go.RowKit Go.Proofs.YtekmiepdodaidaaDoorW.PrintWords Go.Proofs.YtekmiepdodaidaaDoorW.PrintLast Go.Proofs.YtekmiepdodaidaaDoorW.PrintMore

/-- Are the three lists a case? -/
def rowOkB (n : Nat) (l : List Int) : Bool := (l.length == n) && l.all (inB 0 1)
def caseB (a : List Int) (b : List (List Int)) (c : List Int) : Bool :=
 decide (1 ≤ a.length) && decide (a.length ≤ 10) && decide (b.length ≤ 12) && (c.length == b.length) && a.all (inB 1 1000) && c.all (inB 1 100) && b.all (rowOkB a.length)
/-- A row of results as a number: bit i is result i. -/
def rowV : List Int → Nat
 | [] => 0
 | x :: xs => x.toNat + 2 * rowV xs
def onesOf (b : List (List Int)) : List Int := b.map fun l => (rowV l : Int)
def trialR (a : List Int) (b : List (List Int)) (c : List Int) : List Int × (List (List Int)) × List Int × List Int × Int × Int :=
 if caseB a b c = true then (a, b, c, onesOf b, (2 ^ a.length : Nat) - 1, 0) else ([], [], [], [], 0, 2)

theorem rowV_lt : ∀ (l : List Int), (∀ x ∈ l, x = 0 ∨ x = 1) → rowV l < 2 ^ l.length
 | [], _ => by simp [rowV]
 | x :: xs, h => by
  have ih := rowV_lt xs (fun y hy => h y (by simp [hy]))
  have hx := h x (by simp)
  simp only [rowV, List.length_cons, Nat.pow_succ]
  omega
theorem rowV_snoc : ∀ (l : List Int) (x : Int), rowV (l ++ [x]) = rowV l + x.toNat * 2 ^ l.length
 | [], x => by simp [rowV]
 | y :: ys, x => by
  have ih := rowV_snoc ys x
  simp only [List.cons_append, rowV, List.length_cons, Nat.pow_succ, ih]
  have : x.toNat * (2 ^ ys.length * 2) = 2 * (x.toNat * 2 ^ ys.length) := by rw [← Nat.mul_assoc, Nat.mul_comm _ 2]
  omega
theorem rowV_bit : ∀ (l : List Int), (∀ x ∈ l, x = 0 ∨ x = 1) → ∀ i, (rowV l).testBit i = decide (l.getD i 0 = 1)
 | [], _, i => by simp [rowV]
 | x :: xs, h, 0 => by
  have hx := h x (by simp)
  have hp : (rowV (x :: xs)) % 2 = x.toNat := by simp only [rowV]; omega
  rw [Nat.testBit_zero, hp]
  rcases hx with rfl | rfl <;> simp
 | x :: xs, h, i + 1 => by
  have ih := rowV_bit xs (fun y hy => h y (by simp [hy])) i
  have hx := h x (by simp)
  have hp : (rowV (x :: xs)) / 2 = rowV xs := by simp only [rowV]; omega
  rw [Nat.testBit_succ, hp, ih]
  simp
theorem or_bit (v i : Nat) (r : Int) (hi : i < 10) (hv : v < 2 ^ i) (hr : r = 0 ∨ r = 1) : Go.bits .or .u64 (v : Int) (shl .u64 (IntKind.u64.wrap r) (i : Int)) = ((v + r.toNat * 2 ^ i : Nat) : Int) := by
 have hp : 2 ^ i ≤ 2 ^ 9 := Nat.pow_le_pow_right (by omega) (by omega)
 rcases hr with rfl | rfl
 ·have e : shl .u64 (IntKind.u64.wrap 0) (i : Int) = ((0 : Nat) : Int) := by unfold shl; simp [IntKind.wrap_u64]
  rw [e, u64_or_nat v 0 (by omega) (by omega)]; simp
 ·have e : shl .u64 (IntKind.u64.wrap 1) (i : Int) = ((2 ^ i : Nat) : Int) := by
   unfold shl
   have hm : min i IntKind.u64.bits = i := by simp [IntKind.bits]; omega
   have h1 : IntKind.u64.wrap 1 = 1 := by rw [IntKind.wrap_u64]; rfl
   rw [h1, Int.toNat_natCast, hm, IntKind.wrap_u64]
   have hz : (1 * 2 ^ i : Int) = ((2 ^ i : Nat) : Int) := by simp
   rw [hz]
   omega
  rw [e, u64_or_nat v (2 ^ i) (by omega) (by omega)]
  have := Nat.two_pow_add_eq_or_of_lt hv 1
  rw [Nat.mul_one] at this
  rw [Nat.or_comm, ← this]
  simp; omega

theorem newTrial_l1 (x4 x49 x50 x135004 : Int) (x48 : List (List Int)) (l : List Int) (acc : List Int) (hl : l.length ≤ 10) (hb : ∀ x ∈ l, x = 0 ∨ x = 1) (R : List Int × (List (List Int)) × List Int × List Int × Int × Int) (ha : acc.length < 17592186044416)
  (hk : Ev (fun k => tests_newTrialA.l0 k x4 x48 x49 (wrap64 (x50 + 1)) (acc ++ [(rowV l : Int)]) x135004) R) (m : Nat) : ∀ i, i + m = l.length → Ev (fun k => tests_newTrialA.l1 k x4 (rowV (l.take i) : Nat) x48 x49 x50 l (l.length : Int) (i : Int) acc x135004) R := by
 induction m with
 | zero =>
  intro i hi
  refine Ev.step (fun k => ?_) hk
  obtain rfl : i = l.length := by omega
  show tests_newTrialA.l1 (k + 1) x4 _ x48 x49 x50 l (l.length : Int) _ acc x135004 = _
  simp only [tests_newTrialA.l1]
  rw [if_neg (by omega), if_pos ha, List.take_length]
 | succ m ih =>
  intro i hi
  refine Ev.step (fun k => ?_) (ih (i + 1) (by omega))
  show tests_newTrialA.l1 (k + 1) x4 _ x48 x49 x50 l (l.length : Int) _ acc x135004 = _
  simp only [tests_newTrialA.l1]
  have hil : i < l.length := by omega
  have hr : rd l (i : Int) = l[i] := by simp [rd, List.getD_eq_getElem?_getD, List.getElem?_eq_getElem hil]
  have ht : l.take (i + 1) = l.take i ++ [l[i]] := List.take_succ_eq_append_getElem hil
  have hlen : (l.take i).length = i := by rw [List.length_take]; omega
  have hv : rowV (l.take i) < 2 ^ i := by
   have := rowV_lt (l.take i) (fun x hx => hb x (List.mem_of_mem_take hx))
   rwa [hlen] at this
  rw [if_pos (by omega), if_pos (by omega), if_pos (by omega), hr, or_bit _ i _ (by omega) hv (hb _ (List.getElem_mem hil)), ht, rowV_snoc, hlen, show wrap64 ((i : Int) + 1) = ((i + 1 : Nat) : Int) by unfold wrap64; omega]
theorem rd_L1_at (b : List (List Int)) (i : Nat) (h : i < b.length) : rd_L1 b (i : Int) = b[i] := by simp [rd_L1, List.getD_eq_getElem?_getD, List.getElem?_eq_getElem h]
theorem all_inB (l : List Int) (lo hi : Int) : l.all (inB lo hi) = true ↔ ∀ x ∈ l, lo ≤ x ∧ x ≤ hi := by
 simp [List.all_eq_true, inB]
theorem newTrial_l0 (n : Nat) (hn : n ≤ 10) (b : List (List Int)) (hb : b.length ≤ 12) (al : Int) (m : Nat) : ∀ (i : Nat) (acc : List Int), i + m = b.length → acc.length ≤ i →
  Ev (fun k => tests_newTrialA.l0 k (n : Int) b (b.length : Int) (i : Int) acc al) (if (b.drop i).all (rowOkB n) = true then ([], [], [], acc ++ onesOf (b.drop i), al, 0) else ([], [], [], [], 0, 2)) := by
 induction m with
 | zero =>
  intro i acc hi ha
  obtain rfl : i = b.length := by omega
  refine Ev.step (f := fun _ => some _) (fun k => ?_) (Ev.now _)
  simp only [tests_newTrialA.l0]
  rw [if_neg (by omega), List.drop_length]
  simp [onesOf]
 | succ m ih =>
  intro i acc hi ha
  have hil : i < b.length := by omega
  have hdr : b.drop i = b[i] :: b.drop (i + 1) := List.drop_eq_getElem_cons hil
  rw [hdr, List.all_cons]
  have hw : wrap64 ((i : Int) + 1) = ((i + 1 : Nat) : Int) := by unfold wrap64; omega
  by_cases hlen : b[i].length = n
  ·by_cases hall : b[i].all (inB 0 1) = true
   ·have hok : rowOkB n b[i] = true := by unfold rowOkB; rw [hall, hlen]; simp
    rw [hok, Bool.true_and]
    have hbits : ∀ x ∈ b[i], x = 0 ∨ x = 1 := fun x hx => by have := (all_inB _ _ _).1 hall x hx; omega
    have h2 := ih (i + 1) (acc ++ [(rowV b[i] : Int)]) (by omega) (by simp; omega)
    rw [show ((acc ++ [(rowV b[i] : Int)]) ++ onesOf (b.drop (i + 1))) = acc ++ onesOf (b[i] :: b.drop (i + 1)) by unfold onesOf; rw [List.map_cons, List.append_assoc]; rfl] at h2
    have h1 := newTrial_l1 (n : Int) (b.length : Int) (i : Int) al b b[i] acc (by omega) hbits _ (by omega) (by rw [hw]; exact h2) b[i].length 0 (by omega)
    simp only [List.take_zero, rowV] at h1
    have h3 : Ev (fun k => tests_newTrialA.j3 k (n : Int) b[i] b (b.length : Int) (i : Int) false acc al) (if (b.drop (i + 1)).all (rowOkB n) = true then ([], [], [], acc ++ onesOf (b[i] :: b.drop (i + 1)), al, 0) else ([], [], [], [], 0, 2)) := by
     refine Ev.step (fun k => ?_) h1
     show tests_newTrialA.j3 (k + 1) (n : Int) b[i] b (b.length : Int) (i : Int) false acc al = _
     simp only [tests_newTrialA.j3]; rw [if_neg (by decide)]; rfl
    refine Ev.step (fun k => ?_) h3
    show tests_newTrialA.l0 (k + 1) (n : Int) b (b.length : Int) (i : Int) acc al = _
    simp only [tests_newTrialA.l0]
    rw [if_pos (by omega), if_pos (by omega), if_pos (by omega), rd_L1_at b i hil, if_pos (by omega)]
    unfold tests_newTrial_3.f
    rw [hall]; rfl
   ·have hok : rowOkB n b[i] = false := by unfold rowOkB; simp at hall ⊢; intro _; simpa using hall
    rw [hok, Bool.false_and, if_neg (by decide)]
    have h3 : Ev (fun k => tests_newTrialA.j3 k (n : Int) b[i] b (b.length : Int) (i : Int) true acc al) (([] : List Int), ([] : List (List Int)), ([] : List Int), ([] : List Int), (0 : Int), (2 : Int)) := by
     refine Ev.step (f := fun _ => some _) (fun k => ?_) (Ev.now _)
     simp only [tests_newTrialA.j3, if_true]
    refine Ev.step (fun k => ?_) h3
    show tests_newTrialA.l0 (k + 1) (n : Int) b (b.length : Int) (i : Int) acc al = _
    simp only [tests_newTrialA.l0]
    rw [if_pos (by omega), if_pos (by omega), if_pos (by omega), rd_L1_at b i hil, if_pos (by omega)]
    unfold tests_newTrial_3.f
    rw [show b[i].all (inB 0 1) = false by simpa using hall]; rfl
  ·have hok : rowOkB n b[i] = false := by unfold rowOkB; simp [hlen]
   rw [hok, Bool.false_and, if_neg (by decide)]
   have h3 : Ev (fun k => tests_newTrialA.j3 k (n : Int) b[i] b (b.length : Int) (i : Int) true acc al) (([] : List Int), ([] : List (List Int)), ([] : List Int), ([] : List Int), (0 : Int), (2 : Int)) := by
    refine Ev.step (f := fun _ => some _) (fun k => ?_) (Ev.now _)
    simp only [tests_newTrialA.j3, if_true]
   refine Ev.step (fun k => ?_) h3
   show tests_newTrialA.l0 (k + 1) (n : Int) b (b.length : Int) (i : Int) acc al = _
   simp only [tests_newTrialA.l0]
   rw [if_pos (by omega), if_pos (by omega), if_pos (by omega), rd_L1_at b i hil, if_neg (by omega)]
theorem within_yes (n lo hi : Int) (h1 : lo ≤ n) (h2 : n ≤ hi) : tests_within.f n lo hi = some true := by
 unfold tests_within.f
 simp [h1, h2]
theorem within_no (n lo hi : Int) (h : ¬ (lo ≤ n ∧ n ≤ hi)) : tests_within.f n lo hi = some false := by
 unfold tests_within.f
 by_cases h1 : lo ≤ n
 ·have h2 : ¬ n ≤ hi := fun h2 => h ⟨h1, h2⟩
  simp [h1, h2]
 ·simp [h1]
theorem all_of (n : Nat) (h1 : 1 ≤ n) (h2 : n ≤ 10) : IntKind.u64.wrap ((shl .u64 1 (n : Int)) - 1) = ((2 ^ n : Nat) : Int) - 1 := by
 have hp : 2 ^ n ≤ 2 ^ 10 := Nat.pow_le_pow_right (by omega) (by omega)
 have hq : 0 < 2 ^ n := Nat.two_pow_pos n
 unfold shl
 have hm : min n IntKind.u64.bits = n := by simp [IntKind.bits]; omega
 rw [Int.toNat_natCast, hm]
 have hz : (1 * 2 ^ n : Int) = ((2 ^ n : Nat) : Int) := by simp
 rw [hz, IntKind.wrap_u64, IntKind.wrap_u64]
 omega
theorem newTrialA_all (a : List Int) (b : List (List Int)) (c : List Int) : Ev (fun k => tests_newTrialA.f k a b c) (if caseB a b c = true then ([], [], [], onesOf b, (2 ^ a.length : Nat) - 1, 0) else ([], [], [], [], 0, 2)) := by
 have bad : Ev (fun k => tests_newTrialA.j0 k (a.length : Int) true a b c) (([] : List Int), ([] : List (List Int)), ([] : List Int), ([] : List Int), (0 : Int), (2 : Int)) := by
  refine Ev.step (f := fun _ => some _) (fun k => ?_) (Ev.now _)
  simp only [tests_newTrialA.j0, if_true]
 unfold tests_newTrialA.f
 by_cases h1 : 1 ≤ a.length ∧ a.length ≤ 10
 ·have hwin : tests_within.f (a.length : Int) 1 10 = some true := within_yes _ _ _ (by omega) (by omega)
  rw [hwin]
  simp only [Option.bind_some, if_true]
  by_cases h2 : b.length ≤ 12
  ·simp only [if_neg (show ¬ ((b.length : Int) > 12) by omega)]
   by_cases h3 : c.length = b.length
   ·have e3 : ((c.length : Int) != (b.length : Int)) = false := by simp [h3]
    rw [e3]
    have hj1 : Ev (fun k => tests_newTrialA.j1 k (a.length : Int) true a b c) (([] : List Int), ([] : List (List Int)), ([] : List Int), ([] : List Int), (0 : Int), (2 : Int)) := by
     refine Ev.step (f := fun _ => some _) (fun k => ?_) (Ev.now _)
     simp only [tests_newTrialA.j1, if_true]
    by_cases h4 : a.all (inB 1 1000) = true
    ·by_cases h5 : c.all (inB 1 100) = true
     ·have hc : caseB a b c = b.all (rowOkB a.length) := by unfold caseB; rw [h4, h5]; simp [h1, h2, h3]
      rw [hc]
      have hl := newTrial_l0 a.length h1.2 b h2 ((2 ^ a.length : Nat) - 1) b.length 0 [] (by omega) (by simp)
      simp only [List.drop_zero, List.nil_append] at hl
      have hj2 : Ev (fun k => tests_newTrialA.j1 k (a.length : Int) false a b c) (if b.all (rowOkB a.length) = true then ([], [], [], onesOf b, ((2 ^ a.length : Nat) : Int) - 1, 0) else ([], [], [], [], 0, 2)) := by
       refine Ev.step (fun k => ?_) hl
       show tests_newTrialA.j1 (k + 1) (a.length : Int) false a b c = _
       simp only [tests_newTrialA.j1]; rw [if_neg (by decide), if_pos (by omega), all_of _ h1.1 h1.2]; rfl
      refine Ev.step (fun k => ?_) hj2
      show tests_newTrialA.j0 (k + 1) (a.length : Int) false a b c = _
      simp only [tests_newTrialA.j0]; rw [if_neg (by decide)]
      unfold tests_newTrial_1.f tests_newTrial_2.f
      rw [h4, h5]; simp
     ·have hc : caseB a b c = false := by unfold caseB; rw [show c.all (inB 1 100) = false by simpa using h5, Bool.and_false, Bool.false_and]
      rw [hc, if_neg (by decide)]
      refine Ev.step (fun k => ?_) hj1
      show tests_newTrialA.j0 (k + 1) (a.length : Int) false a b c = _
      simp only [tests_newTrialA.j0]; rw [if_neg (by decide)]
      unfold tests_newTrial_1.f tests_newTrial_2.f
      rw [h4, show c.all (inB 1 100) = false by simpa using h5]; simp
    ·have hc : caseB a b c = false := by unfold caseB; rw [show a.all (inB 1 1000) = false by simpa using h4]; simp
     rw [hc, if_neg (by decide)]
     refine Ev.step (fun k => ?_) hj1
     show tests_newTrialA.j0 (k + 1) (a.length : Int) false a b c = _
     simp only [tests_newTrialA.j0]; rw [if_neg (by decide)]
     unfold tests_newTrial_1.f
     rw [show a.all (inB 1 1000) = false by simpa using h4]; simp
   ·have e3 : ((c.length : Int) != (b.length : Int)) = true := by simp; omega
    have hc : caseB a b c = false := by unfold caseB; simp [h3]
    rw [e3, hc, if_neg (by decide)]
    exact bad
  ·have hc : caseB a b c = false := by unfold caseB; simp [h2]
   simp only [if_pos (show ((b.length : Int) > 12) by omega)]
   rw [hc, if_neg (by decide)]
   exact bad
 ·have hc : caseB a b c = false := by
   unfold caseB
   have : (decide (1 ≤ a.length) && decide (a.length ≤ 10)) = false := by simp; omega
   rw [this]; simp
  have hwin : tests_within.f (a.length : Int) 1 10 = some false := within_no _ _ _ (by omega)
  rw [hwin, hc, if_neg (by decide)]
  simp only [Option.bind_some]
  exact bad
theorem newTrial_all (a : List Int) (b : List (List Int)) (c : List Int) : Ev (fun k => tests_newTrial.f k a b c) (trialR a b c) := by
 unfold tests_newTrial.f
 refine Ev.bind (newTrialA_all a b c) ?_
 unfold trialR trialOf
 by_cases h : caseB a b c = true
 ·rw [if_pos h, if_pos h]; exact Ev.now _
 ·rw [if_neg h, if_neg h]; exact Ev.now _
end Go.Proofs.YtekmiepdodaidaaDoor.X
end

section
namespace Go.Proofs.YtekmiepdodaidaaDoor.X
open Go.RowKit Go.Proofs.YtekmiepdodaidaaDoorW.PrintWords Go.Proofs.YtekmiepdodaidaaDoorW.PrintLast Go.Proofs.YtekmiepdodaidaaDoorW.PrintMore
attribute [local go_sem] max2_int min2_int max_two min_two max_three min_three max_four min_four   -- for this text's walks alone
set_option linter.unusedVariables false
set_option linter.unusedSimpArgs false

def tests_faults_has.f (a0 : Int) (a1 : Int) : Option (Bool) := if 0 ≤ a1 then (some ((Go.bits .and .u64 (shr .u64 a0 a1) 1) == 1)) else (none)
set_option maxHeartbeats 8000000 in
set_option maxRecDepth 100000 in
theorem tests_faults_has.calls (a0 : Int) (a1 : Int) (r : Bool) (w : World) (h : tests_faults_has.f a0 a1 = some r) :
  Calls Tryd.prog 58 #[.int .u64 a0, .int .i64 a1] w fun e w' => e = .returned (.bool r) ∧ Drawn0 w w' := by
 have H : (if 0 ≤ a1 then (some ((Go.bits .and .u64 (shr .u64 a0 a1) 1) == 1)) else (none)) = some r := h
 clear h
 by_cases c3 : 0 ≤ a1
 ·rw [if_pos c3] at H
  have c3b0 := eq_true c3
  have c3b1 : decide (0 ≤ a1) = true := decide_eq_true c3
  clear c3
  obtain ⟨ji4, hji4⟩ : ∃ j_ : Int, (shr .u64 a0 a1) = j_ := ⟨_, rfl⟩
  replace H : (some ((Go.bits .and .u64 (ji4) 1) == 1)) = some r := by first | (rw [hji4] at H; exact H) | (simp only [hji4] at H ⊢; exact H)
  have hji4_ : (a0 / 2 ^ min a1.toNat 64) = ji4 := hji4
  have hji4z : a1 ≤ 64 → (a0 / 2 ^ a1.toNat) = ji4 := shr_small hji4
  obtain rfl := Option.some.inj H
  go_enter Tryd.func58, Tryd.ntmps58
  go_wp2
  go_ret
  exact ⟨by first | rfl | (simp; done) | (simp only [← hji4] <;> (first | rfl | simp)) | (simp [*]; done), by repeat (first | exact Drawn0.refl _ | apply Drawn0.step)⟩
 ·rw [if_neg c3] at H
  exact absurd H (by simp)

end Go.Proofs.YtekmiepdodaidaaDoor.X
end

section
/- slices.ContainsFunc over a trial's tests: does any tell two faults apart? -/
set_option linter.unusedVariables false
set_option linter.unusedSimpArgs false
namespace Go.Proofs.YtekmiepdodaidaaDoor.X
open Go.RowKit Go.Proofs.YtekmiepdodaidaaDoorW.PrintWords Go.Proofs.YtekmiepdodaidaaDoorW.PrintLast Go.Proofs.YtekmiepdodaidaaDoorW.PrintMore

/-- Is fault f in the set s? -/
def hasB (s f : Int) : Bool := (Go.bits .and .u64 (shr .u64 s f) 1) == 1
/-- Does the test s have the same result at a and b? -/
def sameB (a b s : Int) : Bool := hasB s a == hasB s b
theorem has_n (s f : Int) (w : World) (h0 : 0 ≤ f) : Calls Tryd.prog 58 #[.int .u64 s, .int .i64 f] w fun e w' => e = .returned (.bool (hasB s f)) ∧ w = w' := by
 have c3b0 := eq_true h0
 have c3b1 : decide (0 ≤ f) = true := decide_eq_true h0
 unfold hasB
 obtain ⟨ji4, hji4⟩ : ∃ j_ : Int, (shr .u64 s f) = j_ := ⟨_, rfl⟩
 rw [hji4]
 have hji4_ : (s / 2 ^ min f.toNat 64) = ji4 := hji4
 have hji4z : f ≤ 64 → (s / 2 ^ f.toNat) = ji4 := shr_small hji4
 clear h0
 go_enter Tryd.func58, Tryd.ntmps58
 go_wp2
 go_ret
 exact ⟨rfl, rfl⟩

set_option maxHeartbeats 4000000 in
set_option maxRecDepth 100000 in
theorem same67 (a b s : Int) (B C : Nat) (w : World) (h0 : 0 ≤ a) (h1 : 0 ≤ b) (hb : w.cell? ⟨B, 0, none⟩ = some (.int .i64 a)) (hc : w.cell? ⟨C, 0, none⟩ = some (.int .i64 b)) :
  Calls Tryd.prog 67 #[.int .u64 s, .pointer (some ⟨B, 0, none⟩), .pointer (some ⟨C, 0, none⟩)] w fun e w' => e = .returned (.bool (!sameB a b s)) ∧ Drawn0 w w' := by
 have H0 := Aside0.mk h0
 have H1 := Aside0.mk h1
 clear h0 h1
 obtain ⟨p, hp⟩ : ∃ p, hasB s a = p := ⟨_, rfl⟩
 obtain ⟨q, hq⟩ : ∃ q, hasB s b = q := ⟨_, rfl⟩
 have HP := Aside0.mk hp
 have HQ := Aside0.mk hq
 have HE := Aside0.mk (show (!sameB a b s) = (p != q) by unfold sameB; rw [hp, hq]; rfl)
 clear hp hq
 rw [HE.out]
 go_enter Tryd.func67, Tryd.ntmps67
 go_wp2
 refine start_ (n := 8) (S := fun w' => w'.cell? ⟨B, 0, none⟩ = some (.int .i64 a) ∧ w'.cell? ⟨C, 0, none⟩ = some (.int .i64 b)) (ds := []) #[false, false, false, false, false, false, false, false] (by kernel_rfl) rfl rfl ⟨hb, hc⟩ (fun hHeld => ?_)
 clear hb hc
 generalize hwd : w.drew = w1 at hHeld ⊢
 have HWD := Aside0.mk hwd
 clear hwd
 refine pure_ (i := 0) (N := (some 5)) (v := ?_) (a' := ?_) #[true, false, false, false, false, false, false, false] rfl rfl (by kernel_rfl) (fun _ _ _ h => h) (Or.inl ⟨by rfl, ?_⟩) ?_ ?_
 rotate_left
 ·intro w'
  go_simp
  with_reducible rfl
 rotate_left
 ·simp only [Act.put, List.setIfInBounds_toArray, List.set_cons_zero, List.set_cons_succ, i64_w, i32_w]
  rfl
 refine pure_ (i := 3) (N := (some 8)) (v := ?_) (a' := ?_) #[true, false, false, true, false, false, false, false] rfl rfl (by kernel_rfl) (fun _ _ _ h => h) (Or.inl ⟨by rfl, ?_⟩) ?_ ?_
 rotate_left
 ·intro w'
  go_simp
  with_reducible rfl
 rotate_left
 ·simp only [Act.put, List.setIfInBounds_toArray, List.set_cons_zero, List.set_cons_succ, i64_w, i32_w]
  rfl
 refine take_ (i := 1) (N := (some 6)) (v := ?_) (a' := ?_) #[true, true, false, true, false, false, false, false] rfl rfl (by kernel_rfl) (fun _ _ _ h => h) (Or.inl ⟨by rfl, ?_⟩) hHeld ?_ ?_
 rotate_left
 ·rintro w' ⟨s0, s1⟩
  go_simp
  with_reducible rfl
 rotate_left
 ·simp only [Act.put, List.setIfInBounds_toArray, List.set_cons_zero, List.set_cons_succ, i64_w, i32_w]
  rfl
 refine take_ (i := 4) (N := (some 9)) (v := ?_) (a' := ?_) #[true, true, false, true, true, false, false, false] rfl rfl (by kernel_rfl) (fun _ _ _ h => h) (Or.inl ⟨by rfl, ?_⟩) hHeld ?_ ?_
 rotate_left
 ·rintro w' ⟨s0, s1⟩
  go_simp
  with_reducible rfl
 rotate_left
 ·simp only [Act.put, List.setIfInBounds_toArray, List.set_cons_zero, List.set_cons_succ, i64_w, i32_w]
  rfl
 refine one_ (i := 2) (N := (some 7)) #[true, true, true, true, true, false, false, false] rfl rfl (by kernel_rfl) (by decide) (fun K hK => ?_)
 refine goes_ Tryd.func58 (by kernel_rfl) rfl #[.int .u64 s, .int .i64 a] (by rfl) rfl rfl (by (try simp only [List.map_toArray, List.map_cons, List.map_nil]); first | done | rfl) ?_
 refine (has_n s a _ H0.out).mono ?_
 rintro e w' ⟨rfl, rfl⟩
 rw [HP.out]
 refine ⟨_, rfl, ?_⟩
 refine hK.out _ _ hHeld (fun hHeld => ?_)
 clear hK K
 refine norm_ (a' := ?_) ?_ ?_
 rotate_left
 ·show Act.put _ (some 7) _ = _
  simp only [Act.put, List.setIfInBounds_toArray, List.set_cons_zero, List.set_cons_succ, i64_w, i32_w]
  rfl
 refine one_ (i := 5) (N := (some 10)) #[true, true, true, true, true, true, false, false] rfl rfl (by kernel_rfl) (by decide) (fun K hK => ?_)
 refine goes_ Tryd.func58 (by kernel_rfl) rfl #[.int .u64 s, .int .i64 b] (by rfl) rfl rfl (by (try simp only [List.map_toArray, List.map_cons, List.map_nil]); first | done | rfl) ?_
 refine (has_n s b _ H1.out).mono ?_
 rintro e w' ⟨rfl, rfl⟩
 rw [HQ.out]
 refine ⟨_, rfl, ?_⟩
 refine hK.out _ _ hHeld (fun hHeld => ?_)
 clear hK K
 refine norm_ (a' := ?_) ?_ ?_
 rotate_left
 ·show Act.put _ (some 10) _ = _
  simp only [Act.put, List.setIfInBounds_toArray, List.set_cons_zero, List.set_cons_succ, i64_w, i32_w]
  rfl
 refine pure_ (i := 6) (N := (some 11)) (v := ?_) (a' := ?_) #[true, true, true, true, true, true, true, false] rfl rfl (by kernel_rfl) (fun _ _ _ h => h) (Or.inl ⟨by rfl, ?_⟩) ?_ ?_
 rotate_left
 ·intro w'
  go_simp
  with_reducible rfl
 rotate_left
 ·simp only [Act.put, List.setIfInBounds_toArray, List.set_cons_zero, List.set_cons_succ, i64_w, i32_w]
  rfl
 refine pure_ (i := 7) (N := (some 4)) (v := ?_) (a' := ?_) #[true, true, true, true, true, true, true, true] rfl rfl (by kernel_rfl) (fun _ _ _ h => h) (Or.inl ⟨by rfl, ?_⟩) ?_ ?_
 rotate_left
 ·intro w'
  go_simp
  with_reducible rfl
 rotate_left
 ·simp only [Act.put, List.setIfInBounds_toArray, List.set_cons_zero, List.set_cons_succ, i64_w, i32_w]
  rfl
 refine done_ (by kernel_rfl) ?_
 go_wp2
 go_ret
 exact ⟨rfl, 1, HWD.out.symm⟩

/-- Where the first test stands that tells a and b apart. -/
def SomeTest (a b : Int) (l : List Int) (w : World) (e : Ending) (w' : World) : Prop := ∃ v : Int, e = .returned (.int .i64 v) ∧ Drawn0 w w' ∧ (0 ≤ v ↔ l.all (sameB a b) = false)
set_option maxHeartbeats 2000000 in
set_option maxRecDepth 100000 in
theorem idx67 (a b : Int) (B C : Nat) (A : Option Addr) (c : Nat) (l : List Int) (w : World) (h0 : 0 ≤ a) (h1 : 0 ≤ b) (hb : w.cell? ⟨B, 0, none⟩ = some (.int .i64 a)) (hc : w.cell? ⟨C, 0, none⟩ = some (.int .i64 b)) (hr : Kd.C (Kd.int .u64) w A l.length l) :
  Calls Tryd.prog 75 #[.slice A l.length c, .func (.func 67) #[] #[.pointer (some ⟨B, 0, none⟩), .pointer (some ⟨C, 0, none⟩)]] w (SomeTest a b l w) := by
 have HR := Aside0.mk hr
 have H0 := Aside0.mk h0
 have H1 := Aside0.mk h1
 have HCB := Aside0.mk hb
 have HCC := Aside0.mk hc
 have hm := Kd.C_max hr
 clear hr h0 h1 hb hc
 go_enter Tryd.func75, Tryd.ntmps75
 go_wp2
 go_loopg [8] l.length (fun kq v8 w' => ∃ k nd : Nat, v8 = .int .i64 k ∧ w' = w.drewN nd ∧ Aside0 (kq + k = l.length) ∧ Aside0 (∀ j, j < k → sameB a b (rd l j) = true))
 case atStart => exact ⟨0, 0, rfl, rfl, ⟨by omega⟩, ⟨by intro j hj; omega⟩⟩
 case round =>
  obtain ⟨k, nd, rfl, rfl, HK, HOK⟩ := hrel
  by_cases hk : k < l.length
  ·obtain ⟨ad, e1, hx⟩ := Kd.at_int HR.out (k : Int) (by omega) (by omega)
   cases e1
   simp only [Int.toNat_natCast] at hx
   obtain ⟨x, hx'⟩ : ∃ x, rd l (k : Int) = x := ⟨_, rfl⟩
   rw [hx'] at hx
   have HX := Aside0.mk hx'
   clear hx'
   obtain ⟨p, hp⟩ : ∃ p, sameB a b x = p := ⟨_, rfl⟩
   have HBX := Aside0.mk hp
   clear hp
   cases p with
   | true =>
    go_wp2_with (go_at_call 67; refine (same67 a b x B C _ H0.out H1.out (by simpa using HCB.out) (by simpa using HCC.out)).mono ?_; rintro e w' ⟨he, ⟨n2, rfl⟩⟩; rw [HBX.out] at he; subst he)
    go_roundg (gk - 1)
    case measure => have := HK.out; omega
    case rel => exact ⟨k + 1, _, by go_num, rfl, ⟨by have := HK.out; omega⟩, ⟨by intro j hj; by_cases e : j = k; (subst e; rw [HX.out]; exact HBX.out); exact HOK.out j (by omega)⟩⟩
   | false =>
    have HBAD := Aside0.mk (show l.all (sameB a b) = false by
     rw [List.all_eq_false]
     refine ⟨x, ?_, by rw [HBX.out]; decide⟩
     rw [← HX.out]; simp only [rd, Int.toNat_natCast, List.getD_eq_getElem?_getD, List.getElem?_eq_getElem hk, Option.getD_some]; exact List.getElem_mem hk)
    go_wp2_with (go_at_call 67; refine (same67 a b x B C _ H0.out H1.out (by simpa using HCB.out) (by simpa using HCC.out)).mono ?_; rintro e w' ⟨he, ⟨n2, rfl⟩⟩; rw [HBX.out] at he; subst he)
    go_ret
    exact ⟨k, rfl, ⟨_, rfl⟩, by simp [HBAD.out]⟩
  ·have hk' : k = l.length := by have := HK.out; omega
   have HALL := Aside0.mk (show l.all (sameB a b) = true by
    rw [List.all_eq_true]
    intro x hx
    obtain ⟨i, hi, rfl⟩ := List.getElem_of_mem hx
    have := HOK.out i (by omega)
    simpa [rd, List.getD_eq_getElem?_getD, List.getElem?_eq_getElem hi] using this)
   obtain rfl := hk'
   go_wp2
   go_ret
   exact ⟨-1, rfl, ⟨_, rfl⟩, by simp [HALL.out]⟩

theorem contains67 (a b : Int) (B C : Nat) (A : Option Addr) (c : Nat) (l : List Int) (w : World) (h0 : 0 ≤ a) (h1 : 0 ≤ b) (hb : w.cell? ⟨B, 0, none⟩ = some (.int .i64 a)) (hc : w.cell? ⟨C, 0, none⟩ = some (.int .i64 b)) (hr : Kd.C (Kd.int .u64) w A l.length l) :
  Calls Tryd.prog 66 #[.slice A l.length c, .func (.func 67) #[] #[.pointer (some ⟨B, 0, none⟩), .pointer (some ⟨C, 0, none⟩)]] w fun e w' => e = .returned (.bool (!l.all (sameB a b))) ∧ Drawn0 w w' := by
 have HR := Aside0.mk hr
 have H0 := Aside0.mk h0
 have H1 := Aside0.mk h1
 have HCB := Aside0.mk hb
 have HCC := Aside0.mk hc
 clear hr h0 h1 hb hc
 obtain ⟨p, hp⟩ : ∃ p, l.all (sameB a b) = p := ⟨_, rfl⟩
 rw [hp]
 have HBB := Aside0.mk hp
 clear hp
 go_enter Tryd.func66, Tryd.ntmps66
 go_wp2_with fail
 refine (idx67 a b B C A c l _ H0.out H1.out HCB.out HCC.out HR.out).mono ?_
 rintro e w' ⟨v, rfl, ⟨nd, rfl⟩, hv⟩
 rw [HBB.out] at hv
 cases p with
 | true =>
  have h0 : decide (0 ≤ v) = false := decide_eq_false (fun h => by simpa using hv.1 h)
  clear hv
  go_wp2
  go_ret
  exact ⟨rfl, ⟨_, rfl⟩⟩
 | false =>
  have h0 : decide (0 ≤ v) = true := decide_eq_true (hv.2 rfl)
  clear hv
  go_wp2
  go_ret
  exact ⟨rfl, ⟨_, rfl⟩⟩
end Go.Proofs.YtekmiepdodaidaaDoor.X
end

section
/- (trial).alike, by hand: the pairs of faults that no test tells apart, in their order. -/
set_option linter.unusedVariables false
set_option linter.unusedSimpArgs false
namespace Go.Proofs.YtekmiepdodaidaaDoor.X
open Go.RowKit Go.Proofs.YtekmiepdodaidaaDoorW.PrintWords Go.Proofs.YtekmiepdodaidaaDoorW.PrintLast Go.Proofs.YtekmiepdodaidaaDoorW.PrintMore

/-- The pairs of a with the m faults from b on. -/
def pairsIn (ones : List Int) (a : Nat) : Nat → Nat → List S53
 | _, 0 => []
 | b, m + 1 => (if ones.all (sameB a b) then [(⟨(a : Int), (b : Int)⟩ : S53)] else []) ++ pairsIn ones a (b + 1) m
/-- The pairs of the m faults from a on. -/
def pairsOut (ones : List Int) (n : Nat) : Nat → Nat → List S53
 | _, 0 => []
 | a, m + 1 => pairsIn ones a (a + 1) (n - (a + 1)) ++ pairsOut ones n (a + 1) m
def alikeL (ones : List Int) (n : Nat) : List S53 := pairsOut ones n 0 n
def tests_trial_alike.f (l0_0 : List Int) (l0_1 : List (List Int)) (l0_2 l0_3 : List Int) (a0_4 : Int) : Option (List S53) := if l0_0.length ≤ 10 then some (alikeL l0_3 l0_0.length) else none

theorem pairsIn_len (ones : List Int) (a : Nat) : ∀ m b, (pairsIn ones a b m).length ≤ m
 | 0, _ => by simp [pairsIn]
 | m + 1, b => by
  have := pairsIn_len ones a m (b + 1)
  unfold pairsIn
  rw [List.length_append]
  split <;> simp <;> omega
theorem pairsOut_len (ones : List Int) (n : Nat) : ∀ m a, (pairsOut ones n a m).length ≤ m * n
 | 0, _ => by simp [pairsOut]
 | m + 1, a => by
  have h1 := pairsOut_len ones n m (a + 1)
  have h2 := pairsIn_len ones a (n - (a + 1)) (a + 1)
  unfold pairsOut
  rw [List.length_append, Nat.add_mul]
  omega
theorem info53a : (Tryd.prog.info? 53).map (fun i => (i.zero, i.size, i.bytes)) = some (some (.agg #[(.int .i64 0), (.int .i64 0)]), 2, 16) := by kernel_rfl

theorem drawn_below {w w1 : World} (h : Drawn0 w w1) : Below w.heap.size w w1 := by
 obtain ⟨n, rfl⟩ := h
 exact pw_below_drewN (Below.refl _ _) n
set_option maxHeartbeats 8000000 in
set_option maxRecDepth 100000 in
theorem tests_trial_alike.calls (A0_0 : Option Addr) (c0_0 : Nat) (l0_0 : List Int) (A0_1 : Option Addr) (c0_1 : Nat) (l0_1 : List (List Int)) (A0_2 : Option Addr) (c0_2 : Nat) (l0_2 : List Int) (A0_3 : Option Addr) (c0_3 : Nat) (l0_3 : List Int) (a0_4 : Int) (r : List S53) (w : World)
  (hr0_0 : Kd.C (Kd.int .i64) w A0_0 l0_0.length l0_0) (hc0_0 : l0_0.length ≤ c0_0) (hr0_1 : Kd.C (Kd.slice 3 (Kd.int .i64)) w A0_1 l0_1.length l0_1) (hc0_1 : l0_1.length ≤ c0_1) (hr0_2 : Kd.C (Kd.int .i64) w A0_2 l0_2.length l0_2) (hc0_2 : l0_2.length ≤ c0_2) (hr0_3 : Kd.C (Kd.int .u64) w A0_3 l0_3.length l0_3) (hc0_3 : l0_3.length ≤ c0_3)
  (h : tests_trial_alike.f l0_0 l0_1 l0_2 l0_3 a0_4 = some r) :
  Calls Tryd.prog 49 #[.agg #[.slice A0_0 l0_0.length c0_0, .slice A0_1 l0_1.length c0_1, .slice A0_2 l0_2.length c0_2, .slice A0_3 l0_3.length c0_3, .int .u64 a0_4]] w fun e w' => ∃ v0_ : Value, e = .returned v0_ ∧ Kd.R k53 53 w' w.heap.size (fun _ => True) v0_ r ∧ Below w.heap.size w w' := by
 unfold tests_trial_alike.f at h
 by_cases hn10 : l0_0.length ≤ 10
 rotate_left
 ·rw [if_neg hn10] at h; cases h
 rw [if_pos hn10] at h
 have HT := Aside0.mk (Option.some.inj h)
 have HLEN := Aside0.mk (show r.length ≤ 100 by
  rw [← Option.some.inj h]
  have h1 := pairsOut_len l0_3 l0_0.length l0_0.length 0
  have h2 := Nat.mul_le_mul hn10 hn10
  unfold alikeL; omega)
 have HN := Aside0.mk hn10
 have HR3 := Aside0.mk hr0_3
 have hu53 := Tryd.underlying53
 have hu77 := Tryd.underlying77
 have hu25 := Tryd.underlying25
 clear h hn10 hr0_0 hc0_0 hr0_1 hc0_1 hr0_2 hc0_2 hr0_3 hc0_3
 have HB := Aside0.mk (Below.refl w.heap.size w)
 obtain ⟨n, hn⟩ : ∃ n, n = l0_0.length := ⟨_, rfl⟩
 rw [← hn] at HT HN
 go_enter Tryd.func49, Tryd.ntmps49
 go_upto_region 2 with (first | ((with_reducible refine gate_dst (N := 1) rfl ?_); refine box_event ?hg (N := 1) ?hd (cs := #[.slice A0_0 l0_0.length c0_0, .slice A0_1 l0_1.length c0_1, .slice A0_2 l0_2.length c0_2, .slice A0_3 l0_3.length c0_3, .int .u64 a0_4]) (t := 77) ?hr ?_; (case hd => rfl); (case hg => rfl); (case hr => first | (go_simp; done) | (go_simp; rfl)); intro g1 hg w1 hbox hb; have BK1 := Aside0.mk hbox; have HB1 := Aside0.mk (below_step HB.out hb); have G1 := Aside0.mk (show w.heap.size ≤ g1 by rw [hg]; exact Nat.le_refl _); clear HB hbox hb hg))
 have hcz0 : w1.cell? ⟨g1, 0, none⟩ = some (.slice A0_0 l0_0.length c0_0) := (blk_cell BK1.out 0).trans rfl
 have hfz0 := blk_frozen BK1.out 0
 go_wp2
 go_loopg [3, 10] n (fun kq v3 v10 W => ∃ (a : Nat) (out : List S53) (u : Value), v3 = u ∧ v10 = .int .i64 a ∧ Aside0 (kq + a = n) ∧ Aside0 (out ++ pairsOut l0_3 n a (n - a) = r) ∧ Aside0 (Kd.R k53 53 W w.heap.size (fun _ => True) u out) ∧ Aside0 (W.heap[g1]? = some (.cells #[.slice A0_0 l0_0.length c0_0, .slice A0_1 l0_1.length c0_1, .slice A0_2 l0_2.length c0_2, .slice A0_3 l0_3.length c0_3, .int .u64 a0_4] 77 (0, 0))) ∧ Aside0 (Below w.heap.size w W))
 case atStart => exact ⟨0, [], .slice none 0 0, rfl, rfl, ⟨by omega⟩, ⟨by simpa [alikeL] using HT.out⟩, ⟨Kd.R_nil _ _ _ _ _⟩, BK1, HB1⟩
 case round =>
  clear hcz0 hfz0 BK1 HB1
  obtain ⟨a, out, u, rfl, rfl, HK, HO1, HO, BK, HB⟩ := hrel
  by_cases ha : a < n
  ·have ca : ((a : Int) < (l0_0.length : Int)) = True := eq_true (by omega)
   have cb : decide ((a : Int) < (l0_0.length : Int)) = true := decide_eq_true (by omega)
   obtain ⟨gk0, hgk0⟩ : ∃ g, g = gk := ⟨_, rfl⟩
   have HGK := Aside0.mk hgk0
   clear hgk0
   go_upto_region 5 with (first | ((with_reducible refine gate_dst (N := 4) rfl ?_); refine box_event ?hg (N := 4) ?hd (cs := #[.int .i64 0]) (t := 3) ?hr ?_; (case hd => rfl); (case hg => rfl); (case hr => first | (go_simp; done) | (go_simp; rfl)); intro g4 hg w4 hbox hb; have B4 := Aside0.mk hbox; have BK4 := Aside0.mk (blk_below BK.out hb); have HO4 := Aside0.mk (Kd.R_below HO.out hb); have HB4 := Aside0.mk (below_step HB.out hb); have G4 := Aside0.mk (show w.heap.size ≤ g4 by rw [hg]; exact HB.out.size); have N14 := Aside0.mk (show g1 ≠ g4 by rw [hg]; exact Nat.ne_of_lt (blk_lt BK.out)); have hcz4 : w4.cell? ⟨g4, 0, none⟩ = some (.int .i64 0) := (blk_cell B4.out 0).trans rfl; have hfz4 := blk_frozen B4.out 0; clear BK HO HB hbox hb hg))
   go_wp2_with (first | ((with_reducible refine gate_dst (N := 5) rfl ?_); refine box_event ?hg (N := 5) ?hd (cs := #[.int .i64 0]) (t := 3) ?hr ?_; (case hd => rfl); (case hg => rfl); (case hr => first | (go_simp; done) | (go_simp; rfl)); intro g5 hg w5 hbox hb; have B5 := Aside0.mk hbox; have B45 := Aside0.mk (blk_below (blk_put (cs' := #[.int .i64 (a : Int)]) B4.out 0 (.int .i64 (a : Int)) rfl) hb); have BK5 := Aside0.mk (blk_below (blk_far BK4.out N14.out (.int .i64 (a : Int))) hb); have HO5 := Aside0.mk (Kd.R_below (Kd.R_mono (Kd.R_far (p := ⟨g4, 0, none⟩) (Kd.R_types HO4.out B4.out (by decide)) (fun _ hk => hk.2) (.int .i64 (a : Int))) (fun _ _ => trivial)) hb); have HB5 := Aside0.mk (below_step (below_set HB4.out G4.out) hb); have G5 := Aside0.mk (show w.heap.size ≤ g5 by rw [hg]; exact (below_set HB4.out G4.out).size); have N15 := Aside0.mk (show g1 ≠ g5 by rw [hg]; exact Nat.ne_of_lt (blk_lt (blk_far BK4.out N14.out (.int .i64 (a : Int))))); have N45 := Aside0.mk (show g4 ≠ g5 by rw [hg]; exact Nat.ne_of_lt (blk_lt (blk_put (cs' := #[.int .i64 (a : Int)]) B4.out 0 (.int .i64 (a : Int)) rfl))); have hcz5 : w5.cell? ⟨g5, 0, none⟩ = some (.int .i64 0) := (blk_cell B5.out 0).trans rfl; have hfz5 := blk_frozen B5.out 0; clear B4 BK4 HO4 HB4 hcz4 hfz4 hbox hb hg))
   have HW1 := Aside0.mk (show wrap64 ((a : Int) + 1) = ((a + 1 : Nat) : Int) by have := HN.out; unfold wrap64; omega)
   go_loopg [3, 5] (n - (a + 1)) (fun kq v3 v5 W => ∃ (b g5 : Nat) (out2 : List S53) (u3 : Value), v3 = u3 ∧ v5 = .pointer (some ⟨g5, 0, none⟩) ∧ Aside0 (kq + b = n) ∧ Aside0 (a < b) ∧ Aside0 (out2 ++ (pairsIn l0_3 a b (n - b) ++ pairsOut l0_3 n (a + 1) (n - (a + 1))) = r) ∧ Aside0 (Kd.R k53 53 W w.heap.size (fun _ => True) u3 out2) ∧ Aside0 (W.heap[g1]? = some (.cells #[.slice A0_0 l0_0.length c0_0, .slice A0_1 l0_1.length c0_1, .slice A0_2 l0_2.length c0_2, .slice A0_3 l0_3.length c0_3, .int .u64 a0_4] 77 (0, 0))) ∧ Aside0 (W.heap[g4]? = some (.cells #[.int .i64 (a : Int)] 3 (0, 0))) ∧ Aside0 (W.heap[g5]? = some (.cells #[.int .i64 (b : Int)] 3 (0, 0))) ∧ Aside0 (g1 ≠ g5) ∧ Aside0 (g4 ≠ g5) ∧ Aside0 (w.heap.size ≤ g5) ∧ Aside0 (Below w.heap.size w W))
   case atStart =>
    refine ⟨a + 1, g5, out, _, rfl, rfl, ⟨by omega⟩, ⟨by omega⟩, ⟨?_⟩, ⟨?_⟩, ⟨blk_far BK5.out N15.out _⟩, ⟨blk_far B45.out N45.out _⟩, ⟨blk_put B5.out 0 _ (by rw [HW1.out]; rfl)⟩, N15, N45, G5, ⟨below_set HB5.out G5.out⟩⟩
    ·have e := HO1.out
     rw [show n - a = (n - (a + 1)) + 1 by omega] at e
     exact e
    ·exact Kd.R_mono (Kd.R_far (p := ⟨g5, 0, none⟩) (Kd.R_types HO5.out B5.out (by decide)) (fun _ hk => hk.2) _) (fun _ _ => trivial)
   case round =>
    clear hcz5 hfz5 B5 B45 BK5 HO5 HB5 G5 N15 N45
    obtain ⟨b, g5, out2, u3, rfl, rfl, HK2, HAB, HO2, HO6, BK6, B46, B56, N15, N45, G5, HB6⟩ := hrel
    have hcz5 : wr.cell? ⟨g5, 0, none⟩ = some (.int .i64 (b : Int)) := (blk_cell B56.out 0).trans rfl
    have hfz5 := blk_frozen B56.out 0
    have hcz0 : wr.cell? ⟨g1, 0, none⟩ = some (.slice A0_0 l0_0.length c0_0) := (blk_cell BK6.out 0).trans rfl
    have hcz3 : wr.cell? ⟨g1, 3, none⟩ = some (.slice A0_3 l0_3.length c0_3) := (blk_cell BK6.out 3).trans rfl
    have hcz4 : wr.cell? ⟨g4, 0, none⟩ = some (.int .i64 (a : Int)) := (blk_cell B46.out 0).trans rfl
    have hfz0 := blk_frozen BK6.out 0
    have hfz3 := blk_frozen BK6.out 3
    have hfz4 := blk_frozen B46.out 0
    by_cases hb : b < n
    ·have ca2 : ((b : Int) < (l0_0.length : Int)) = True := eq_true (by omega)
     have cb2 : decide ((b : Int) < (l0_0.length : Int)) = true := decide_eq_true (by omega)
     have HL6 := Aside0.mk (show out2.length ≤ 100 by have h1 := HLEN.out; rw [← HO2.out] at h1; simp only [List.length_append] at h1; omega)
     obtain ⟨sm, hsm⟩ : ∃ sm, l0_3.all (sameB a b) = sm := ⟨_, rfl⟩
     have HSM := Aside0.mk hsm
     clear hsm
     cases sm with
     | true =>
      obtain ⟨y7, hy7⟩ : ∃ y, y = out2 ++ [(⟨(a : Int), (b : Int)⟩ : S53)] := ⟨_, rfl⟩
      have Ny7 := Aside0.mk hy7
      clear hy7
      go_wp2_with (first | (go_at_call 66; refine (contains67 a b g4 g5 A0_3 c0_3 l0_3 _ (by omega) (by omega) hcz4 hcz5 (Kd.C_below HR3.out HB6.out)).mono ?_; rintro e w9 ⟨he, hdr⟩; rw [HSM.out] at he; subst he; have hb := drawn_below hdr; have BK9 := Aside0.mk (blk_below BK6.out hb); have B49 := Aside0.mk (blk_below B46.out hb); have B59 := Aside0.mk (blk_below B56.out hb); have HO9 := Aside0.mk (Kd.R_below HO6.out hb); have HB9 := Aside0.mk (below_step HB6.out hb); clear BK6 B46 B56 HO6 HB6 hcz0 hcz3 hcz4 hcz5 hfz0 hfz3 hfz4 hfz5 hb hdr; have hcz5 : w9.cell? ⟨g5, 0, none⟩ = some (.int .i64 (b : Int)) := (blk_cell B59.out 0).trans rfl; have hfz5 := blk_frozen B59.out 0; have hcz4 : w9.cell? ⟨g4, 0, none⟩ = some (.int .i64 (a : Int)) := (blk_cell B49.out 0).trans rfl; have hfz4 := blk_frozen B49.out 0) | ((with_reducible refine gate_builtin (b := .append) (xs := #[.tmp 28, .tmp 32]) rfl ?_); at_builtin; refine Kd.R_append k53 (w0 := w) w.heap.size rfl (.tmp 28) (.tmp 32) 33 53 (.agg #[(.int .i64 0), (.int .i64 0)]) 16 rfl Tryd.underlying33 info53a rfl (by decide) (by omega) u3 out2 (⟨(a : Int), (b : Int)⟩ : S53) [.int .i64 (a : Int), .int .i64 (b : Int)] (fun _ => True) (fun _ => False) rfl rfl ?aP (fun _ hk => hk.elim) ?aF ?aO ?aB ?aS ?aL ?_; (case aP => exact k53_mkM _ _ _ (⟨(a : Int), (b : Int)⟩ : S53)); (case aB => exact (by repeat (first | (with_reducible first | exact HB9.out | apply below_alloc | apply pw_below_drewN | apply below_drew1) | exact HB9.out))); (case aF => exact (fun _ _ => trivial)); (case aO => exact (by (with_reducible repeat (first | apply Kd.R_alloc | apply Kd.R_drewN | apply Kd.R_drew)); exact HO9.out)); (case aS => exact (below_size (by repeat (first | (with_reducible first | exact HB9.out | apply below_alloc | apply pw_below_drewN | apply below_drew1) | exact HB9.out)))); (case aL => have := HL6.out; omega); intro v7 w7 ho hb hg hat; rw [← Ny7.out] at ho; have BK7 := Aside0.mk (blk_grown BK9.out hg (Kd.R_ne HO9.out BK9.out (by decide))); have B47 := Aside0.mk (blk_grown B49.out hg (Kd.R_ne HO9.out B49.out (by decide))); have B57 := Aside0.mk (blk_grown B59.out hg (Kd.R_ne HO9.out B59.out (by decide))); have HO7 := Aside0.mk ho; have HB7 := Aside0.mk hb; clear BK9 B49 B59 HO9 HB9 hcz4 hfz4 hcz5 hfz5 ho hb hg hat; obtain ⟨Ao7, co7, eo7⟩ := Kd.R_slice HO7.out; subst eo7; have hcz5 : w7.cell? ⟨g5, 0, none⟩ = some (.int .i64 (b : Int)) := (blk_cell B57.out 0).trans rfl; have hfz5 := blk_frozen B57.out 0) | ((with_reducible refine gate_dst (N := 5) rfl ?_); refine box_event ?hg (N := 5) ?hd (cs := #[.int .i64 0]) (t := 3) ?hr ?_; (case hd => rfl); (case hg => rfl); (case hr => first | (go_simp; done) | (go_simp; rfl)); intro g8 hg w8 hbox hb; have B8 := Aside0.mk hbox; have BK8 := Aside0.mk (blk_below BK7.out hb); have B48 := Aside0.mk (blk_below B47.out hb); have HO8 := Aside0.mk (Kd.R_below HO7.out hb); have HB8 := Aside0.mk (below_step HB7.out hb); have G8 := Aside0.mk (show w.heap.size ≤ g8 by rw [hg]; exact HB7.out.size); have N18 := Aside0.mk (show g1 ≠ g8 by rw [hg]; exact Nat.ne_of_lt (blk_lt BK7.out)); have N48 := Aside0.mk (show g4 ≠ g8 by rw [hg]; exact Nat.ne_of_lt (blk_lt B47.out)); have hcz8 : w8.cell? ⟨g8, 0, none⟩ = some (.int .i64 0) := (blk_cell B8.out 0).trans rfl; have hfz8 := blk_frozen B8.out 0; clear BK7 B47 B57 HO7 HB7 hcz5 hfz5 hbox hb hg))
      go_roundg (gk - 1)
      case measure => have := HK2.out; omega
      case rel =>
       rw [show wrap64 ((b : Int) + 1) = ((b + 1 : Nat) : Int) from by have := HN.out; unfold wrap64; omega]
       exact ⟨b + 1, g8, y7, _, rfl, rfl, ⟨by have := HK2.out; omega⟩, ⟨by have := HAB.out; omega⟩, ⟨by have e := HO2.out; rw [show n - b = (n - (b + 1)) + 1 by omega] at e; unfold pairsIn at e; rw [HSM.out] at e; rw [Ny7.out]; simpa using e⟩, ⟨Kd.R_mono (Kd.R_far (p := ⟨g8, 0, none⟩) (Kd.R_mono (Kd.R_far (p := ⟨g8, 0, none⟩) (Kd.R_types HO8.out B8.out (by decide)) (fun _ hk => hk.2) (.int .i64 (b : Int))) (fun k hk => hk)) (fun _ hk => hk.2) (.int .i64 ((b + 1 : Nat) : Int))) (fun _ _ => trivial)⟩, ⟨blk_far (blk_far BK8.out N18.out (.int .i64 (b : Int))) N18.out (.int .i64 ((b + 1 : Nat) : Int))⟩, ⟨blk_far (blk_far B48.out N48.out (.int .i64 (b : Int))) N48.out (.int .i64 ((b + 1 : Nat) : Int))⟩, ⟨blk_put (cs := #[.int .i64 (b : Int)]) (blk_put (cs := #[.int .i64 0]) B8.out 0 (.int .i64 (b : Int)) rfl) 0 (.int .i64 ((b + 1 : Nat) : Int)) rfl⟩, N18, N48, G8, ⟨below_set (below_set HB8.out G8.out) G8.out⟩⟩
     | false =>
      go_wp2_with (first | (go_at_call 66; refine (contains67 a b g4 g5 A0_3 c0_3 l0_3 _ (by omega) (by omega) hcz4 hcz5 (Kd.C_below HR3.out HB6.out)).mono ?_; rintro e w9 ⟨he, hdr⟩; rw [HSM.out] at he; subst he; have hb := drawn_below hdr; have BK9 := Aside0.mk (blk_below BK6.out hb); have B49 := Aside0.mk (blk_below B46.out hb); have B59 := Aside0.mk (blk_below B56.out hb); have HO9 := Aside0.mk (Kd.R_below HO6.out hb); have HB9 := Aside0.mk (below_step HB6.out hb); clear BK6 B46 B56 HO6 HB6 hcz0 hcz3 hcz4 hcz5 hfz0 hfz3 hfz4 hfz5 hb hdr; have hcz5 : w9.cell? ⟨g5, 0, none⟩ = some (.int .i64 (b : Int)) := (blk_cell B59.out 0).trans rfl; have hfz5 := blk_frozen B59.out 0; have hcz4 : w9.cell? ⟨g4, 0, none⟩ = some (.int .i64 (a : Int)) := (blk_cell B49.out 0).trans rfl; have hfz4 := blk_frozen B49.out 0) | ((with_reducible refine gate_dst (N := 5) rfl ?_); refine box_event ?hg (N := 5) ?hd (cs := #[.int .i64 0]) (t := 3) ?hr ?_; (case hd => rfl); (case hg => rfl); (case hr => first | (go_simp; done) | (go_simp; rfl)); intro g8 hg w8 hbox hb; have B8 := Aside0.mk hbox; have BK8 := Aside0.mk (blk_below BK9.out hb); have B48 := Aside0.mk (blk_below B49.out hb); have HO8 := Aside0.mk (Kd.R_below HO9.out hb); have HB8 := Aside0.mk (below_step HB9.out hb); have G8 := Aside0.mk (show w.heap.size ≤ g8 by rw [hg]; exact HB9.out.size); have N18 := Aside0.mk (show g1 ≠ g8 by rw [hg]; exact Nat.ne_of_lt (blk_lt BK9.out)); have N48 := Aside0.mk (show g4 ≠ g8 by rw [hg]; exact Nat.ne_of_lt (blk_lt B49.out)); have hcz8 : w8.cell? ⟨g8, 0, none⟩ = some (.int .i64 0) := (blk_cell B8.out 0).trans rfl; have hfz8 := blk_frozen B8.out 0; clear BK9 B49 B59 HO9 HB9 hcz5 hfz5 hcz4 hfz4 hbox hb hg))
      go_roundg (gk - 1)
      case measure => have := HK2.out; omega
      case rel =>
       rw [show wrap64 ((b : Int) + 1) = ((b + 1 : Nat) : Int) from by have := HN.out; unfold wrap64; omega]
       exact ⟨b + 1, g8, out2, _, rfl, rfl, ⟨by have := HK2.out; omega⟩, ⟨by have := HAB.out; omega⟩, ⟨by have e := HO2.out; rw [show n - b = (n - (b + 1)) + 1 by omega] at e; unfold pairsIn at e; rw [HSM.out] at e; simpa using e⟩, ⟨Kd.R_mono (Kd.R_far (p := ⟨g8, 0, none⟩) (Kd.R_mono (Kd.R_far (p := ⟨g8, 0, none⟩) (Kd.R_types HO8.out B8.out (by decide)) (fun _ hk => hk.2) (.int .i64 (b : Int))) (fun k hk => hk)) (fun _ hk => hk.2) (.int .i64 ((b + 1 : Nat) : Int))) (fun _ _ => trivial)⟩, ⟨blk_far (blk_far BK8.out N18.out (.int .i64 (b : Int))) N18.out (.int .i64 ((b + 1 : Nat) : Int))⟩, ⟨blk_far (blk_far B48.out N48.out (.int .i64 (b : Int))) N48.out (.int .i64 ((b + 1 : Nat) : Int))⟩, ⟨blk_put (cs := #[.int .i64 (b : Int)]) (blk_put (cs := #[.int .i64 0]) B8.out 0 (.int .i64 (b : Int)) rfl) 0 (.int .i64 ((b + 1 : Nat) : Int)) rfl⟩, N18, N48, G8, ⟨below_set (below_set HB8.out G8.out) G8.out⟩⟩
    ·have cb2 : decide ((b : Int) < (l0_0.length : Int)) = false := decide_eq_false (by omega)
     have hc2 : ¬ ((b : Int) < (l0_0.length : Int)) := by omega
     have HK3 := Aside0.mk (show a + 1 + (gk0 - 1) = n by have := HK.out; have := HGK.out; have := HK2.out; omega)
     have HE2 : Aside0 (out2 ++ pairsOut l0_3 n (a + 1) (n - (a + 1)) = r) := by
      have e := HO2.out
      rw [show n - b = 0 by omega] at e
      exact ⟨by simpa [pairsIn] using e⟩
     go_wp2
     go_roundg (gk0 - 1)
     case measure => have := HK.out; have := HGK.out; omega
     case rel => exact ⟨a + 1, out2, _, rfl, by have := HN.out; have e : wrap64 ((a : Int) + 1) = ((a + 1 : Nat) : Int) := (by unfold wrap64; omega); rw [e], ⟨by have := HK3.out; omega⟩, HE2, HO6, BK6, HB6⟩
  ·have cb : decide ((a : Int) < (l0_0.length : Int)) = false := decide_eq_false (by omega)
   have hc : ¬ ((a : Int) < (l0_0.length : Int)) := by omega
   have HE : out = r := by
    have e := HO1.out
    rw [show n - a = 0 by omega] at e
    simpa [pairsOut] using e
   subst HE
   obtain ⟨Ao, co, eo⟩ := Kd.R_slice HO.out
   subst eo
   go_wp2
   go_ret
   exact ⟨_, rfl, HO.out, HB.out⟩
end Go.Proofs.YtekmiepdodaidaaDoor.X
end

section
/- Layer 7, plain: faults of a set; a set of several faults that differ is divided by some test. -/
set_option linter.unusedVariables false
namespace Go.Proofs.YtekmiepdodaidaaDoor.X
open Go.RowKit Go.Proofs.YtekmiepdodaidaaDoorW.PrintWords Go.Proofs.YtekmiepdodaidaaDoorW.PrintLast Go.Proofs.YtekmiepdodaidaaDoorW.PrintMore

theorem hasB_nat (v i : Nat) (hv : v < 1024) : hasB (v : Int) (i : Int) = v.testBit i := by
 unfold hasB shr
 by_cases hi : i ≤ 64
 ·have hm : min (i : Int).toNat IntKind.u64.bits = i := by simp [IntKind.bits]; omega
  rw [hm]
  have hq : (v : Int) / 2 ^ i = ((v / 2 ^ i : Nat) : Int) := by simp
  have hle : v / 2 ^ i ≤ v := Nat.div_le_self _ _
  rw [hq, Nat.testBit_eq_decide_div_mod_eq]
  generalize v / 2 ^ i = q at hle ⊢
  clear hq hm
  rw [u64_and (q : Int) 1 (by omega) (by omega) (by omega) (by omega)]
  simp only [Int.toNat_natCast, Int.toNat_one]
  rw [Nat.and_one_is_mod]
  by_cases h1 : q % 2 = 1
  ·simp [h1]
  ·have h0 : q % 2 = 0 := by omega
   simp [h0]
 ·have hm : min (i : Int).toNat IntKind.u64.bits = 64 := by simp [IntKind.bits]; omega
  rw [hm]
  have hq : (v : Int) / 2 ^ 64 = 0 := by omega
  rw [hq]
  have hb : v.testBit i = false := Nat.testBit_lt_two_pow (Nat.lt_of_lt_of_le hv (show 1024 ≤ 2 ^ i from Nat.le_trans (by decide : 1024 ≤ 2 ^ 64) (Nat.pow_le_pow_right (by omega) (by omega))))
  rw [hb]
  decide
def cntB (v : Nat) : Nat := ((List.range 10).filter fun i => v.testBit i).length
set_option maxRecDepth 100000 in
theorem pcount_nat : ∀ v, v < 1024 → pcount (v : Nat) = (cntB v : Nat) := by decide +kernel
set_option maxRecDepth 100000 in
theorem two_bits : ∀ v, v < 1024 → v ≠ 0 → cntB v ≠ 1 → ∃ a, a < 10 ∧ ∃ b, b < 10 ∧ a < b ∧ v.testBit a = true ∧ v.testBit b = true := by decide +kernel
theorem bSub_nat {v x : Nat} (hv : v < 1024) (hx : x < 1024) : bSub (v : Int) (x : Int) = ((v &&& (18446744073709551615 - x) : Nat) : Int) := by
 unfold bSub
 have := u64_andNot (v : Int) (x : Int) (by omega) (by omega) (by omega) (by omega)
 simpa using this
theorem not_bit {x i : Nat} (hx : x < 1024) (hi : i < 64) : (18446744073709551615 - x).testBit i = !x.testBit i := by
 have h1 : 18446744073709551615 - x = 2 ^ 64 - (x + 1) := by omega
 rw [h1, Nat.testBit_two_pow_sub_succ (by omega)]
 simp [hi]
/-- A test that tells two faults of a set apart divides it. -/
theorem split_of (v x a b : Nat) (hv : v < 1024) (hx : x < 1024) (ha : a < 64) (hb : b < 64) (h1 : v.testBit a = true) (h2 : v.testBit b = true) (h3 : x.testBit a ≠ x.testBit b) : splitB (v : Int) (x : Int) = true := by
 have e1 : bAnd (v : Int) (x : Int) = ((v &&& x : Nat) : Int) := bAnd_nat (s := v) (x := x) (by unfold SetB; omega) (by unfold SetB; omega)
 have e2 := bSub_nat hv hx
 have key : ∀ c d : Nat, c < 64 → d < 64 → v.testBit c = true → v.testBit d = true → x.testBit c = true → x.testBit d = false → v &&& x ≠ 0 ∧ v &&& (18446744073709551615 - x) ≠ 0 := by
  intro c d hc hd vc vd xc xd
  constructor
  ·intro h
   have := congrArg (·.testBit c) h
   simp [Nat.testBit_and, vc, xc] at this
  ·intro h
   have := congrArg (·.testBit d) h
   simp [Nat.testBit_and, vd, not_bit hx hd, xd] at this
 have hk : v &&& x ≠ 0 ∧ v &&& (18446744073709551615 - x) ≠ 0 := by
  cases hxa : x.testBit a
  ·cases hxb : x.testBit b
   ·rw [hxa, hxb] at h3; exact absurd rfl h3
   ·exact key b a hb ha h2 h1 hxb hxa
  ·cases hxb : x.testBit b
   ·exact key a b ha hb h1 h2 hxa hxb
   ·rw [hxa, hxb] at h3; exact absurd rfl h3
 unfold splitB
 rw [e1, e2]
 simp
 omega
theorem pickB_first {c : Int → Int → Int} {s : Int} : ∀ (l : List Int) (k : Nat) (b : Int × Int), (b.1 = -1 ∨ 0 ≤ b.1) →
  ((pickB c s k l b).1 = b.1 ∨ ∃ j, j < l.length ∧ (pickB c s k l b).1 = (k + j : Nat) ∧ splitB s (l.getD j 0) = true) ∧ ((0 ≤ b.1 ∨ ∃ x ∈ l, splitB s x = true) → 0 ≤ (pickB c s k l b).1)
 | [], k, b, hb => ⟨.inl rfl, fun h => by
   rcases h with h | ⟨x, hx, _⟩
   ·exact h
   ·cases hx⟩
 | x :: xs, k, b, hb => by
  unfold pickB
  by_cases hx : splitB s x = true
  ·rw [if_pos hx]
   by_cases ht : b.1 < 0 ∨ c k x < b.2
   ·rw [if_pos ht]
    obtain ⟨h1, h2⟩ := pickB_first (c := c) (s := s) xs (k + 1) ((k : Int), c k x) (.inr (by simp))
    refine ⟨.inr ?_, fun _ => h2 (.inl (by simp))⟩
    rcases h1 with h1 | ⟨j, hj, h1, h3⟩
    ·exact ⟨0, by simp, by simpa using h1, by simpa using hx⟩
    ·exact ⟨j + 1, by simp; omega, by rw [show k + (j + 1) = k + 1 + j by omega]; exact h1, by simpa using h3⟩
   ·rw [if_neg ht]
    obtain ⟨h1, h2⟩ := pickB_first (c := c) (s := s) xs (k + 1) b hb
    refine ⟨?_, fun _ => h2 (.inl (by omega))⟩
    rcases h1 with h1 | ⟨j, hj, h1, h3⟩
    ·exact .inl h1
    ·exact .inr ⟨j + 1, by simp; omega, by rw [show k + (j + 1) = k + 1 + j by omega]; exact h1, by simpa using h3⟩
  ·rw [if_neg hx]
   obtain ⟨h1, h2⟩ := pickB_first (c := c) (s := s) xs (k + 1) b hb
   refine ⟨?_, fun h => h2 ?_⟩
   ·rcases h1 with h1 | ⟨j, hj, h1, h3⟩
    ·exact .inl h1
    ·exact .inr ⟨j + 1, by simp; omega, by rw [show k + (j + 1) = k + 1 + j by omega]; exact h1, by simpa using h3⟩
   ·rcases h with h | ⟨y, hy, hs⟩
    ·exact .inl h
    ·rcases List.mem_cons.1 hy with rfl | hy
     ·exact absurd hs hx
     ·exact .inr ⟨y, hy, hs⟩
/-- The chosen test divides the set. -/
theorem chs_test (mf : Int → Int → Int → Int → Int) (ones : List Int) (ho : ∀ x ∈ ones, SetB x) (s : Int) (hs : SetB s) (hx : ∃ x ∈ ones, splitB s x = true) :
  0 ≤ (chs mf ones s).1 ∧ (chs mf ones s).1 < ones.length ∧ rd ones (chs mf ones s).1 ∈ ones ∧ splitB s (rd ones (chs mf ones s).1) = true := by
 rw [chs_eq mf ones ho s hs]
 unfold chsStep
 obtain ⟨h1, h2⟩ := pickB_first (c := fun k x => mf k s (cstB (chs mf ones) (bSub s x)) (cstB (chs mf ones) (bAnd s x))) (s := s) ones 0 (-1, 0) (.inl rfl)
 have h3 := h2 (.inr hx)
 rcases h1 with h1 | ⟨j, hj, h1, h4⟩
 ·rw [show ((0 : Nat) : Int) = 0 from rfl] at h1 h3
  rw [h1] at h3
  exact absurd h3 (by decide)
 ·rw [show ((0 : Nat) : Int) = 0 from rfl] at h1 h3
  rw [h1]
  have hr : rd ones ((0 + j : Nat) : Int) = ones.getD j 0 := by simp [rd]
  rw [hr]
  refine ⟨by omega, by omega, ?_, h4⟩
  rw [List.getD_eq_getElem?_getD, List.getElem?_eq_getElem hj]
  exact List.getElem_mem hj
theorem pairsIn_none (ones : List Int) (a : Nat) : ∀ m b, pairsIn ones a b m = [] → ∀ j, j < m → ones.all (sameB a ((b + j : Nat) : Int)) = false
 | 0, _, _, j, hj => absurd hj (Nat.not_lt_zero _)
 | m + 1, b, h, j, hj => by
  unfold pairsIn at h
  obtain ⟨h1, h2⟩ := List.append_eq_nil_iff.1 h
  by_cases e : j = 0
  ·subst e
   cases hc : ones.all (sameB (a : Int) ((b + 0 : Nat) : Int))
   ·rfl
   ·rw [Nat.add_zero] at hc
    rw [if_pos hc] at h1
    cases h1
  ·have := pairsIn_none ones a m (b + 1) h2 (j - 1) (by omega)
   rwa [show b + 1 + (j - 1) = b + j by omega] at this
theorem pairsOut_none (ones : List Int) (n : Nat) : ∀ m a, pairsOut ones n a m = [] → ∀ j, j < m → ∀ q, a + j < q → q < n → ones.all (sameB ((a + j : Nat) : Int) ((q : Nat) : Int)) = false
 | 0, _, _, j, hj, _, _, _ => absurd hj (Nat.not_lt_zero _)
 | m + 1, a, h, j, hj, q, h3, h4 => by
  unfold pairsOut at h
  obtain ⟨h1, h2⟩ := List.append_eq_nil_iff.1 h
  by_cases e : j = 0
  ·subst e
   have := pairsIn_none ones a (n - (a + 1)) (a + 1) h1 (q - (a + 1)) (by omega)
   rwa [show a + 1 + (q - (a + 1)) = q by omega] at this
  ·have := pairsOut_none ones n m (a + 1) h2 (j - 1) (by omega) q (by omega) h4
   rwa [show a + 1 + (j - 1) = a + j by omega] at this
theorem alikeL_none {ones : List Int} {n : Nat} (h : alikeL ones n = []) {a b : Nat} (hab : a < b) (hb : b < n) : ∃ x ∈ ones, sameB a b x = false := by
 have := pairsOut_none ones n n 0 h a (by omega) b (by omega) hb
 rw [Nat.zero_add] at this
 simpa [List.all_eq_false] using this
theorem onesOf_set {n : Nat} (hn : n ≤ 10) {b : List (List Int)} (h : b.all (rowOkB n) = true) : ∀ x ∈ onesOf b, SetB x := by
 intro x hx
 obtain ⟨l, hl, rfl⟩ := List.mem_map.1 hx
 have h1 := List.all_eq_true.1 h l hl
 unfold rowOkB at h1
 simp only [Bool.and_eq_true, beq_iff_eq] at h1
 have h2 := rowV_lt l (fun y hy => by have := (all_inB _ _ _).1 h1.2 y hy; omega)
 have h3 : 2 ^ l.length ≤ 2 ^ 10 := Nat.pow_le_pow_right (by omega) (by omega)
 unfold SetB; omega
/-- If all faults differ, a set of several faults is divided by some test. -/
theorem some_split {n : Nat} (hn : n ≤ 10) {ones : List Int} (ho : ∀ x ∈ ones, SetB x) (h : alikeL ones n = []) (s : Int) (hs : SetB s) (h1 : 1 ≤ s) (h2 : s < (2 ^ n : Nat)) (hp : pcount s ≠ 1) : ∃ x ∈ ones, splitB s x = true := by
 obtain ⟨v, rfl⟩ : ∃ v : Nat, s = v := ⟨s.toNat, by omega⟩
 unfold SetB at hs
 have hv : v < 1024 := by omega
 rw [pcount_nat v hv] at hp
 obtain ⟨a, ha, b, hb, hab, ta, tb⟩ := two_bits v hv (by omega) (by omega)
 have hbn : b < n := by
  rcases Nat.lt_or_ge b n with h | h
  ·exact h
  ·have : v.testBit b = false := Nat.testBit_lt_two_pow (Nat.lt_of_lt_of_le (by omega) (Nat.pow_le_pow_right (by omega) h))
   rw [this] at tb; cases tb
 obtain ⟨x, hx, hxs⟩ := alikeL_none h hab hbn
 have hxb := ho x hx
 unfold SetB at hxb
 obtain ⟨y, rfl⟩ : ∃ y : Nat, x = y := ⟨x.toNat, by omega⟩
 refine ⟨_, hx, split_of v y a b hv (by omega) (by omega) (by omega) ta tb ?_⟩
 unfold sameB at hxs
 rw [hasB_nat y a (by omega), hasB_nat y b (by omega)] at hxs
 intro e
 rw [e] at hxs
 simp at hxs
end Go.Proofs.YtekmiepdodaidaaDoor.X
end

section
/- A map's block, told key by key: what is at each key, whatever the elements are. -/
set_option linter.unusedVariables false
set_option linter.unusedSimpArgs false
namespace Go.Proofs.YtekmiepdodaidaaDoor.X
open Go.RowKit Go.Proofs.YtekmiepdodaidaaDoorW.PrintWords Go.Proofs.YtekmiepdodaidaaDoorW.PrintLast Go.Proofs.YtekmiepdodaidaaDoorW.PrintMore
open Go.Maps (Keyed)

/-- Any element: it reads as itself. -/
def anyElem (v : Value) : Option (DataW Value × List MemPlace) := some (.held v, [])
/-- What stands at each key. -/
abbrev KMap := Lit → Option Value
def KMap.put (f : KMap) (k : Lit) (v : Value) : KMap := fun k' => if k'.sameKey k = true then some v else f k'
def KMap.empty : KMap := fun _ => none
theorem KMap.put_same (f : KMap) {k : Lit} (hk : WideAt.IsKeyLit k) (v : Value) : f.put k v k = some v := by unfold KMap.put; rw [if_pos (WideAt.sameKey_self hk)]
theorem KMap.put_other (f : KMap) {k k' : Lit} (h : k' ≠ k) (v : Value) : f.put k v k' = f k' := by unfold KMap.put; rw [if_neg (fun e => h (WideAt.sameKey_eq e))]

/-- Block B of w is a map of at most n entries with f k at each key k. -/
structure MapIs (P : Program) (kt : TypeId) (w : World) (B n : Nat) (f : KMap) : Prop where mk ::
 ex : ∃ D, w.ownsMap P kt anyElem B n D ∧ (∀ kl, Maps.has D kl = (f kl).isSome) ∧ ∀ kl z, D.atKey kl (.held z) = .held ((f kl).getD z)
section
variable {P : Program} {kt : TypeId} {w w' : World} {B n : Nat} {f : KMap}
theorem MapIs.made (w : World) (P : Program) (kt : TypeId) : MapIs P kt (w.alloc (.map #[] 0)) w.heap.size 0 KMap.empty :=
 ⟨⟨.map [], World.ownsMap_made w P kt anyElem, fun _ => rfl, fun _ _ => rfl⟩⟩
theorem MapIs.mono (h : MapIs P kt w B n f) {n' : Nat} (hn : n ≤ n') : MapIs P kt w B n' f := by
 obtain ⟨D, h1, h2⟩ := h.ex
 exact ⟨⟨D, h1.mono hn, h2⟩⟩
theorem MapIs.lt (h : MapIs P kt w B n f) : B < w.heap.size := by
 obtain ⟨D, h1, h2⟩ := h.ex
 exact h1.lt
theorem MapIs.kept (h : MapIs P kt w B n f) {row : Option Nat} (hg : w.grownBy w' row) (hne : some B ≠ row) : MapIs P kt w' B n f := by
 obtain ⟨D, h1, h2⟩ := h.ex
 exact ⟨⟨D, h1.kept hg hne, h2⟩⟩
theorem MapIs.block (h : MapIs P kt w B n f) (hb : w'.heap[B]? = w.heap[B]?) : MapIs P kt w' B n f := by
 obtain ⟨D, ⟨es, clock, he, F⟩, h2⟩ := h.ex
 exact ⟨⟨D, ⟨es, clock, hb.trans he, F⟩, h2⟩⟩
theorem MapIs.below (h : MapIs P kt w B n f) (hb : Below w.heap.size w w') : MapIs P kt w' B n f := h.kept (grown_of_below hb none) (by simp)
theorem MapIs.alloc (h : MapIs P kt w B n f) (o : Obj) : MapIs P kt (w.alloc o) B n f := h.below (below_alloc (Below.refl _ _) o)
theorem MapIs.drewN (h : MapIs P kt w B n f) (m : Nat) : MapIs P kt (w.drewN m) B n f := h.below (pw_below_drewN (Below.refl _ _) m)
theorem MapIs.setCell (h : MapIs P kt w B n f) {a : Addr} (ha : B ≠ a.block) (u : Value) : MapIs P kt (w.setCell a u) B n f := by
 obtain ⟨D, h1, h2⟩ := h.ex
 exact ⟨⟨D, h1.setCell ha u, h2⟩⟩
/-- A map's block is no row of cells. -/
theorem MapIs.ne (h : MapIs P kt w B n f) {g : Nat} {cs : Array Value} {t : TypeId} {m : Nat × Nat} (hg : w.heap[g]? = some (.cells cs t m)) : B ≠ g := by
 obtain ⟨D, ⟨es, clock, hb, _⟩, _⟩ := h.ex
 intro e
 subst e
 rw [hb] at hg
 cases hg
theorem nodup_len {α : Type} : ∀ (l L : List α), l.Pairwise (fun a b => a ≠ b) → (∀ x ∈ l, x ∈ L) → l.length ≤ L.length
 | [], _, _, _ => Nat.zero_le _
 | x :: r, L, h, hs => by
  classical
  obtain ⟨h1, h2⟩ := List.pairwise_cons.1 h
  have hx := hs x (by simp)
  have := nodup_len r (L.erase x) h2 (fun y hy => (List.mem_erase_of_ne (fun e => h1 y hy e.symm)).2 (hs y (by simp [hy])))
  rw [List.length_erase_of_mem hx] at this
  have hp := List.length_pos_of_mem hx
  simp; omega
theorem MapIs.size_le (h : MapIs P kt w B n f) (K : Keyed P kt) (L : List Lit) (hL : ∀ kl, (f kl).isSome = true → kl ∈ L) : MapIs P kt w B L.length f := by
 obtain ⟨D, h1, h2, h3⟩ := h.ex
 refine ⟨⟨D, ?_, h2, h3⟩⟩
 obtain ⟨es', rfl, hp⟩ := h1.tidy K
 obtain ⟨es, clock, hb, F, hs, hD⟩ := h1
 refine ⟨es, clock, hb, F, ?_, hD⟩
 injection hD with hD
 have e1 : es'.length = es.size := by rw [hD, length_sorted]; simp
 have := nodup_len (es'.map (·.1)) L (by rw [List.pairwise_map]; exact hp) (by
  intro x hx
  obtain ⟨p, hp', rfl⟩ := List.mem_map.1 hx
  apply hL
  rw [← h2]
  obtain ⟨y, hy⟩ : ∃ y, (es'.map (·.1))[y]? = some p.1 := by
   obtain ⟨i, hi, e⟩ := List.getElem_of_mem hx
   exact ⟨i, by rw [List.getElem?_eq_getElem hi, e]⟩
  rw [Maps.has_eq, List.any_eq_true]
  refine ⟨p, hp', WideAt.sameKey_self ?_⟩
  have hc := (show w.ownsMap P kt anyElem B n (.map es') from ⟨es, clock, hb, F, hs, by rw [hD]⟩)
  have hk := Maps.fit_keys F
  have hp2 : p ∈ es.toList.map (WideElems.rg P kt anyElem) := by
   have := hD ▸ hp'
   exact (WideShapes.sorted_perm _).mem_iff.1 this
  obtain ⟨v, hv⟩ := hk p hp2
  exact K.key hv)
 rw [List.length_map] at this
 omega
/-- m[k]. -/
theorem MapIs.look (h : MapIs P kt w B n f) {t e : TypeId} (K : Keyed P kt) (ht : P.underlying t = some (.map kt e)) {z : Value} (hz : (zeroValue e).run P w = .ok z w) {key : Value} {kl : Lit} (hkey : keyOf P kt key = some kl) :
  (Instr.lookup t (.map (some B)) key false).run P w = .ok ((f kl).getD z) w := by
 obtain ⟨D, h1, h2, h3⟩ := h.ex
 obtain ⟨v, ps, hrun, hv⟩ := h1.lookup K ht hz (zd := .held z) (zp := []) rfl hkey
 rw [h3] at hv
 injection hv with hv
 injection hv with hv _
 injection hv with hv
 rw [hrun, hv]
theorem MapIs.look_ok (h : MapIs P kt w B n f) {t e : TypeId} (K : Keyed P kt) (ht : P.underlying t = some (.map kt e)) {z : Value} (hz : (zeroValue e).run P w = .ok z w) {key : Value} {kl : Lit} (hkey : keyOf P kt key = some kl) :
  (Instr.lookup t (.map (some B)) key true).run P w = .ok (.tuple #[(f kl).getD z, .bool (f kl).isSome]) w := by
 obtain ⟨D, h1, h2, h3⟩ := h.ex
 obtain ⟨v, ps, hrun, hv⟩ := h1.look_ok K ht hz (zd := .held z) (zp := []) rfl hkey
 rw [h3] at hv
 injection hv with hv
 injection hv with hv _
 injection hv with hv
 rw [hrun, hv, h2]
/-- m[k] = v. -/
theorem MapIs.store (h : MapIs P kt w B n f) {t e : TypeId} (K : Keyed P kt) (ht : P.underlying t = some (.map kt e)) (hn : n < maxLen) {key val : Value} {kl : Lit} (hkey : keyOf P kt key = some kl) :
  ∃ w', (Instr.mapUpdate t (.map (some B)) key val).run P w = .ok () w' ∧ MapIs P kt w' B (n + 1) (f.put kl val) ∧ w.grownBy w' (some B) := by
 obtain ⟨D, h1, h2, h3⟩ := h.ex
 obtain ⟨w', hrun, r1, r2⟩ := h1.update K ht hn hkey (val := val) (d := .held val) (ps := []) rfl
 refine ⟨w', hrun, ⟨⟨_, r1, fun k' => ?_, fun k' z => ?_⟩⟩, r2⟩
 ·by_cases e : k' = kl
  ·subst e
   rw [Maps.has_put_same h1.isMap (K.key hkey), KMap.put_same f (K.key hkey)]; rfl
  ·rw [Maps.has_put_other e, KMap.put_other f e, h2]
 ·by_cases e : k' = kl
  ·subst e
   rw [Maps.atKey_put_same h1.isMap (K.key hkey), KMap.put_same f (K.key hkey)]; rfl
  ·rw [Maps.atKey_put_other e, KMap.put_other f e, h3]
/-- len(m). -/
theorem MapIs.len (h : MapIs P kt w B n f) {t e : TypeId} (K : Keyed P kt) (ht : P.underlying t = some (.map kt e)) (ty : TypeId) :
  ∃ m : Nat, (Builtin.len_ #[t] ty #[.map (some B)]).run P w = .ok (.int .i64 m) w ∧ ∀ L : List Lit, L.Pairwise (fun a b => a ≠ b) → (∀ kl, (f kl).isSome = true ↔ kl ∈ L) → m = L.length := by
 obtain ⟨D, h1, h2, h3⟩ := h.ex
 refine ⟨Maps.size D, h1.len ht ty, fun L hL hiff => ?_⟩
 have hc := h1
 obtain ⟨es', rfl, hp⟩ := h1.tidy K
 have hkey : ∀ p ∈ es', WideAt.IsKeyLit p.1 := by
  intro p hp'
  obtain ⟨es, clock, hb, F, hs, hD⟩ := hc
  injection hD with hD
  have hk := Maps.fit_keys F
  have hp2 : p ∈ es.toList.map (WideElems.rg P kt anyElem) := by
   have := hD ▸ hp'
   exact (WideShapes.sorted_perm _).mem_iff.1 this
  obtain ⟨v, hv⟩ := hk p hp2
  exact K.key hv
 have a1 := nodup_len (es'.map (·.1)) L (by rw [List.pairwise_map]; exact hp) (by
  intro x hx
  obtain ⟨p, hp', rfl⟩ := List.mem_map.1 hx
  rw [← hiff, ← h2, Maps.has_eq, List.any_eq_true]
  exact ⟨p, hp', WideAt.sameKey_self (hkey p hp')⟩)
 have a2 := nodup_len L (es'.map (·.1)) hL (by
  intro x hx
  rw [← hiff, ← h2, Maps.has_eq, List.any_eq_true] at hx
  obtain ⟨p, hp', hs⟩ := hx
  exact List.mem_map.2 ⟨p, hp', WideAt.sameKey_eq hs⟩)
 rw [Maps.size_eq]
 rw [List.length_map] at a1 a2
 omega
end
section
variable {P : Program} (w : World) {ops : Array Oper} {rest : List Oper} {o : Oper} {a : Act} {Q : Exit → Act → World → Prop}
theorem wpList_put_is (hg : o.guard = none) (m x v : Operand) (t : TypeId) (hop : o.op = Op.mapUpdate t m x v) (k e : TypeId) (K : Keyed P k) (ht : P.underlying t = some (.map k e))
  (B n : Nat) (f : KMap) (hm : a.eval m = .map (some B)) (hown : MapIs P k w B n f) (hn : n < maxLen) (key val : Value) (kl : Lit) (hx : a.eval x = key) (hv : a.eval v = val) (hkey : keyOf P k key = some kl)
  (hK : ∀ w', MapIs P k w' B (n + 1) (f.put kl val) → w.grownBy w' (some B) → wpList P ops Q rest (a.put o.dst undef) w') : wpList P ops Q (o :: rest) a w := by
 refine wpList_plain hg fun K' hK' => ?_
 obtain ⟨w', hrun, r1, r2⟩ := hown.store K ht hn hkey (val := val)
 unfold Oper.wp
 simp [execOp, hop, hm, hx, hv, hrun, Result.andThen]
 exact hK' _ _ (hK w' r1 r2)
end
end Go.Proofs.YtekmiepdodaidaaDoor.X
end

section
/- (trial).best's closure find, by hand: the best test of a set of faults, by a map of what is known. -/
set_option linter.unusedVariables false
set_option linter.unusedSimpArgs false
namespace Go.Proofs.YtekmiepdodaidaaDoor.X
open Go.RowKit Go.Proofs.YtekmiepdodaidaaDoorW.PrintWords Go.Proofs.YtekmiepdodaidaaDoorW.PrintLast Go.Proofs.YtekmiepdodaidaaDoorW.PrintMore
open Go.Maps (Keyed)

theorem keyed75 : Keyed Tryd.prog 75 := Maps.int_keyed Tryd.underlying75
theorem zero96 (w : World) : (zeroValue 96).run Tryd.prog w = .ok (.agg #[.int .i64 0, .int .i64 0]) w := by kernel_rfl
/-- The key of a set. -/
def ky (s : Int) : Lit := .int .u64 s
theorem ky_of {s : Int} (h : SetB s) : keyOf Tryd.prog 75 (.int .u64 s) = some (ky s) :=
 Maps.keyOf_int_mk Tryd.underlying75 (by unfold SetB at h; simp [Lit.wf, IntKind.min, IntKind.max, IntKind.bits, IntKind.signed]; omega)
theorem ky_key (s : Int) : WideAt.IsKeyLit (ky s) := trivial
theorem ky_inj {s u : Int} (h : ky s = ky u) : s = u := by unfold ky at h; injection h

/-- Where find's variables lie, and what the case is. -/
structure FEnv where
 W0 : World
 go : Nat
 gt : Nat
 gm : Nat
 gf : Nat
 B : Nat
 top : Nat
 A0 : Option Addr
 c0 : Nat
 l0 : List Int
 A1 : Option Addr
 c1 : Nat
 l1 : List (List Int)
 A2 : Option Addr
 c2 : Nat
 l2 : List Int
 A3 : Option Addr
 c3 : Nat
 l3 : List Int
 al : Int
 M : Nat
def FEnv.cells (E : FEnv) : Array Value := #[.slice E.A0 E.l0.length E.c0, .slice E.A1 E.l1.length E.c1, .slice E.A2 E.l2.length E.c2, .slice E.A3 E.l3.length E.c3, .int .u64 E.al]
def FEnv.ptrs (E : FEnv) : Array Value := #[.pointer (some ⟨E.go, 0, none⟩), .pointer (some ⟨E.gt, 0, none⟩), .pointer (some ⟨E.gm, 0, none⟩), .pointer (some ⟨E.gf, 0, none⟩)]
structure FOk (E : FEnv) : Prop where
 r0 : Kd.C (Kd.int .i64) E.W0 E.A0 E.l0.length E.l0
 n0 : E.l0.length ≤ E.c0
 r1 : Kd.C (Kd.slice 3 (Kd.int .i64)) E.W0 E.A1 E.l1.length E.l1
 n1 : E.l1.length ≤ E.c1
 r2 : Kd.C (Kd.int .i64) E.W0 E.A2 E.l2.length E.l2
 n2 : E.l2.length ≤ E.c2
 r3 : Kd.C (Kd.int .u64) E.W0 E.A3 E.l3.length E.l3
 n3 : E.l3.length ≤ E.c3
 low : E.W0.heap.size ≤ E.B ∧ E.W0.heap.size ≤ E.top
 lt : E.go < E.top ∧ E.gt < E.top ∧ E.gm < E.top ∧ E.gf < E.top ∧ E.B < E.top
 sets : ∀ x ∈ E.l3, SetB x
 few : E.l3.length ≤ 12
/-- Is the set done: it is one fault, or its choice is known? -/
def doneB (f : KMap) (u : Int) : Prop := pcount u = 1 ∨ (f (ky u)).isSome = true
/-- What is known is right. -/
def GoodB (E : FEnv) (ch : Int → Int × Int) (f : KMap) : Prop :=
 ∀ kl v, f kl = some v → ∃ s, SetB s ∧ 1 ≤ s ∧ kl = ky s ∧ v = .agg #[.int .i64 (ch s).1, .int .i64 (ch s).2] ∧ ∀ x ∈ E.l3, splitB s x = true → doneB f (bSub s x) ∧ doneB f (bAnd s x)
structure FW (E : FEnv) (ch : Int → Int × Int) (W : World) (f : KMap) : Prop where
 bo : W.heap[E.go]? = some (.cells #[.map (some E.B)] 93 (0, 0))
 bt : W.heap[E.gt]? = some (.cells E.cells 77 (0, 0))
 bm : W.heap[E.gm]? = some (.cells #[.func (.func E.M) #[] #[]] 92 (0, 0))
 bf : W.heap[E.gf]? = some (.cells #[.func (.func 72) #[] E.ptrs] 86 (0, 0))
 mp : MapIs Tryd.prog 75 W E.B 1024 f
 gd : GoodB E ch f
 bl : Below E.W0.heap.size E.W0 W
 tp : E.top ≤ W.heap.size
def KMap.le (f g : KMap) : Prop := ∀ kl v, f kl = some v → g kl = some v
theorem KMap.le_refl (f : KMap) : f.le f := fun _ _ h => h
theorem KMap.le_trans {f g h : KMap} (a : f.le g) (b : g.le h) : f.le h := fun kl v e => b kl v (a kl v e)
theorem doneB_le {f g : KMap} (h : f.le g) {u : Int} (hd : doneB f u) : doneB g u := by
 rcases hd with hd | hd
 ·exact .inl hd
 ·obtain ⟨v, hv⟩ := Option.isSome_iff_exists.1 hd
  exact .inr (by rw [h _ _ hv]; rfl)
theorem FW.below {E : FEnv} {ch : Int → Int × Int} {W W' : World} {f : KMap} (hE : FOk E) (h : FW E ch W f) (hb : Below E.top W W') : FW E ch W' f := by
 obtain ⟨l1, l2, l3, l4, l5⟩ := hE.lt
 refine ⟨(hb.block _ l1).trans h.bo, (hb.block _ l2).trans h.bt, (hb.block _ l3).trans h.bm, (hb.block _ l4).trans h.bf, ?_, h.gd, h.bl.trans (hb.mono hE.low.2), Nat.le_trans h.tp hb.size⟩
 exact h.mp.block (hb.block _ l5)
/-- What find returns at a set. -/
def FPost (E : FEnv) (ch : Int → Int × Int) (W : World) (f : KMap) (u : Int) (e : Ending) (w' : World) : Prop :=
 ∃ g, e = .returned (.int .i64 (cstB ch u)) ∧ FW E ch w' g ∧ W.grownBy w' (some E.B) ∧ f.le g ∧ doneB g u
theorem u64_id {s : Int} (h : SetB s) : IntKind.u64.wrap s = s := by unfold SetB at h; rw [IntKind.wrap_u64]; omega
theorem retI {a b : Int} (h : a = b) : Ending.returned (.int .i64 a) = .returned (.int .i64 b) := by rw [h]
set_option maxHeartbeats 2000000 in
set_option maxRecDepth 100000 in
theorem find_one (E : FEnv) (ch : Int → Int × Int) (s : Int) (hs : SetB s) (hp : pcount s = 1) (W : World) (f : KMap) (h : FW E ch W f) :
  Calls Tryd.prog 72 (#[.int .u64 s] ++ E.ptrs) W (FPost E ch W f s) := by
 have HW := Aside0.mk h
 have HS := Aside0.mk hs
 have HP := Aside0.mk hp
 have c1 : (pcount s == 1) = true := by simp [hp]
 clear h hs hp
 show Calls Tryd.prog 72 #[.int .u64 s, .pointer (some ⟨E.go, 0, none⟩), .pointer (some ⟨E.gt, 0, none⟩), .pointer (some ⟨E.gm, 0, none⟩), .pointer (some ⟨E.gf, 0, none⟩)] W _
 go_enter Tryd.func72, Tryd.ntmps72
 go_wp2_with (go_at_call 69; refine (ones_n _ (u64_id HS.out) _).mono ?_; rintro e w' ⟨rfl, rfl⟩)
 go_ret
 exact ⟨f, retI (by unfold cstB; rw [if_pos HP.out]), HW.out, World.grownBy.refl _ _, KMap.le_refl f, .inl HP.out⟩
set_option maxHeartbeats 4000000 in
set_option maxRecDepth 100000 in
theorem find_memo (E : FEnv) (ch : Int → Int × Int) (s : Int) (hs : SetB s) (hp : pcount s ≠ 1) (W : World) (f : KMap) (h : FW E ch W f) (hE : FOk E) (hm : (f (ky s)).isSome = true) :
  Calls Tryd.prog 72 (#[.int .u64 s] ++ E.ptrs) W (FPost E ch W f s) := by
 have HW := Aside0.mk h
 have HE := Aside0.mk hE
 have HS := Aside0.mk hs
 have HP := Aside0.mk hp
 have HM := Aside0.mk hm
 have c1 : (pcount s == 1) = false := by simp [hp]
 obtain ⟨v, hv⟩ := Option.isSome_iff_exists.1 hm
 obtain ⟨s', _, _, hk, rfl, _⟩ := h.gd _ _ hv
 obtain rfl := ky_inj hk
 have hcz : W.cell? ⟨E.go, 0, none⟩ = some (.map (some E.B)) := (blk_cell h.bo 0).trans rfl
 have hlook := h.mp.look_ok (t := 93) (e := 96) keyed75 Tryd.underlying93 (zero96 W) (ky_of hs)
 rw [hv] at hlook
 simp only [Option.getD_some, Option.isSome_some] at hlook
 clear h hs hp hm hv hk
 show Calls Tryd.prog 72 #[.int .u64 s, .pointer (some ⟨E.go, 0, none⟩), .pointer (some ⟨E.gt, 0, none⟩), .pointer (some ⟨E.gm, 0, none⟩), .pointer (some ⟨E.gf, 0, none⟩)] W _
 go_enter Tryd.func72, Tryd.ntmps72
 go_wp2_with (go_at_call 69; refine (ones_n _ (u64_id HS.out) _).mono ?_; rintro e w' ⟨rfl, rfl⟩)
 go_ret
 exact ⟨f, retI (by unfold cstB; rw [if_neg HP.out]), HW.out.below HE.out ((Below.refl _ _).alloc HW.out.tp _), World.grownBy_alloc _ _ _, KMap.le_refl f, .inr HM.out⟩
theorem grown_setNew {W w : World} {r : Option Nat} (h : W.grownBy w r) {p : Addr} (hp : W.heap.size ≤ p.block) (u : Value) : W.grownBy (w.setCell p u) r :=
 ⟨h.os, h.tape, h.output, by have := h.size; simpa [World.setCell] using this, fun k hk hr => (Below.heap_setCell _ _ _ _ (by omega)).trans (h.block k hk hr)⟩
theorem grown_below {W w w' : World} {r : Option Nat} (h : W.grownBy w r) (hb : Below w.heap.size w w') : W.grownBy w' r :=
 ⟨hb.os.trans h.os, hb.tape.trans h.tape, hb.output.trans h.output, Nat.le_trans h.size hb.size, fun k hk hr => (hb.block k (Nat.lt_of_lt_of_le hk h.size)).trans (h.block k hk hr)⟩
theorem grown_alloc {W w : World} {r : Option Nat} (h : W.grownBy w r) (o : Obj) : W.grownBy (w.alloc o) r := grown_below h (below_alloc (Below.refl _ _) o)
theorem grown_then {a b c : World} {row : Option Nat} (h : a.grownBy b row) (k : b.grownBy c row) : a.grownBy c row :=
 ⟨k.os.trans h.os, k.tape.trans h.tape, k.output.trans h.output, Nat.le_trans h.size k.size, fun i hi hr => (k.block i (Nat.lt_of_lt_of_le hi h.size) hr).trans (h.block i hi hr)⟩
theorem FW.alloc {E : FEnv} {ch : Int → Int × Int} {W : World} {f : KMap} (hE : FOk E) (h : FW E ch W f) (o : Obj) : FW E ch (W.alloc o) f := h.below hE ((Below.refl _ _).alloc h.tp o)
theorem FW.full {E : FEnv} {ch : Int → Int × Int} {W w' : World} {f : KMap} (hE : FOk E) (h : FW E ch W f) (hb : Below W.heap.size W w') : FW E ch w' f := h.below hE (hb.mono h.tp)
theorem FW.set {E : FEnv} {ch : Int → Int × Int} {W : World} {f : KMap} (hE : FOk E) (h : FW E ch W f) {p : Addr} (hp : E.top ≤ p.block) (u : Value) : FW E ch (W.setCell p u) f := h.below hE ((Below.refl _ _).setCell hp u)
/-- The cells that find reads. -/
def FEnv.Cells (E : FEnv) (w : World) : Prop :=
 w.cell? ⟨E.go, 0, none⟩ = some (.map (some E.B)) ∧ w.cell? ⟨E.gm, 0, none⟩ = some (.func (.func E.M) #[] #[]) ∧ w.cell? ⟨E.gf, 0, none⟩ = some (.func (.func 72) #[] E.ptrs) ∧
 w.cell? ⟨E.gt, 0, none⟩ = some (.slice E.A0 E.l0.length E.c0) ∧ w.cell? ⟨E.gt, 1, none⟩ = some (.slice E.A1 E.l1.length E.c1) ∧ w.cell? ⟨E.gt, 2, none⟩ = some (.slice E.A2 E.l2.length E.c2) ∧ w.cell? ⟨E.gt, 3, none⟩ = some (.slice E.A3 E.l3.length E.c3) ∧ w.cell? ⟨E.gt, 4, none⟩ = some (.int .u64 E.al)
theorem FW.cells {E : FEnv} {ch : Int → Int × Int} {W : World} {f : KMap} (h : FW E ch W f) : E.Cells W :=
 ⟨(blk_cell h.bo 0).trans rfl, (blk_cell h.bm 0).trans rfl, (blk_cell h.bf 0).trans rfl, (blk_cell h.bt 0).trans rfl, (blk_cell h.bt 1).trans rfl, (blk_cell h.bt 2).trans rfl, (blk_cell h.bt 3).trans rfl, (blk_cell h.bt 4).trans rfl⟩
def keys1024 : List Lit := (List.range 1024).map fun (n : Nat) => ky (n : Int)
theorem FW.put {E : FEnv} {ch : Int → Int × Int} {W w1 : World} {f : KMap} (hE : FOk E) (h : FW E ch W f) {s : Int} (hs : SetB s) (hs1 : 1 ≤ s) (hdone : ∀ x ∈ E.l3, splitB s x = true → doneB f (bSub s x) ∧ doneB f (bAnd s x))
  (hm : MapIs Tryd.prog 75 w1 E.B 1025 (f.put (ky s) (.agg #[.int .i64 (ch s).1, .int .i64 (ch s).2]))) (hg : W.grownBy w1 (some E.B)) : FW E ch w1 (f.put (ky s) (.agg #[.int .i64 (ch s).1, .int .i64 (ch s).2])) ∧ f.le (f.put (ky s) (.agg #[.int .i64 (ch s).1, .int .i64 (ch s).2])) := by
 have hle : f.le (f.put (ky s) (.agg #[.int .i64 (ch s).1, .int .i64 (ch s).2])) := by
  intro kl v hv
  by_cases e : kl = ky s
  ·subst e
   obtain ⟨u, _, _, hu, rfl, _⟩ := h.gd _ _ hv
   obtain rfl := ky_inj hu
   exact KMap.put_same f (ky_key s) _
  ·rw [KMap.put_other f e]; exact hv
 have hgood : GoodB E ch (f.put (ky s) (.agg #[.int .i64 (ch s).1, .int .i64 (ch s).2])) := by
  intro kl v hv
  by_cases e : kl = ky s
  ·subst e
   rw [KMap.put_same f (ky_key s)] at hv
   injection hv with hv
   exact ⟨s, hs, hs1, rfl, hv.symm, fun x hx hsp => ⟨doneB_le hle (hdone x hx hsp).1, doneB_le hle (hdone x hx hsp).2⟩⟩
  ·rw [KMap.put_other f e] at hv
   obtain ⟨u, a1, a2, a3, a4, a5⟩ := h.gd kl v hv
   exact ⟨u, a1, a2, a3, a4, fun x hx hsp => ⟨doneB_le hle (a5 x hx hsp).1, doneB_le hle (a5 x hx hsp).2⟩⟩
 have hlow := hE.low
 refine ⟨⟨blk_grown h.bo hg (fun e => h.mp.ne h.bo (by injection e with e; exact e.symm)), blk_grown h.bt hg (fun e => h.mp.ne h.bt (by injection e with e; exact e.symm)), blk_grown h.bm hg (fun e => h.mp.ne h.bm (by injection e with e; exact e.symm)), blk_grown h.bf hg (fun e => h.mp.ne h.bf (by injection e with e; exact e.symm)), ?_, hgood, ?_, Nat.le_trans h.tp hg.size⟩, hle⟩
 ·have := hm.size_le keyed75 keys1024 (by
   intro kl hk
   obtain ⟨v, hv⟩ := Option.isSome_iff_exists.1 hk
   obtain ⟨u, a1, a2, rfl, _⟩ := hgood kl v hv
   unfold SetB at a1
   exact List.mem_map.2 ⟨u.toNat, List.mem_range.2 (by omega), by rw [show ((u.toNat : Nat) : Int) = u by omega]⟩)
  rwa [show keys1024.length = 1024 by simp [keys1024]] at this
 ·exact h.bl.grown hg h.bl.size (fun k e => by injection e with e; subst e; exact hlow.1)
/-- Where find stands in a round: what is known, and the best test so far in its block. -/
structure FMid (E : FEnv) (ch : Int → Int × Int) (W : World) (f : KMap) (b1 b2 : Int) (w' : World) (g : KMap) : Prop where
 fw : FW E ch w' g
 gr : W.grownBy w' (some E.B)
 le : f.le g
 bx : w'.heap[W.heap.size + 1]? = some (.cells #[.int .i64 b1, .int .i64 b2] 96 (0, 0))
theorem FMid.below {E : FEnv} {ch : Int → Int × Int} {W w1 w2 : World} {f g : KMap} {b1 b2 : Int} (hE : FOk E) (h : FMid E ch W f b1 b2 w1 g) (hb : Below w1.heap.size w1 w2) : FMid E ch W f b1 b2 w2 g :=
 ⟨h.fw.full hE hb, grown_below h.gr hb, h.le, (hb.block _ (blk_lt h.bx)).trans h.bx⟩
theorem FMid.call {E : FEnv} {ch : Int → Int × Int} {W w1 w2 : World} {f g g2 : KMap} {b1 b2 : Int} (hE : FOk E) (hW : E.top ≤ W.heap.size) (h : FMid E ch W f b1 b2 w1 g) (hf : FW E ch w2 g2) (hg : w1.grownBy w2 (some E.B)) (hl : g.le g2) : FMid E ch W f b1 b2 w2 g2 :=
 ⟨hf, grown_then h.gr hg, KMap.le_trans h.le hl, (hg.block _ (blk_lt h.bx) (by have := hE.lt; intro e; injection e with e; omega)).trans h.bx⟩
theorem FMid.put {E : FEnv} {ch : Int → Int × Int} {W w1 : World} {f g : KMap} {b1 b2 : Int} (hE : FOk E) (hW : E.top ≤ W.heap.size) (h : FMid E ch W f b1 b2 w1 g) (a b : Int) :
  FMid E ch W f a b ((w1.setCell ⟨W.heap.size + 1, 0, none⟩ (.int .i64 a)).setCell ⟨W.heap.size + 1, 1, none⟩ (.int .i64 b)) g := by
 refine ⟨(h.fw.set hE (by show E.top ≤ W.heap.size + 1; omega) _).set hE (by show E.top ≤ W.heap.size + 1; omega) _, grown_setNew (grown_setNew h.gr (by show W.heap.size ≤ W.heap.size + 1; omega) _) (by show W.heap.size ≤ W.heap.size + 1; omega) _, h.le, ?_⟩
 exact (blk_set (blk_set h.bx 0 (.int .i64 a)) 1 (.int .i64 b)).trans rfl
/-- The loop's state: k tests are seen. -/
def FLoop (E : FEnv) (ch : Int → Int × Int) (mf : Int → Int → Int → Int → Int) (W : World) (f : KMap) (s : Int) (k : Nat) (w' : World) : Prop :=
 ∃ g b1 b2, FMid E ch W f b1 b2 w' g ∧ (∀ j, j < k → splitB s (rd E.l3 j) = true → doneB g (bSub s (rd E.l3 j)) ∧ doneB g (bAnd s (rd E.l3 j))) ∧
  pickB (fun k x => mf k s (cstB ch (bSub s x)) (cstB ch (bAnd s x))) s k (E.l3.drop k) (b1, b2) = ch s
theorem FLoop.next {E : FEnv} {ch : Int → Int × Int} {mf : Int → Int → Int → Int → Int} {W w' : World} {f g g' : KMap} {s x sa sb b1 b2 b1' b2' : Int} {k : Nat} (hk : k < E.l3.length) (hx : rd E.l3 k = x) (hsa : bAnd s x = sa) (hsb : bSub s x = sb) (hsp : splitB s x = true)
  (hdone : ∀ j, j < k → splitB s (rd E.l3 j) = true → doneB g (bSub s (rd E.l3 j)) ∧ doneB g (bAnd s (rd E.l3 j))) (hpick : pickB (fun k x => mf k s (cstB ch (bSub s x)) (cstB ch (bAnd s x))) s k (E.l3.drop k) (b1, b2) = ch s)
  (hdr : E.l3.drop k = x :: E.l3.drop (k + 1)) (hl : g.le g') (hda : doneB g' sa) (hdb : doneB g' sb) (hm : FMid E ch W f b1' b2' w' g')
  (hb : (b1', b2') = if b1 < 0 ∨ mf k s (cstB ch sb) (cstB ch sa) < b2 then ((k : Int), mf k s (cstB ch sb) (cstB ch sa)) else (b1, b2)) : FLoop E ch mf W f s (k + 1) w' := by
 refine ⟨g', b1', b2', hm, fun j hj => ?_, ?_⟩
 ·by_cases ej : j = k
  ·subst ej; rw [hx, hsa, hsb]; exact fun _ => ⟨hdb, hda⟩
  ·intro hs
   obtain ⟨h1, h2⟩ := hdone j (by omega) hs
   exact ⟨doneB_le hl h1, doneB_le hl h2⟩
 ·rw [hdr] at hpick
  unfold pickB at hpick
  rw [if_pos hsp, hsa, hsb] at hpick
  rw [hb]
  exact hpick
theorem size_alloc' (w : World) (o : Obj) : (w.alloc o).heap.size = w.heap.size + 1 := by first | (simp; done) | exact Array.size_push _ | rfl
theorem blk_5 (w : World) (o1 o2 o3 o4 o5 : Obj) : (((((w.alloc o1).alloc o2).alloc o3).alloc o4).alloc o5).heap[w.heap.size]? = some o1 ∧ (((((w.alloc o1).alloc o2).alloc o3).alloc o4).alloc o5).heap[w.heap.size + 1]? = some o2 ∧ (((((w.alloc o1).alloc o2).alloc o3).alloc o4).alloc o5).heap[w.heap.size + 1 + 1]? = some o3 ∧ (((((w.alloc o1).alloc o2).alloc o3).alloc o4).alloc o5).heap[w.heap.size + 1 + 1 + 1]? = some o4 ∧ (((((w.alloc o1).alloc o2).alloc o3).alloc o4).alloc o5).heap[w.heap.size + 1 + 1 + 1 + 1]? = some o5 := by
 refine ⟨blk_alloc (blk_alloc (blk_alloc (blk_alloc (blk_new w o1) o2) o3) o4) o5, ?_, ?_, ?_, ?_⟩
 ·have := blk_alloc (blk_alloc (blk_alloc (blk_new (w.alloc o1) o2) o3) o4) o5
  rwa [size_alloc'] at this
 ·have := blk_alloc (blk_alloc (blk_new ((w.alloc o1).alloc o2) o3) o4) o5
  rwa [size_alloc', size_alloc'] at this
 ·have := blk_alloc (blk_new (((w.alloc o1).alloc o2).alloc o3) o4) o5
  rwa [size_alloc', size_alloc', size_alloc'] at this
 ·have := blk_new ((((w.alloc o1).alloc o2).alloc o3).alloc o4) o5
  rwa [size_alloc', size_alloc', size_alloc', size_alloc'] at this
theorem FW.start (E : FEnv) (ch : Int → Int × Int) (h1 : E.gt = E.W0.heap.size) (h2 : E.gm = E.W0.heap.size + 1) (h3 : E.B = E.W0.heap.size + 1 + 1) (h4 : E.go = E.W0.heap.size + 1 + 1 + 1) (h5 : E.gf = E.W0.heap.size + 1 + 1 + 1 + 1) (h6 : E.top = E.W0.heap.size + 1 + 1 + 1 + 1 + 1) :
  FW E ch (((((E.W0.alloc (.cells E.cells 77 (0, 0))).alloc (.cells #[.func (.func E.M) #[] #[]] 92 (0, 0))).alloc (.map #[] 0)).alloc (.cells #[.map (some E.B)] 93 (0, 0))).alloc (.cells #[.func (.func 72) #[] E.ptrs] 86 (0, 0))) KMap.empty := by
 obtain ⟨b1, b2, b3, b4, b5⟩ := blk_5 E.W0 (.cells E.cells 77 (0, 0)) (.cells #[.func (.func E.M) #[] #[]] 92 (0, 0)) (.map #[] 0) (.cells #[.map (some E.B)] 93 (0, 0)) (.cells #[.func (.func 72) #[] E.ptrs] 86 (0, 0))
 refine ⟨by rw [h4]; exact b4, by rw [h1]; exact b1, by rw [h2]; exact b2, by rw [h5]; exact b5, ?_, fun kl v e => (by cases e), ?_, ?_⟩
 ·have hm := (((MapIs.made ((E.W0.alloc (.cells E.cells 77 (0, 0))).alloc (.cells #[.func (.func E.M) #[] #[]] 92 (0, 0))) Tryd.prog 75).alloc (.cells #[.map (some E.B)] 93 (0, 0))).alloc (.cells #[.func (.func 72) #[] E.ptrs] 86 (0, 0))).mono (n' := 1024) (by omega)
  rw [size_alloc', size_alloc', ← h3] at hm
  exact hm
 ·exact below_alloc (below_alloc (below_alloc (below_alloc (below_alloc (Below.refl _ _) _) _) _) _) _
 ·rw [h6, size_alloc', size_alloc', size_alloc', size_alloc', size_alloc']; omega
end Go.Proofs.YtekmiepdodaidaaDoor.X
end
