/- Texts behind TestsMore, part 22: contracts of the program's functions and the plain words for them. -/
import Derived.Test.YtekmiepdodaidaaDoorTpas
import Derived.Test.YtekmiepdodaidaaDoorTpat
import Derived.Test.YtekmiepdodaidaaDoorTpau
section
/- Layer 7, plain: what newTrial makes of a case. -/
set_option linter.unusedVariables false
namespace Go.Proofs.YtekmiepdodaidaaDoor.X
open Go.RowKit Go.Proofs.YtekmiepdodaidaaDoorW.PrintWords Go.Proofs.YtekmiepdodaidaaDoorW.PrintLast Go.Proofs.YtekmiepdodaidaaDoorW.PrintMore

/-- Are the three lists a case? -/
def rowOkB (n : Nat) (l : List Int) : Bool := (l.length == n) && l.all (inB 0 1)
def caseB (a : List Int) (b : List (List Int)) (c : List Int) : Bool :=
 decide (1 ≤ a.length) && decide (a.length ≤ 10) && decide (b.length ≤ 12) && (c.length == b.length) && a.all (inB 1 1000) && c.all (inB 1 100) && b.all (rowOkB a.length)
/-- A row of results as a number: bit i is result i. -/
def rowV : List Int → Nat
 | [] => 0
 | x :: xs => x.toNat + 2 * rowV xs
def onesOf (b : List (List Int)) : List Int := b.map fun l => (rowV l : Int)
def trialR (a : List Int) (b : List (List Int)) (c : List Int) : List Int × (List (List Int)) × List Int × List Int × Int × Int :=
 if caseB a b c = true then (a, b, c, onesOf b, (2 ^ a.length : Nat) - 1, 0) else ([], [], [], [], 0, 2)

theorem rowV_lt : ∀ (l : List Int), (∀ x ∈ l, x = 0 ∨ x = 1) → rowV l < 2 ^ l.length
 | [], _ => by simp [rowV]
 | x :: xs, h => by
  have ih := rowV_lt xs (fun y hy => h y (by simp [hy]))
  have hx := h x (by simp)
  simp only [rowV, List.length_cons, Nat.pow_succ]
  omega
theorem rowV_snoc : ∀ (l : List Int) (x : Int), rowV (l ++ [x]) = rowV l + x.toNat * 2 ^ l.length
 | [], x => by simp [rowV]
 | y :: ys, x => by
  have ih := rowV_snoc ys x
  simp only [List.cons_append, rowV, List.length_cons, Nat.pow_succ, ih]
  have : x.toNat * (2 ^ ys.length * 2) = 2 * (x.toNat * 2 ^ ys.length) := by rw [← Nat.mul_assoc, Nat.mul_comm _ 2]
  omega
theorem rowV_bit : ∀ (l : List Int), (∀ x ∈ l, x = 0 ∨ x = 1) → ∀ i, (rowV l).testBit i = decide (l.getD i 0 = 1)
 | [], _, i => by simp [rowV]
 | x :: xs, h, 0 => by
  have hx := h x (by simp)
  have hp : (rowV (x :: xs)) % 2 = x.toNat := by simp only [rowV]; omega
  rw [Nat.testBit_zero, hp]
  rcases hx with rfl | rfl <;> simp
 | x :: xs, h, i + 1 => by
  have ih := rowV_bit xs (fun y hy => h y (by simp [hy])) i
  have hx := h x (by simp)
  have hp : (rowV (x :: xs)) / 2 = rowV xs := by simp only [rowV]; omega
  rw [Nat.testBit_succ, hp, ih]
  simp
theorem or_bit (v i : Nat) (r : Int) (hi : i < 10) (hv : v < 2 ^ i) (hr : r = 0 ∨ r = 1) : Go.bits .or .u64 (v : Int) (shl .u64 (IntKind.u64.wrap r) (i : Int)) = ((v + r.toNat * 2 ^ i : Nat) : Int) := by
 have hp : 2 ^ i ≤ 2 ^ 9 := Nat.pow_le_pow_right (by omega) (by omega)
 rcases hr with rfl | rfl
 ·have e : shl .u64 (IntKind.u64.wrap 0) (i : Int) = ((0 : Nat) : Int) := by unfold shl; simp [IntKind.wrap_u64]
  rw [e, u64_or_nat v 0 (by omega) (by omega)]; simp
 ·have e : shl .u64 (IntKind.u64.wrap 1) (i : Int) = ((2 ^ i : Nat) : Int) := by
   unfold shl
   have hm : min i IntKind.u64.bits = i := by simp [IntKind.bits]; omega
   have h1 : IntKind.u64.wrap 1 = 1 := by rw [IntKind.wrap_u64]; rfl
   rw [h1, Int.toNat_natCast, hm, IntKind.wrap_u64]
   have hz : (1 * 2 ^ i : Int) = ((2 ^ i : Nat) : Int) := by simp
   rw [hz]
   omega
  rw [e, u64_or_nat v (2 ^ i) (by omega) (by omega)]
  have := Nat.two_pow_add_eq_or_of_lt hv 1
  rw [Nat.mul_one] at this
  rw [Nat.or_comm, ← this]
  simp; omega

theorem newTrial_l1 (x4 x49 x50 x135004 : Int) (x48 : List (List Int)) (l : List Int) (acc : List Int) (hl : l.length ≤ 10) (hb : ∀ x ∈ l, x = 0 ∨ x = 1) (R : List Int × (List (List Int)) × List Int × List Int × Int × Int) (ha : acc.length < 17592186044416)
  (hk : Ev (fun k => tests_newTrialA.l0 k x4 x48 x49 (wrap64 (x50 + 1)) (acc ++ [(rowV l : Int)]) x135004) R) (m : Nat) : ∀ i, i + m = l.length → Ev (fun k => tests_newTrialA.l1 k x4 (rowV (l.take i) : Nat) x48 x49 x50 l (l.length : Int) (i : Int) acc x135004) R := by
 induction m with
 | zero =>
  intro i hi
  refine Ev.step (fun k => ?_) hk
  obtain rfl : i = l.length := by omega
  show tests_newTrialA.l1 (k + 1) x4 _ x48 x49 x50 l (l.length : Int) _ acc x135004 = _
  simp only [tests_newTrialA.l1]
  rw [if_neg (by omega), if_pos ha, List.take_length]
 | succ m ih =>
  intro i hi
  refine Ev.step (fun k => ?_) (ih (i + 1) (by omega))
  show tests_newTrialA.l1 (k + 1) x4 _ x48 x49 x50 l (l.length : Int) _ acc x135004 = _
  simp only [tests_newTrialA.l1]
  have hil : i < l.length := by omega
  have hr : rd l (i : Int) = l[i] := by simp [rd, List.getD_eq_getElem?_getD, List.getElem?_eq_getElem hil]
  have ht : l.take (i + 1) = l.take i ++ [l[i]] := List.take_succ_eq_append_getElem hil
  have hlen : (l.take i).length = i := by rw [List.length_take]; omega
  have hv : rowV (l.take i) < 2 ^ i := by
   have := rowV_lt (l.take i) (fun x hx => hb x (List.mem_of_mem_take hx))
   rwa [hlen] at this
  rw [if_pos (by omega), if_pos (by omega), if_pos (by omega), hr, or_bit _ i _ (by omega) hv (hb _ (List.getElem_mem hil)), ht, rowV_snoc, hlen, show wrap64 ((i : Int) + 1) = ((i + 1 : Nat) : Int) by unfold wrap64; omega]
theorem rd_L1_at (b : List (List Int)) (i : Nat) (h : i < b.length) : rd_L1 b (i : Int) = b[i] := by simp [rd_L1, List.getD_eq_getElem?_getD, List.getElem?_eq_getElem h]
theorem all_inB (l : List Int) (lo hi : Int) : l.all (inB lo hi) = true ↔ ∀ x ∈ l, lo ≤ x ∧ x ≤ hi := by
 simp [List.all_eq_true, inB]
theorem newTrial_l0 (n : Nat) (hn : n ≤ 10) (b : List (List Int)) (hb : b.length ≤ 12) (al : Int) (m : Nat) : ∀ (i : Nat) (acc : List Int), i + m = b.length → acc.length ≤ i →
  Ev (fun k => tests_newTrialA.l0 k (n : Int) b (b.length : Int) (i : Int) acc al) (if (b.drop i).all (rowOkB n) = true then ([], [], [], acc ++ onesOf (b.drop i), al, 0) else ([], [], [], [], 0, 2)) := by
 induction m with
 | zero =>
  intro i acc hi ha
  obtain rfl : i = b.length := by omega
  refine Ev.step (f := fun _ => some _) (fun k => ?_) (Ev.now _)
  simp only [tests_newTrialA.l0]
  rw [if_neg (by omega), List.drop_length]
  simp [onesOf]
 | succ m ih =>
  intro i acc hi ha
  have hil : i < b.length := by omega
  have hdr : b.drop i = b[i] :: b.drop (i + 1) := List.drop_eq_getElem_cons hil
  rw [hdr, List.all_cons]
  have hw : wrap64 ((i : Int) + 1) = ((i + 1 : Nat) : Int) := by unfold wrap64; omega
  by_cases hlen : b[i].length = n
  ·by_cases hall : b[i].all (inB 0 1) = true
   ·have hok : rowOkB n b[i] = true := by unfold rowOkB; rw [hall, hlen]; simp
    rw [hok, Bool.true_and]
    have hbits : ∀ x ∈ b[i], x = 0 ∨ x = 1 := fun x hx => by have := (all_inB _ _ _).1 hall x hx; omega
    have h2 := ih (i + 1) (acc ++ [(rowV b[i] : Int)]) (by omega) (by simp; omega)
    rw [show ((acc ++ [(rowV b[i] : Int)]) ++ onesOf (b.drop (i + 1))) = acc ++ onesOf (b[i] :: b.drop (i + 1)) by unfold onesOf; rw [List.map_cons, List.append_assoc]; rfl] at h2
    have h1 := newTrial_l1 (n : Int) (b.length : Int) (i : Int) al b b[i] acc (by omega) hbits _ (by omega) (by rw [hw]; exact h2) b[i].length 0 (by omega)
    simp only [List.take_zero, rowV] at h1
    have h3 : Ev (fun k => tests_newTrialA.j3 k (n : Int) b[i] b (b.length : Int) (i : Int) false acc al) (if (b.drop (i + 1)).all (rowOkB n) = true then ([], [], [], acc ++ onesOf (b[i] :: b.drop (i + 1)), al, 0) else ([], [], [], [], 0, 2)) := by
     refine Ev.step (fun k => ?_) h1
     show tests_newTrialA.j3 (k + 1) (n : Int) b[i] b (b.length : Int) (i : Int) false acc al = _
     simp only [tests_newTrialA.j3]; rw [if_neg (by decide)]; rfl
    refine Ev.step (fun k => ?_) h3
    show tests_newTrialA.l0 (k + 1) (n : Int) b (b.length : Int) (i : Int) acc al = _
    simp only [tests_newTrialA.l0]
    rw [if_pos (by omega), if_pos (by omega), if_pos (by omega), rd_L1_at b i hil, if_pos (by omega)]
    unfold tests_newTrial_3.f
    rw [hall]; rfl
   ·have hok : rowOkB n b[i] = false := by unfold rowOkB; simp at hall ⊢; intro _; simpa using hall
    rw [hok, Bool.false_and, if_neg (by decide)]
    have h3 : Ev (fun k => tests_newTrialA.j3 k (n : Int) b[i] b (b.length : Int) (i : Int) true acc al) (([] : List Int), ([] : List (List Int)), ([] : List Int), ([] : List Int), (0 : Int), (2 : Int)) := by
     refine Ev.step (f := fun _ => some _) (fun k => ?_) (Ev.now _)
     simp only [tests_newTrialA.j3, if_true]
    refine Ev.step (fun k => ?_) h3
    show tests_newTrialA.l0 (k + 1) (n : Int) b (b.length : Int) (i : Int) acc al = _
    simp only [tests_newTrialA.l0]
    rw [if_pos (by omega), if_pos (by omega), if_pos (by omega), rd_L1_at b i hil, if_pos (by omega)]
    unfold tests_newTrial_3.f
    rw [show b[i].all (inB 0 1) = false by simpa using hall]; rfl
  ·have hok : rowOkB n b[i] = false := by unfold rowOkB; simp [hlen]
   rw [hok, Bool.false_and, if_neg (by decide)]
   have h3 : Ev (fun k => tests_newTrialA.j3 k (n : Int) b[i] b (b.length : Int) (i : Int) true acc al) (([] : List Int), ([] : List (List Int)), ([] : List Int), ([] : List Int), (0 : Int), (2 : Int)) := by
    refine Ev.step (f := fun _ => some _) (fun k => ?_) (Ev.now _)
    simp only [tests_newTrialA.j3, if_true]
   refine Ev.step (fun k => ?_) h3
   show tests_newTrialA.l0 (k + 1) (n : Int) b (b.length : Int) (i : Int) acc al = _
   simp only [tests_newTrialA.l0]
   rw [if_pos (by omega), if_pos (by omega), if_pos (by omega), rd_L1_at b i hil, if_neg (by omega)]
theorem within_yes (n lo hi : Int) (h1 : lo ≤ n) (h2 : n ≤ hi) : tests_within.f n lo hi = some true := by
 unfold tests_within.f
 simp [h1, h2]
theorem within_no (n lo hi : Int) (h : ¬ (lo ≤ n ∧ n ≤ hi)) : tests_within.f n lo hi = some false := by
 unfold tests_within.f
 by_cases h1 : lo ≤ n
 ·have h2 : ¬ n ≤ hi := fun h2 => h ⟨h1, h2⟩
  simp [h1, h2]
 ·simp [h1]
theorem all_of (n : Nat) (h1 : 1 ≤ n) (h2 : n ≤ 10) : IntKind.u64.wrap ((shl .u64 1 (n : Int)) - 1) = ((2 ^ n : Nat) : Int) - 1 := by
 have hp : 2 ^ n ≤ 2 ^ 10 := Nat.pow_le_pow_right (by omega) (by omega)
 have hq : 0 < 2 ^ n := Nat.two_pow_pos n
 unfold shl
 have hm : min n IntKind.u64.bits = n := by simp [IntKind.bits]; omega
 rw [Int.toNat_natCast, hm]
 have hz : (1 * 2 ^ n : Int) = ((2 ^ n : Nat) : Int) := by simp
 rw [hz, IntKind.wrap_u64, IntKind.wrap_u64]
 omega
theorem newTrialA_all (a : List Int) (b : List (List Int)) (c : List Int) : Ev (fun k => tests_newTrialA.f k a b c) (if caseB a b c = true then ([], [], [], onesOf b, (2 ^ a.length : Nat) - 1, 0) else ([], [], [], [], 0, 2)) := by
 have bad : Ev (fun k => tests_newTrialA.j0 k (a.length : Int) true a b c) (([] : List Int), ([] : List (List Int)), ([] : List Int), ([] : List Int), (0 : Int), (2 : Int)) := by
  refine Ev.step (f := fun _ => some _) (fun k => ?_) (Ev.now _)
  simp only [tests_newTrialA.j0, if_true]
 unfold tests_newTrialA.f
 by_cases h1 : 1 ≤ a.length ∧ a.length ≤ 10
 ·have hwin : tests_within.f (a.length : Int) 1 10 = some true := within_yes _ _ _ (by omega) (by omega)
  rw [hwin]
  simp only [Option.bind_some, if_true]
  by_cases h2 : b.length ≤ 12
  ·simp only [if_neg (show ¬ ((b.length : Int) > 12) by omega)]
   by_cases h3 : c.length = b.length
   ·have e3 : ((c.length : Int) != (b.length : Int)) = false := by simp [h3]
    rw [e3]
    have hj1 : Ev (fun k => tests_newTrialA.j1 k (a.length : Int) true a b c) (([] : List Int), ([] : List (List Int)), ([] : List Int), ([] : List Int), (0 : Int), (2 : Int)) := by
     refine Ev.step (f := fun _ => some _) (fun k => ?_) (Ev.now _)
     simp only [tests_newTrialA.j1, if_true]
    by_cases h4 : a.all (inB 1 1000) = true
    ·by_cases h5 : c.all (inB 1 100) = true
     ·have hc : caseB a b c = b.all (rowOkB a.length) := by unfold caseB; rw [h4, h5]; simp [h1, h2, h3]
      rw [hc]
      have hl := newTrial_l0 a.length h1.2 b h2 ((2 ^ a.length : Nat) - 1) b.length 0 [] (by omega) (by simp)
      simp only [List.drop_zero, List.nil_append] at hl
      have hj2 : Ev (fun k => tests_newTrialA.j1 k (a.length : Int) false a b c) (if b.all (rowOkB a.length) = true then ([], [], [], onesOf b, ((2 ^ a.length : Nat) : Int) - 1, 0) else ([], [], [], [], 0, 2)) := by
       refine Ev.step (fun k => ?_) hl
       show tests_newTrialA.j1 (k + 1) (a.length : Int) false a b c = _
       simp only [tests_newTrialA.j1]; rw [if_neg (by decide), if_pos (by omega), all_of _ h1.1 h1.2]; rfl
      refine Ev.step (fun k => ?_) hj2
      show tests_newTrialA.j0 (k + 1) (a.length : Int) false a b c = _
      simp only [tests_newTrialA.j0]; rw [if_neg (by decide)]
      unfold tests_newTrial_1.f tests_newTrial_2.f
      rw [h4, h5]; simp
     ·have hc : caseB a b c = false := by unfold caseB; rw [show c.all (inB 1 100) = false by simpa using h5, Bool.and_false, Bool.false_and]
      rw [hc, if_neg (by decide)]
      refine Ev.step (fun k => ?_) hj1
      show tests_newTrialA.j0 (k + 1) (a.length : Int) false a b c = _
      simp only [tests_newTrialA.j0]; rw [if_neg (by decide)]
      unfold tests_newTrial_1.f tests_newTrial_2.f
      rw [h4, show c.all (inB 1 100) = false by simpa using h5]; simp
    ·have hc : caseB a b c = false := by unfold caseB; rw [show a.all (inB 1 1000) = false by simpa using h4]; simp
     rw [hc, if_neg (by decide)]
     refine Ev.step (fun k => ?_) hj1
     show tests_newTrialA.j0 (k + 1) (a.length : Int) false a b c = _
     simp only [tests_newTrialA.j0]; rw [if_neg (by decide)]
     unfold tests_newTrial_1.f
     rw [show a.all (inB 1 1000) = false by simpa using h4]; simp
   ·have e3 : ((c.length : Int) != (b.length : Int)) = true := by simp; omega
    have hc : caseB a b c = false := by unfold caseB; simp [h3]
    rw [e3, hc, if_neg (by decide)]
    exact bad
  ·have hc : caseB a b c = false := by unfold caseB; simp [h2]
   simp only [if_pos (show ((b.length : Int) > 12) by omega)]
   rw [hc, if_neg (by decide)]
   exact bad
 ·have hc : caseB a b c = false := by
   unfold caseB
   have : (decide (1 ≤ a.length) && decide (a.length ≤ 10)) = false := by simp; omega
   rw [this]; simp
  have hwin : tests_within.f (a.length : Int) 1 10 = some false := within_no _ _ _ (by omega)
  rw [hwin, hc, if_neg (by decide)]
  simp only [Option.bind_some]
  exact bad
theorem newTrial_all (a : List Int) (b : List (List Int)) (c : List Int) : Ev (fun k => tests_newTrial.f k a b c) (trialR a b c) := by
 unfold tests_newTrial.f
 refine Ev.bind (newTrialA_all a b c) ?_
 unfold trialR trialOf
 by_cases h : caseB a b c = true
 ·rw [if_pos h, if_pos h]; exact Ev.now _
 ·rw [if_neg h, if_neg h]; exact Ev.now _
end Go.Proofs.YtekmiepdodaidaaDoor.X
end

section
namespace Go.Proofs.YtekmiepdodaidaaDoor.X
open Go.RowKit Go.Proofs.YtekmiepdodaidaaDoorW.PrintWords Go.Proofs.YtekmiepdodaidaaDoorW.PrintLast Go.Proofs.YtekmiepdodaidaaDoorW.PrintMore
attribute [local go_sem] max2_int min2_int max_two min_two max_three min_three max_four min_four   -- for this text's walks alone
set_option linter.unusedVariables false
set_option linter.unusedSimpArgs false

def tests_faults_has.f (a0 : Int) (a1 : Int) : Option (Bool) := if 0 ≤ a1 then (some ((Go.bits .and .u64 (shr .u64 a0 a1) 1) == 1)) else (none)
set_option maxHeartbeats 8000000 in
set_option maxRecDepth 100000 in
theorem tests_faults_has.calls (a0 : Int) (a1 : Int) (r : Bool) (w : World) (h : tests_faults_has.f a0 a1 = some r) :
  Calls Tryd.prog 58 #[.int .u64 a0, .int .i64 a1] w fun e w' => e = .returned (.bool r) ∧ Drawn0 w w' := by
 have H : (if 0 ≤ a1 then (some ((Go.bits .and .u64 (shr .u64 a0 a1) 1) == 1)) else (none)) = some r := h
 clear h
 by_cases c3 : 0 ≤ a1
 ·rw [if_pos c3] at H
  have c3b0 := eq_true c3
  have c3b1 : decide (0 ≤ a1) = true := decide_eq_true c3
  clear c3
  obtain ⟨ji4, hji4⟩ : ∃ j_ : Int, (shr .u64 a0 a1) = j_ := ⟨_, rfl⟩
  replace H : (some ((Go.bits .and .u64 (ji4) 1) == 1)) = some r := by first | (rw [hji4] at H; exact H) | (simp only [hji4] at H ⊢; exact H)
  have hji4_ : (a0 / 2 ^ min a1.toNat 64) = ji4 := hji4
  have hji4z : a1 ≤ 64 → (a0 / 2 ^ a1.toNat) = ji4 := shr_small hji4
  obtain rfl := Option.some.inj H
  go_enter Tryd.func58, Tryd.ntmps58
  go_wp2
  go_ret
  exact ⟨by first | rfl | (simp; done) | (simp only [← hji4] <;> (first | rfl | simp)) | (simp [*]; done), by repeat (first | exact Drawn0.refl _ | apply Drawn0.step)⟩
 ·rw [if_neg c3] at H
  exact absurd H (by simp)

end Go.Proofs.YtekmiepdodaidaaDoor.X
end

section
/- slices.ContainsFunc over a trial's tests: does any tell two faults apart? -/
set_option linter.unusedVariables false
set_option linter.unusedSimpArgs false
namespace Go.Proofs.YtekmiepdodaidaaDoor.X
open Go.RowKit Go.Proofs.YtekmiepdodaidaaDoorW.PrintWords Go.Proofs.YtekmiepdodaidaaDoorW.PrintLast Go.Proofs.YtekmiepdodaidaaDoorW.PrintMore

/-- Is fault f in the set s? -/
def hasB (s f : Int) : Bool := (Go.bits .and .u64 (shr .u64 s f) 1) == 1
/-- Does the test s have the same result at a and b? -/
def sameB (a b s : Int) : Bool := hasB s a == hasB s b
theorem has_n (s f : Int) (w : World) (h0 : 0 ≤ f) : Calls Tryd.prog 58 #[.int .u64 s, .int .i64 f] w fun e w' => e = .returned (.bool (hasB s f)) ∧ w = w' := by
 have c3b0 := eq_true h0
 have c3b1 : decide (0 ≤ f) = true := decide_eq_true h0
 unfold hasB
 obtain ⟨ji4, hji4⟩ : ∃ j_ : Int, (shr .u64 s f) = j_ := ⟨_, rfl⟩
 rw [hji4]
 have hji4_ : (s / 2 ^ min f.toNat 64) = ji4 := hji4
 have hji4z : f ≤ 64 → (s / 2 ^ f.toNat) = ji4 := shr_small hji4
 clear h0
 go_enter Tryd.func58, Tryd.ntmps58
 go_wp2
 go_ret
 exact ⟨rfl, rfl⟩

set_option maxHeartbeats 4000000 in
set_option maxRecDepth 100000 in
theorem same67 (a b s : Int) (B C : Nat) (w : World) (h0 : 0 ≤ a) (h1 : 0 ≤ b) (hb : w.cell? ⟨B, 0, none⟩ = some (.int .i64 a)) (hc : w.cell? ⟨C, 0, none⟩ = some (.int .i64 b)) :
  Calls Tryd.prog 67 #[.int .u64 s, .pointer (some ⟨B, 0, none⟩), .pointer (some ⟨C, 0, none⟩)] w fun e w' => e = .returned (.bool (!sameB a b s)) ∧ Drawn0 w w' := by
 have H0 := Aside0.mk h0
 have H1 := Aside0.mk h1
 clear h0 h1
 obtain ⟨p, hp⟩ : ∃ p, hasB s a = p := ⟨_, rfl⟩
 obtain ⟨q, hq⟩ : ∃ q, hasB s b = q := ⟨_, rfl⟩
 have HP := Aside0.mk hp
 have HQ := Aside0.mk hq
 have HE := Aside0.mk (show (!sameB a b s) = (p != q) by unfold sameB; rw [hp, hq]; rfl)
 clear hp hq
 rw [HE.out]
 go_enter Tryd.func67, Tryd.ntmps67
 go_wp2
 refine start_ (n := 8) (S := fun w' => w'.cell? ⟨B, 0, none⟩ = some (.int .i64 a) ∧ w'.cell? ⟨C, 0, none⟩ = some (.int .i64 b)) (ds := []) #[false, false, false, false, false, false, false, false] (by kernel_rfl) rfl rfl ⟨hb, hc⟩ (fun hHeld => ?_)
 clear hb hc
 generalize hwd : w.drew = w1 at hHeld ⊢
 have HWD := Aside0.mk hwd
 clear hwd
 refine pure_ (i := 0) (N := (some 5)) (v := ?_) (a' := ?_) #[true, false, false, false, false, false, false, false] rfl rfl (by kernel_rfl) (fun _ _ _ h => h) (Or.inl ⟨by rfl, ?_⟩) ?_ ?_
 rotate_left
 ·intro w'
  go_simp
  with_reducible rfl
 rotate_left
 ·simp only [Act.put, List.setIfInBounds_toArray, List.set_cons_zero, List.set_cons_succ, i64_w, i32_w]
  rfl
 refine pure_ (i := 3) (N := (some 8)) (v := ?_) (a' := ?_) #[true, false, false, true, false, false, false, false] rfl rfl (by kernel_rfl) (fun _ _ _ h => h) (Or.inl ⟨by rfl, ?_⟩) ?_ ?_
 rotate_left
 ·intro w'
  go_simp
  with_reducible rfl
 rotate_left
 ·simp only [Act.put, List.setIfInBounds_toArray, List.set_cons_zero, List.set_cons_succ, i64_w, i32_w]
  rfl
 refine take_ (i := 1) (N := (some 6)) (v := ?_) (a' := ?_) #[true, true, false, true, false, false, false, false] rfl rfl (by kernel_rfl) (fun _ _ _ h => h) (Or.inl ⟨by rfl, ?_⟩) hHeld ?_ ?_
 rotate_left
 ·rintro w' ⟨s0, s1⟩
  go_simp
  with_reducible rfl
 rotate_left
 ·simp only [Act.put, List.setIfInBounds_toArray, List.set_cons_zero, List.set_cons_succ, i64_w, i32_w]
  rfl
 refine take_ (i := 4) (N := (some 9)) (v := ?_) (a' := ?_) #[true, true, false, true, true, false, false, false] rfl rfl (by kernel_rfl) (fun _ _ _ h => h) (Or.inl ⟨by rfl, ?_⟩) hHeld ?_ ?_
 rotate_left
 ·rintro w' ⟨s0, s1⟩
  go_simp
  with_reducible rfl
 rotate_left
 ·simp only [Act.put, List.setIfInBounds_toArray, List.set_cons_zero, List.set_cons_succ, i64_w, i32_w]
  rfl
 refine one_ (i := 2) (N := (some 7)) #[true, true, true, true, true, false, false, false] rfl rfl (by kernel_rfl) (by decide) (fun K hK => ?_)
 refine goes_ Tryd.func58 (by kernel_rfl) rfl #[.int .u64 s, .int .i64 a] (by rfl) rfl rfl (by (try simp only [List.map_toArray, List.map_cons, List.map_nil]); first | done | rfl) ?_
 refine (has_n s a _ H0.out).mono ?_
 rintro e w' ⟨rfl, rfl⟩
 rw [HP.out]
 refine ⟨_, rfl, ?_⟩
 refine hK.out _ _ hHeld (fun hHeld => ?_)
 clear hK K
 refine norm_ (a' := ?_) ?_ ?_
 rotate_left
 ·show Act.put _ (some 7) _ = _
  simp only [Act.put, List.setIfInBounds_toArray, List.set_cons_zero, List.set_cons_succ, i64_w, i32_w]
  rfl
 refine one_ (i := 5) (N := (some 10)) #[true, true, true, true, true, true, false, false] rfl rfl (by kernel_rfl) (by decide) (fun K hK => ?_)
 refine goes_ Tryd.func58 (by kernel_rfl) rfl #[.int .u64 s, .int .i64 b] (by rfl) rfl rfl (by (try simp only [List.map_toArray, List.map_cons, List.map_nil]); first | done | rfl) ?_
 refine (has_n s b _ H1.out).mono ?_
 rintro e w' ⟨rfl, rfl⟩
 rw [HQ.out]
 refine ⟨_, rfl, ?_⟩
 refine hK.out _ _ hHeld (fun hHeld => ?_)
 clear hK K
 refine norm_ (a' := ?_) ?_ ?_
 rotate_left
 ·show Act.put _ (some 10) _ = _
  simp only [Act.put, List.setIfInBounds_toArray, List.set_cons_zero, List.set_cons_succ, i64_w, i32_w]
  rfl
 refine pure_ (i := 6) (N := (some 11)) (v := ?_) (a' := ?_) #[true, true, true, true, true, true, true, false] rfl rfl (by kernel_rfl) (fun _ _ _ h => h) (Or.inl ⟨by rfl, ?_⟩) ?_ ?_
 rotate_left
 ·intro w'
  go_simp
  with_reducible rfl
 rotate_left
 ·simp only [Act.put, List.setIfInBounds_toArray, List.set_cons_zero, List.set_cons_succ, i64_w, i32_w]
  rfl
 refine pure_ (i := 7) (N := (some 4)) (v := ?_) (a' := ?_) #[true, true, true, true, true, true, true, true] rfl rfl (by kernel_rfl) (fun _ _ _ h => h) (Or.inl ⟨by rfl, ?_⟩) ?_ ?_
 rotate_left
 ·intro w'
  go_simp
  with_reducible rfl
 rotate_left
 ·simp only [Act.put, List.setIfInBounds_toArray, List.set_cons_zero, List.set_cons_succ, i64_w, i32_w]
  rfl
 refine done_ (by kernel_rfl) ?_
 go_wp2
 go_ret
 exact ⟨rfl, 1, HWD.out.symm⟩

/-- Where the first test stands that tells a and b apart. -/
def SomeTest (a b : Int) (l : List Int) (w : World) (e : Ending) (w' : World) : Prop := ∃ v : Int, e = .returned (.int .i64 v) ∧ Drawn0 w w' ∧ (0 ≤ v ↔ l.all (sameB a b) = false)
set_option maxHeartbeats 2000000 in
set_option maxRecDepth 100000 in
theorem idx67 (a b : Int) (B C : Nat) (A : Option Addr) (c : Nat) (l : List Int) (w : World) (h0 : 0 ≤ a) (h1 : 0 ≤ b) (hb : w.cell? ⟨B, 0, none⟩ = some (.int .i64 a)) (hc : w.cell? ⟨C, 0, none⟩ = some (.int .i64 b)) (hr : Kd.C (Kd.int .u64) w A l.length l) :
  Calls Tryd.prog 75 #[.slice A l.length c, .func (.func 67) #[] #[.pointer (some ⟨B, 0, none⟩), .pointer (some ⟨C, 0, none⟩)]] w (SomeTest a b l w) := by
 have HR := Aside0.mk hr
 have H0 := Aside0.mk h0
 have H1 := Aside0.mk h1
 have HCB := Aside0.mk hb
 have HCC := Aside0.mk hc
 have hm := Kd.C_max hr
 clear hr h0 h1 hb hc
 go_enter Tryd.func75, Tryd.ntmps75
 go_wp2
 go_loopg [8] l.length (fun kq v8 w' => ∃ k nd : Nat, v8 = .int .i64 k ∧ w' = w.drewN nd ∧ Aside0 (kq + k = l.length) ∧ Aside0 (∀ j, j < k → sameB a b (rd l j) = true))
 case atStart => exact ⟨0, 0, rfl, rfl, ⟨by omega⟩, ⟨by intro j hj; omega⟩⟩
 case round =>
  obtain ⟨k, nd, rfl, rfl, HK, HOK⟩ := hrel
  by_cases hk : k < l.length
  ·obtain ⟨ad, e1, hx⟩ := Kd.at_int HR.out (k : Int) (by omega) (by omega)
   cases e1
   simp only [Int.toNat_natCast] at hx
   obtain ⟨x, hx'⟩ : ∃ x, rd l (k : Int) = x := ⟨_, rfl⟩
   rw [hx'] at hx
   have HX := Aside0.mk hx'
   clear hx'
   obtain ⟨p, hp⟩ : ∃ p, sameB a b x = p := ⟨_, rfl⟩
   have HBX := Aside0.mk hp
   clear hp
   cases p with
   | true =>
    go_wp2_with (go_at_call 67; refine (same67 a b x B C _ H0.out H1.out (by simpa using HCB.out) (by simpa using HCC.out)).mono ?_; rintro e w' ⟨he, ⟨n2, rfl⟩⟩; rw [HBX.out] at he; subst he)
    go_roundg (gk - 1)
    case measure => have := HK.out; omega
    case rel => exact ⟨k + 1, _, by go_num, rfl, ⟨by have := HK.out; omega⟩, ⟨by intro j hj; by_cases e : j = k; (subst e; rw [HX.out]; exact HBX.out); exact HOK.out j (by omega)⟩⟩
   | false =>
    have HBAD := Aside0.mk (show l.all (sameB a b) = false by
     rw [List.all_eq_false]
     refine ⟨x, ?_, by rw [HBX.out]; decide⟩
     rw [← HX.out]; simp only [rd, Int.toNat_natCast, List.getD_eq_getElem?_getD, List.getElem?_eq_getElem hk, Option.getD_some]; exact List.getElem_mem hk)
    go_wp2_with (go_at_call 67; refine (same67 a b x B C _ H0.out H1.out (by simpa using HCB.out) (by simpa using HCC.out)).mono ?_; rintro e w' ⟨he, ⟨n2, rfl⟩⟩; rw [HBX.out] at he; subst he)
    go_ret
    exact ⟨k, rfl, ⟨_, rfl⟩, by simp [HBAD.out]⟩
  ·have hk' : k = l.length := by have := HK.out; omega
   have HALL := Aside0.mk (show l.all (sameB a b) = true by
    rw [List.all_eq_true]
    intro x hx
    obtain ⟨i, hi, rfl⟩ := List.getElem_of_mem hx
    have := HOK.out i (by omega)
    simpa [rd, List.getD_eq_getElem?_getD, List.getElem?_eq_getElem hi] using this)
   obtain rfl := hk'
   go_wp2
   go_ret
   exact ⟨-1, rfl, ⟨_, rfl⟩, by simp [HALL.out]⟩

theorem contains67 (a b : Int) (B C : Nat) (A : Option Addr) (c : Nat) (l : List Int) (w : World) (h0 : 0 ≤ a) (h1 : 0 ≤ b) (hb : w.cell? ⟨B, 0, none⟩ = some (.int .i64 a)) (hc : w.cell? ⟨C, 0, none⟩ = some (.int .i64 b)) (hr : Kd.C (Kd.int .u64) w A l.length l) :
  Calls Tryd.prog 66 #[.slice A l.length c, .func (.func 67) #[] #[.pointer (some ⟨B, 0, none⟩), .pointer (some ⟨C, 0, none⟩)]] w fun e w' => e = .returned (.bool (!l.all (sameB a b))) ∧ Drawn0 w w' := by
 have HR := Aside0.mk hr
 have H0 := Aside0.mk h0
 have H1 := Aside0.mk h1
 have HCB := Aside0.mk hb
 have HCC := Aside0.mk hc
 clear hr h0 h1 hb hc
 obtain ⟨p, hp⟩ : ∃ p, l.all (sameB a b) = p := ⟨_, rfl⟩
 rw [hp]
 have HBB := Aside0.mk hp
 clear hp
 go_enter Tryd.func66, Tryd.ntmps66
 go_wp2_with fail
 refine (idx67 a b B C A c l _ H0.out H1.out HCB.out HCC.out HR.out).mono ?_
 rintro e w' ⟨v, rfl, ⟨nd, rfl⟩, hv⟩
 rw [HBB.out] at hv
 cases p with
 | true =>
  have h0 : decide (0 ≤ v) = false := decide_eq_false (fun h => by simpa using hv.1 h)
  clear hv
  go_wp2
  go_ret
  exact ⟨rfl, ⟨_, rfl⟩⟩
 | false =>
  have h0 : decide (0 ≤ v) = true := decide_eq_true (hv.2 rfl)
  clear hv
  go_wp2
  go_ret
  exact ⟨rfl, ⟨_, rfl⟩⟩
end Go.Proofs.YtekmiepdodaidaaDoor.X
end

section
/- (trial).alike, by hand: the pairs of faults that no test tells apart, in their order. -/
set_option linter.unusedVariables false
set_option linter.unusedSimpArgs false
namespace Go.Proofs.YtekmiepdodaidaaDoor.X
open Go.RowKit Go.Proofs.YtekmiepdodaidaaDoorW.PrintWords Go.Proofs.YtekmiepdodaidaaDoorW.PrintLast Go.Proofs.YtekmiepdodaidaaDoorW.PrintMore

/-- The pairs of a with the m faults from b on. -/
def pairsIn (ones : List Int) (a : Nat) : Nat → Nat → List S53
 | _, 0 => []
 | b, m + 1 => (if ones.all (sameB a b) then [(⟨(a : Int), (b : Int)⟩ : S53)] else []) ++ pairsIn ones a (b + 1) m
/-- The pairs of the m faults from a on. -/
def pairsOut (ones : List Int) (n : Nat) : Nat → Nat → List S53
 | _, 0 => []
 | a, m + 1 => pairsIn ones a (a + 1) (n - (a + 1)) ++ pairsOut ones n (a + 1) m
def alikeL (ones : List Int) (n : Nat) : List S53 := pairsOut ones n 0 n
def tests_trial_alike.f (l0_0 : List Int) (l0_1 : List (List Int)) (l0_2 l0_3 : List Int) (a0_4 : Int) : Option (List S53) := if l0_0.length ≤ 10 then some (alikeL l0_3 l0_0.length) else none

theorem pairsIn_len (ones : List Int) (a : Nat) : ∀ m b, (pairsIn ones a b m).length ≤ m
 | 0, _ => by simp [pairsIn]
 | m + 1, b => by
  have := pairsIn_len ones a m (b + 1)
  unfold pairsIn
  rw [List.length_append]
  split <;> simp <;> omega
theorem pairsOut_len (ones : List Int) (n : Nat) : ∀ m a, (pairsOut ones n a m).length ≤ m * n
 | 0, _ => by simp [pairsOut]
 | m + 1, a => by
  have h1 := pairsOut_len ones n m (a + 1)
  have h2 := pairsIn_len ones a (n - (a + 1)) (a + 1)
  unfold pairsOut
  rw [List.length_append, Nat.add_mul]
  omega
theorem info53a : (Tryd.prog.info? 53).map (fun i => (i.zero, i.size, i.bytes)) = some (some (.agg #[(.int .i64 0), (.int .i64 0)]), 2, 16) := by kernel_rfl

theorem drawn_below {w w1 : World} (h : Drawn0 w w1) : Below w.heap.size w w1 := by
 obtain ⟨n, rfl⟩ := h
 exact pw_below_drewN (Below.refl _ _) n
set_option maxHeartbeats 8000000 in
set_option maxRecDepth 100000 in
theorem tests_trial_alike.calls (A0_0 : Option Addr) (c0_0 : Nat) (l0_0 : List Int) (A0_1 : Option Addr) (c0_1 : Nat) (l0_1 : List (List Int)) (A0_2 : Option Addr) (c0_2 : Nat) (l0_2 : List Int) (A0_3 : Option Addr) (c0_3 : Nat) (l0_3 : List Int) (a0_4 : Int) (r : List S53) (w : World)
  (hr0_0 : Kd.C (Kd.int .i64) w A0_0 l0_0.length l0_0) (hc0_0 : l0_0.length ≤ c0_0) (hr0_1 : Kd.C (Kd.slice 3 (Kd.int .i64)) w A0_1 l0_1.length l0_1) (hc0_1 : l0_1.length ≤ c0_1) (hr0_2 : Kd.C (Kd.int .i64) w A0_2 l0_2.length l0_2) (hc0_2 : l0_2.length ≤ c0_2) (hr0_3 : Kd.C (Kd.int .u64) w A0_3 l0_3.length l0_3) (hc0_3 : l0_3.length ≤ c0_3)
  (h : tests_trial_alike.f l0_0 l0_1 l0_2 l0_3 a0_4 = some r) :
  Calls Tryd.prog 49 #[.agg #[.slice A0_0 l0_0.length c0_0, .slice A0_1 l0_1.length c0_1, .slice A0_2 l0_2.length c0_2, .slice A0_3 l0_3.length c0_3, .int .u64 a0_4]] w fun e w' => ∃ v0_ : Value, e = .returned v0_ ∧ Kd.R k53 53 w' w.heap.size (fun _ => True) v0_ r ∧ Below w.heap.size w w' := by
 unfold tests_trial_alike.f at h
 by_cases hn10 : l0_0.length ≤ 10
 rotate_left
 ·rw [if_neg hn10] at h; cases h
 rw [if_pos hn10] at h
 have HT := Aside0.mk (Option.some.inj h)
 have HLEN := Aside0.mk (show r.length ≤ 100 by
  rw [← Option.some.inj h]
  have h1 := pairsOut_len l0_3 l0_0.length l0_0.length 0
  have h2 := Nat.mul_le_mul hn10 hn10
  unfold alikeL; omega)
 have HN := Aside0.mk hn10
 have HR3 := Aside0.mk hr0_3
 have hu53 := Tryd.underlying53
 have hu77 := Tryd.underlying77
 have hu25 := Tryd.underlying25
 clear h hn10 hr0_0 hc0_0 hr0_1 hc0_1 hr0_2 hc0_2 hr0_3 hc0_3
 have HB := Aside0.mk (Below.refl w.heap.size w)
 obtain ⟨n, hn⟩ : ∃ n, n = l0_0.length := ⟨_, rfl⟩
 rw [← hn] at HT HN
 go_enter Tryd.func49, Tryd.ntmps49
 go_upto_region 2 with (first | ((with_reducible refine gate_dst (N := 1) rfl ?_); refine box_event ?hg (N := 1) ?hd (cs := #[.slice A0_0 l0_0.length c0_0, .slice A0_1 l0_1.length c0_1, .slice A0_2 l0_2.length c0_2, .slice A0_3 l0_3.length c0_3, .int .u64 a0_4]) (t := 77) ?hr ?_; (case hd => rfl); (case hg => rfl); (case hr => first | (go_simp; done) | (go_simp; rfl)); intro g1 hg w1 hbox hb; have BK1 := Aside0.mk hbox; have HB1 := Aside0.mk (below_step HB.out hb); have G1 := Aside0.mk (show w.heap.size ≤ g1 by rw [hg]; exact Nat.le_refl _); clear HB hbox hb hg))
 have hcz0 : w1.cell? ⟨g1, 0, none⟩ = some (.slice A0_0 l0_0.length c0_0) := (blk_cell BK1.out 0).trans rfl
 have hfz0 := blk_frozen BK1.out 0
 go_wp2
 go_loopg [3, 10] n (fun kq v3 v10 W => ∃ (a : Nat) (out : List S53) (u : Value), v3 = u ∧ v10 = .int .i64 a ∧ Aside0 (kq + a = n) ∧ Aside0 (out ++ pairsOut l0_3 n a (n - a) = r) ∧ Aside0 (Kd.R k53 53 W w.heap.size (fun _ => True) u out) ∧ Aside0 (W.heap[g1]? = some (.cells #[.slice A0_0 l0_0.length c0_0, .slice A0_1 l0_1.length c0_1, .slice A0_2 l0_2.length c0_2, .slice A0_3 l0_3.length c0_3, .int .u64 a0_4] 77 (0, 0))) ∧ Aside0 (Below w.heap.size w W))
 case atStart => exact ⟨0, [], .slice none 0 0, rfl, rfl, ⟨by omega⟩, ⟨by simpa [alikeL] using HT.out⟩, ⟨Kd.R_nil _ _ _ _ _⟩, BK1, HB1⟩
 case round =>
  clear hcz0 hfz0 BK1 HB1
  obtain ⟨a, out, u, rfl, rfl, HK, HO1, HO, BK, HB⟩ := hrel
  by_cases ha : a < n
  ·have ca : ((a : Int) < (l0_0.length : Int)) = True := eq_true (by omega)
   have cb : decide ((a : Int) < (l0_0.length : Int)) = true := decide_eq_true (by omega)
   obtain ⟨gk0, hgk0⟩ : ∃ g, g = gk := ⟨_, rfl⟩
   have HGK := Aside0.mk hgk0
   clear hgk0
   go_upto_region 5 with (first | ((with_reducible refine gate_dst (N := 4) rfl ?_); refine box_event ?hg (N := 4) ?hd (cs := #[.int .i64 0]) (t := 3) ?hr ?_; (case hd => rfl); (case hg => rfl); (case hr => first | (go_simp; done) | (go_simp; rfl)); intro g4 hg w4 hbox hb; have B4 := Aside0.mk hbox; have BK4 := Aside0.mk (blk_below BK.out hb); have HO4 := Aside0.mk (Kd.R_below HO.out hb); have HB4 := Aside0.mk (below_step HB.out hb); have G4 := Aside0.mk (show w.heap.size ≤ g4 by rw [hg]; exact HB.out.size); have N14 := Aside0.mk (show g1 ≠ g4 by rw [hg]; exact Nat.ne_of_lt (blk_lt BK.out)); have hcz4 : w4.cell? ⟨g4, 0, none⟩ = some (.int .i64 0) := (blk_cell B4.out 0).trans rfl; have hfz4 := blk_frozen B4.out 0; clear BK HO HB hbox hb hg))
   go_wp2_with (first | ((with_reducible refine gate_dst (N := 5) rfl ?_); refine box_event ?hg (N := 5) ?hd (cs := #[.int .i64 0]) (t := 3) ?hr ?_; (case hd => rfl); (case hg => rfl); (case hr => first | (go_simp; done) | (go_simp; rfl)); intro g5 hg w5 hbox hb; have B5 := Aside0.mk hbox; have B45 := Aside0.mk (blk_below (blk_put (cs' := #[.int .i64 (a : Int)]) B4.out 0 (.int .i64 (a : Int)) rfl) hb); have BK5 := Aside0.mk (blk_below (blk_far BK4.out N14.out (.int .i64 (a : Int))) hb); have HO5 := Aside0.mk (Kd.R_below (Kd.R_mono (Kd.R_far (p := ⟨g4, 0, none⟩) (Kd.R_types HO4.out B4.out (by decide)) (fun _ hk => hk.2) (.int .i64 (a : Int))) (fun _ _ => trivial)) hb); have HB5 := Aside0.mk (below_step (below_set HB4.out G4.out) hb); have G5 := Aside0.mk (show w.heap.size ≤ g5 by rw [hg]; exact (below_set HB4.out G4.out).size); have N15 := Aside0.mk (show g1 ≠ g5 by rw [hg]; exact Nat.ne_of_lt (blk_lt (blk_far BK4.out N14.out (.int .i64 (a : Int))))); have N45 := Aside0.mk (show g4 ≠ g5 by rw [hg]; exact Nat.ne_of_lt (blk_lt (blk_put (cs' := #[.int .i64 (a : Int)]) B4.out 0 (.int .i64 (a : Int)) rfl))); have hcz5 : w5.cell? ⟨g5, 0, none⟩ = some (.int .i64 0) := (blk_cell B5.out 0).trans rfl; have hfz5 := blk_frozen B5.out 0; clear B4 BK4 HO4 HB4 hcz4 hfz4 hbox hb hg))
   have HW1 := Aside0.mk (show wrap64 ((a : Int) + 1) = ((a + 1 : Nat) : Int) by have := HN.out; unfold wrap64; omega)
   go_loopg [3, 5] (n - (a + 1)) (fun kq v3 v5 W => ∃ (b g5 : Nat) (out2 : List S53) (u3 : Value), v3 = u3 ∧ v5 = .pointer (some ⟨g5, 0, none⟩) ∧ Aside0 (kq + b = n) ∧ Aside0 (a < b) ∧ Aside0 (out2 ++ (pairsIn l0_3 a b (n - b) ++ pairsOut l0_3 n (a + 1) (n - (a + 1))) = r) ∧ Aside0 (Kd.R k53 53 W w.heap.size (fun _ => True) u3 out2) ∧ Aside0 (W.heap[g1]? = some (.cells #[.slice A0_0 l0_0.length c0_0, .slice A0_1 l0_1.length c0_1, .slice A0_2 l0_2.length c0_2, .slice A0_3 l0_3.length c0_3, .int .u64 a0_4] 77 (0, 0))) ∧ Aside0 (W.heap[g4]? = some (.cells #[.int .i64 (a : Int)] 3 (0, 0))) ∧ Aside0 (W.heap[g5]? = some (.cells #[.int .i64 (b : Int)] 3 (0, 0))) ∧ Aside0 (g1 ≠ g5) ∧ Aside0 (g4 ≠ g5) ∧ Aside0 (w.heap.size ≤ g5) ∧ Aside0 (Below w.heap.size w W))
   case atStart =>
    refine ⟨a + 1, g5, out, _, rfl, rfl, ⟨by omega⟩, ⟨by omega⟩, ⟨?_⟩, ⟨?_⟩, ⟨blk_far BK5.out N15.out _⟩, ⟨blk_far B45.out N45.out _⟩, ⟨blk_put B5.out 0 _ (by rw [HW1.out]; rfl)⟩, N15, N45, G5, ⟨below_set HB5.out G5.out⟩⟩
    ·have e := HO1.out
     rw [show n - a = (n - (a + 1)) + 1 by omega] at e
     exact e
    ·exact Kd.R_mono (Kd.R_far (p := ⟨g5, 0, none⟩) (Kd.R_types HO5.out B5.out (by decide)) (fun _ hk => hk.2) _) (fun _ _ => trivial)
   case round =>
    clear hcz5 hfz5 B5 B45 BK5 HO5 HB5 G5 N15 N45
    obtain ⟨b, g5, out2, u3, rfl, rfl, HK2, HAB, HO2, HO6, BK6, B46, B56, N15, N45, G5, HB6⟩ := hrel
    have hcz5 : wr.cell? ⟨g5, 0, none⟩ = some (.int .i64 (b : Int)) := (blk_cell B56.out 0).trans rfl
    have hfz5 := blk_frozen B56.out 0
    have hcz0 : wr.cell? ⟨g1, 0, none⟩ = some (.slice A0_0 l0_0.length c0_0) := (blk_cell BK6.out 0).trans rfl
    have hcz3 : wr.cell? ⟨g1, 3, none⟩ = some (.slice A0_3 l0_3.length c0_3) := (blk_cell BK6.out 3).trans rfl
    have hcz4 : wr.cell? ⟨g4, 0, none⟩ = some (.int .i64 (a : Int)) := (blk_cell B46.out 0).trans rfl
    have hfz0 := blk_frozen BK6.out 0
    have hfz3 := blk_frozen BK6.out 3
    have hfz4 := blk_frozen B46.out 0
    by_cases hb : b < n
    ·have ca2 : ((b : Int) < (l0_0.length : Int)) = True := eq_true (by omega)
     have cb2 : decide ((b : Int) < (l0_0.length : Int)) = true := decide_eq_true (by omega)
     have HL6 := Aside0.mk (show out2.length ≤ 100 by have h1 := HLEN.out; rw [← HO2.out] at h1; simp only [List.length_append] at h1; omega)
     obtain ⟨sm, hsm⟩ : ∃ sm, l0_3.all (sameB a b) = sm := ⟨_, rfl⟩
     have HSM := Aside0.mk hsm
     clear hsm
     cases sm with
     | true =>
      obtain ⟨y7, hy7⟩ : ∃ y, y = out2 ++ [(⟨(a : Int), (b : Int)⟩ : S53)] := ⟨_, rfl⟩
      have Ny7 := Aside0.mk hy7
      clear hy7
      go_wp2_with (first | (go_at_call 66; refine (contains67 a b g4 g5 A0_3 c0_3 l0_3 _ (by omega) (by omega) hcz4 hcz5 (Kd.C_below HR3.out HB6.out)).mono ?_; rintro e w9 ⟨he, hdr⟩; rw [HSM.out] at he; subst he; have hb := drawn_below hdr; have BK9 := Aside0.mk (blk_below BK6.out hb); have B49 := Aside0.mk (blk_below B46.out hb); have B59 := Aside0.mk (blk_below B56.out hb); have HO9 := Aside0.mk (Kd.R_below HO6.out hb); have HB9 := Aside0.mk (below_step HB6.out hb); clear BK6 B46 B56 HO6 HB6 hcz0 hcz3 hcz4 hcz5 hfz0 hfz3 hfz4 hfz5 hb hdr; have hcz5 : w9.cell? ⟨g5, 0, none⟩ = some (.int .i64 (b : Int)) := (blk_cell B59.out 0).trans rfl; have hfz5 := blk_frozen B59.out 0; have hcz4 : w9.cell? ⟨g4, 0, none⟩ = some (.int .i64 (a : Int)) := (blk_cell B49.out 0).trans rfl; have hfz4 := blk_frozen B49.out 0) | ((with_reducible refine gate_builtin (b := .append) (xs := #[.tmp 28, .tmp 32]) rfl ?_); at_builtin; refine Kd.R_append k53 (w0 := w) w.heap.size rfl (.tmp 28) (.tmp 32) 33 53 (.agg #[(.int .i64 0), (.int .i64 0)]) 16 rfl Tryd.underlying33 info53a rfl (by decide) (by omega) u3 out2 (⟨(a : Int), (b : Int)⟩ : S53) [.int .i64 (a : Int), .int .i64 (b : Int)] (fun _ => True) (fun _ => False) rfl rfl ?aP (fun _ hk => hk.elim) ?aF ?aO ?aB ?aS ?aL ?_; (case aP => exact k53_mkM _ _ _ (⟨(a : Int), (b : Int)⟩ : S53)); (case aB => exact (by repeat (first | (with_reducible first | exact HB9.out | apply below_alloc | apply pw_below_drewN | apply below_drew1) | exact HB9.out))); (case aF => exact (fun _ _ => trivial)); (case aO => exact (by (with_reducible repeat (first | apply Kd.R_alloc | apply Kd.R_drewN | apply Kd.R_drew)); exact HO9.out)); (case aS => exact (below_size (by repeat (first | (with_reducible first | exact HB9.out | apply below_alloc | apply pw_below_drewN | apply below_drew1) | exact HB9.out)))); (case aL => have := HL6.out; omega); intro v7 w7 ho hb hg hat; rw [← Ny7.out] at ho; have BK7 := Aside0.mk (blk_grown BK9.out hg (Kd.R_ne HO9.out BK9.out (by decide))); have B47 := Aside0.mk (blk_grown B49.out hg (Kd.R_ne HO9.out B49.out (by decide))); have B57 := Aside0.mk (blk_grown B59.out hg (Kd.R_ne HO9.out B59.out (by decide))); have HO7 := Aside0.mk ho; have HB7 := Aside0.mk hb; clear BK9 B49 B59 HO9 HB9 hcz4 hfz4 hcz5 hfz5 ho hb hg hat; obtain ⟨Ao7, co7, eo7⟩ := Kd.R_slice HO7.out; subst eo7; have hcz5 : w7.cell? ⟨g5, 0, none⟩ = some (.int .i64 (b : Int)) := (blk_cell B57.out 0).trans rfl; have hfz5 := blk_frozen B57.out 0) | ((with_reducible refine gate_dst (N := 5) rfl ?_); refine box_event ?hg (N := 5) ?hd (cs := #[.int .i64 0]) (t := 3) ?hr ?_; (case hd => rfl); (case hg => rfl); (case hr => first | (go_simp; done) | (go_simp; rfl)); intro g8 hg w8 hbox hb; have B8 := Aside0.mk hbox; have BK8 := Aside0.mk (blk_below BK7.out hb); have B48 := Aside0.mk (blk_below B47.out hb); have HO8 := Aside0.mk (Kd.R_below HO7.out hb); have HB8 := Aside0.mk (below_step HB7.out hb); have G8 := Aside0.mk (show w.heap.size ≤ g8 by rw [hg]; exact HB7.out.size); have N18 := Aside0.mk (show g1 ≠ g8 by rw [hg]; exact Nat.ne_of_lt (blk_lt BK7.out)); have N48 := Aside0.mk (show g4 ≠ g8 by rw [hg]; exact Nat.ne_of_lt (blk_lt B47.out)); have hcz8 : w8.cell? ⟨g8, 0, none⟩ = some (.int .i64 0) := (blk_cell B8.out 0).trans rfl; have hfz8 := blk_frozen B8.out 0; clear BK7 B47 B57 HO7 HB7 hcz5 hfz5 hbox hb hg))
      go_roundg (gk - 1)
      case measure => have := HK2.out; omega
      case rel =>
       rw [show wrap64 ((b : Int) + 1) = ((b + 1 : Nat) : Int) from by have := HN.out; unfold wrap64; omega]
       exact ⟨b + 1, g8, y7, _, rfl, rfl, ⟨by have := HK2.out; omega⟩, ⟨by have := HAB.out; omega⟩, ⟨by have e := HO2.out; rw [show n - b = (n - (b + 1)) + 1 by omega] at e; unfold pairsIn at e; rw [HSM.out] at e; rw [Ny7.out]; simpa using e⟩, ⟨Kd.R_mono (Kd.R_far (p := ⟨g8, 0, none⟩) (Kd.R_mono (Kd.R_far (p := ⟨g8, 0, none⟩) (Kd.R_types HO8.out B8.out (by decide)) (fun _ hk => hk.2) (.int .i64 (b : Int))) (fun k hk => hk)) (fun _ hk => hk.2) (.int .i64 ((b + 1 : Nat) : Int))) (fun _ _ => trivial)⟩, ⟨blk_far (blk_far BK8.out N18.out (.int .i64 (b : Int))) N18.out (.int .i64 ((b + 1 : Nat) : Int))⟩, ⟨blk_far (blk_far B48.out N48.out (.int .i64 (b : Int))) N48.out (.int .i64 ((b + 1 : Nat) : Int))⟩, ⟨blk_put (cs := #[.int .i64 (b : Int)]) (blk_put (cs := #[.int .i64 0]) B8.out 0 (.int .i64 (b : Int)) rfl) 0 (.int .i64 ((b + 1 : Nat) : Int)) rfl⟩, N18, N48, G8, ⟨below_set (below_set HB8.out G8.out) G8.out⟩⟩
     | false =>
      go_wp2_with (first | (go_at_call 66; refine (contains67 a b g4 g5 A0_3 c0_3 l0_3 _ (by omega) (by omega) hcz4 hcz5 (Kd.C_below HR3.out HB6.out)).mono ?_; rintro e w9 ⟨he, hdr⟩; rw [HSM.out] at he; subst he; have hb := drawn_below hdr; have BK9 := Aside0.mk (blk_below BK6.out hb); have B49 := Aside0.mk (blk_below B46.out hb); have B59 := Aside0.mk (blk_below B56.out hb); have HO9 := Aside0.mk (Kd.R_below HO6.out hb); have HB9 := Aside0.mk (below_step HB6.out hb); clear BK6 B46 B56 HO6 HB6 hcz0 hcz3 hcz4 hcz5 hfz0 hfz3 hfz4 hfz5 hb hdr; have hcz5 : w9.cell? ⟨g5, 0, none⟩ = some (.int .i64 (b : Int)) := (blk_cell B59.out 0).trans rfl; have hfz5 := blk_frozen B59.out 0; have hcz4 : w9.cell? ⟨g4, 0, none⟩ = some (.int .i64 (a : Int)) := (blk_cell B49.out 0).trans rfl; have hfz4 := blk_frozen B49.out 0) | ((with_reducible refine gate_dst (N := 5) rfl ?_); refine box_event ?hg (N := 5) ?hd (cs := #[.int .i64 0]) (t := 3) ?hr ?_; (case hd => rfl); (case hg => rfl); (case hr => first | (go_simp; done) | (go_simp; rfl)); intro g8 hg w8 hbox hb; have B8 := Aside0.mk hbox; have BK8 := Aside0.mk (blk_below BK9.out hb); have B48 := Aside0.mk (blk_below B49.out hb); have HO8 := Aside0.mk (Kd.R_below HO9.out hb); have HB8 := Aside0.mk (below_step HB9.out hb); have G8 := Aside0.mk (show w.heap.size ≤ g8 by rw [hg]; exact HB9.out.size); have N18 := Aside0.mk (show g1 ≠ g8 by rw [hg]; exact Nat.ne_of_lt (blk_lt BK9.out)); have N48 := Aside0.mk (show g4 ≠ g8 by rw [hg]; exact Nat.ne_of_lt (blk_lt B49.out)); have hcz8 : w8.cell? ⟨g8, 0, none⟩ = some (.int .i64 0) := (blk_cell B8.out 0).trans rfl; have hfz8 := blk_frozen B8.out 0; clear BK9 B49 B59 HO9 HB9 hcz5 hfz5 hcz4 hfz4 hbox hb hg))
      go_roundg (gk - 1)
      case measure => have := HK2.out; omega
      case rel =>
       rw [show wrap64 ((b : Int) + 1) = ((b + 1 : Nat) : Int) from by have := HN.out; unfold wrap64; omega]
       exact ⟨b + 1, g8, out2, _, rfl, rfl, ⟨by have := HK2.out; omega⟩, ⟨by have := HAB.out; omega⟩, ⟨by have e := HO2.out; rw [show n - b = (n - (b + 1)) + 1 by omega] at e; unfold pairsIn at e; rw [HSM.out] at e; simpa using e⟩, ⟨Kd.R_mono (Kd.R_far (p := ⟨g8, 0, none⟩) (Kd.R_mono (Kd.R_far (p := ⟨g8, 0, none⟩) (Kd.R_types HO8.out B8.out (by decide)) (fun _ hk => hk.2) (.int .i64 (b : Int))) (fun k hk => hk)) (fun _ hk => hk.2) (.int .i64 ((b + 1 : Nat) : Int))) (fun _ _ => trivial)⟩, ⟨blk_far (blk_far BK8.out N18.out (.int .i64 (b : Int))) N18.out (.int .i64 ((b + 1 : Nat) : Int))⟩, ⟨blk_far (blk_far B48.out N48.out (.int .i64 (b : Int))) N48.out (.int .i64 ((b + 1 : Nat) : Int))⟩, ⟨blk_put (cs := #[.int .i64 (b : Int)]) (blk_put (cs := #[.int .i64 0]) B8.out 0 (.int .i64 (b : Int)) rfl) 0 (.int .i64 ((b + 1 : Nat) : Int)) rfl⟩, N18, N48, G8, ⟨below_set (below_set HB8.out G8.out) G8.out⟩⟩
    ·have cb2 : decide ((b : Int) < (l0_0.length : Int)) = false := decide_eq_false (by omega)
     have hc2 : ¬ ((b : Int) < (l0_0.length : Int)) := by omega
     have HK3 := Aside0.mk (show a + 1 + (gk0 - 1) = n by have := HK.out; have := HGK.out; have := HK2.out; omega)
     have HE2 : Aside0 (out2 ++ pairsOut l0_3 n (a + 1) (n - (a + 1)) = r) := by
      have e := HO2.out
      rw [show n - b = 0 by omega] at e
      exact ⟨by simpa [pairsIn] using e⟩
     go_wp2
     go_roundg (gk0 - 1)
     case measure => have := HK.out; have := HGK.out; omega
     case rel => exact ⟨a + 1, out2, _, rfl, by have := HN.out; have e : wrap64 ((a : Int) + 1) = ((a + 1 : Nat) : Int) := (by unfold wrap64; omega); rw [e], ⟨by have := HK3.out; omega⟩, HE2, HO6, BK6, HB6⟩
  ·have cb : decide ((a : Int) < (l0_0.length : Int)) = false := decide_eq_false (by omega)
   have hc : ¬ ((a : Int) < (l0_0.length : Int)) := by omega
   have HE : out = r := by
    have e := HO1.out
    rw [show n - a = 0 by omega] at e
    simpa [pairsOut] using e
   subst HE
   obtain ⟨Ao, co, eo⟩ := Kd.R_slice HO.out
   subst eo
   go_wp2
   go_ret
   exact ⟨_, rfl, HO.out, HB.out⟩
end Go.Proofs.YtekmiepdodaidaaDoor.X
end

section
/- Layer 7, plain: faults of a set; a set of several faults that differ is divided by some test. -/
set_option linter.unusedVariables false
namespace Go.Proofs.YtekmiepdodaidaaDoor.X
open Go.RowKit Go.Proofs.YtekmiepdodaidaaDoorW.PrintWords Go.Proofs.YtekmiepdodaidaaDoorW.PrintLast Go.Proofs.YtekmiepdodaidaaDoorW.PrintMore

theorem hasB_nat (v i : Nat) (hv : v < 1024) : hasB (v : Int) (i : Int) = v.testBit i := by
 unfold hasB shr
 by_cases hi : i ≤ 64
 ·have hm : min (i : Int).toNat IntKind.u64.bits = i := by simp [IntKind.bits]; omega
  rw [hm]
  have hq : (v : Int) / 2 ^ i = ((v / 2 ^ i : Nat) : Int) := by simp
  have hle : v / 2 ^ i ≤ v := Nat.div_le_self _ _
  rw [hq, Nat.testBit_eq_decide_div_mod_eq]
  generalize v / 2 ^ i = q at hle ⊢
  clear hq hm
  rw [u64_and (q : Int) 1 (by omega) (by omega) (by omega) (by omega)]
  simp only [Int.toNat_natCast, Int.toNat_one]
  rw [Nat.and_one_is_mod]
  by_cases h1 : q % 2 = 1
  ·simp [h1]
  ·have h0 : q % 2 = 0 := by omega
   simp [h0]
 ·have hm : min (i : Int).toNat IntKind.u64.bits = 64 := by simp [IntKind.bits]; omega
  rw [hm]
  have hq : (v : Int) / 2 ^ 64 = 0 := by omega
  rw [hq]
  have hb : v.testBit i = false := Nat.testBit_lt_two_pow (Nat.lt_of_lt_of_le hv (show 1024 ≤ 2 ^ i from Nat.le_trans (by decide : 1024 ≤ 2 ^ 64) (Nat.pow_le_pow_right (by omega) (by omega))))
  rw [hb]
  decide
def cntB (v : Nat) : Nat := ((List.range 10).filter fun i => v.testBit i).length
set_option maxRecDepth 100000 in
theorem pcount_nat : ∀ v, v < 1024 → pcount (v : Nat) = (cntB v : Nat) := by decide +kernel
set_option maxRecDepth 100000 in
theorem two_bits : ∀ v, v < 1024 → v ≠ 0 → cntB v ≠ 1 → ∃ a, a < 10 ∧ ∃ b, b < 10 ∧ a < b ∧ v.testBit a = true ∧ v.testBit b = true := by decide +kernel
theorem bSub_nat {v x : Nat} (hv : v < 1024) (hx : x < 1024) : bSub (v : Int) (x : Int) = ((v &&& (18446744073709551615 - x) : Nat) : Int) := by
 unfold bSub
 have := u64_andNot (v : Int) (x : Int) (by omega) (by omega) (by omega) (by omega)
 simpa using this
theorem not_bit {x i : Nat} (hx : x < 1024) (hi : i < 64) : (18446744073709551615 - x).testBit i = !x.testBit i := by
 have h1 : 18446744073709551615 - x = 2 ^ 64 - (x + 1) := by omega
 rw [h1, Nat.testBit_two_pow_sub_succ (by omega)]
 simp [hi]
/-- A test that tells two faults of a set apart divides it. -/
theorem split_of (v x a b : Nat) (hv : v < 1024) (hx : x < 1024) (ha : a < 64) (hb : b < 64) (h1 : v.testBit a = true) (h2 : v.testBit b = true) (h3 : x.testBit a ≠ x.testBit b) : splitB (v : Int) (x : Int) = true := by
 have e1 : bAnd (v : Int) (x : Int) = ((v &&& x : Nat) : Int) := bAnd_nat (s := v) (x := x) (by unfold SetB; omega) (by unfold SetB; omega)
 have e2 := bSub_nat hv hx
 have key : ∀ c d : Nat, c < 64 → d < 64 → v.testBit c = true → v.testBit d = true → x.testBit c = true → x.testBit d = false → v &&& x ≠ 0 ∧ v &&& (18446744073709551615 - x) ≠ 0 := by
  intro c d hc hd vc vd xc xd
  constructor
  ·intro h
   have := congrArg (·.testBit c) h
   simp [Nat.testBit_and, vc, xc] at this
  ·intro h
   have := congrArg (·.testBit d) h
   simp [Nat.testBit_and, vd, not_bit hx hd, xd] at this
 have hk : v &&& x ≠ 0 ∧ v &&& (18446744073709551615 - x) ≠ 0 := by
  cases hxa : x.testBit a
  ·cases hxb : x.testBit b
   ·rw [hxa, hxb] at h3; exact absurd rfl h3
   ·exact key b a hb ha h2 h1 hxb hxa
  ·cases hxb : x.testBit b
   ·exact key a b ha hb h1 h2 hxa hxb
   ·rw [hxa, hxb] at h3; exact absurd rfl h3
 unfold splitB
 rw [e1, e2]
 simp
 omega
theorem pickB_first {c : Int → Int → Int} {s : Int} : ∀ (l : List Int) (k : Nat) (b : Int × Int), (b.1 = -1 ∨ 0 ≤ b.1) →
  ((pickB c s k l b).1 = b.1 ∨ ∃ j, j < l.length ∧ (pickB c s k l b).1 = (k + j : Nat) ∧ splitB s (l.getD j 0) = true) ∧ ((0 ≤ b.1 ∨ ∃ x ∈ l, splitB s x = true) → 0 ≤ (pickB c s k l b).1)
 | [], k, b, hb => ⟨.inl rfl, fun h => by
   rcases h with h | ⟨x, hx, _⟩
   ·exact h
   ·cases hx⟩
 | x :: xs, k, b, hb => by
  unfold pickB
  by_cases hx : splitB s x = true
  ·rw [if_pos hx]
   by_cases ht : b.1 < 0 ∨ c k x < b.2
   ·rw [if_pos ht]
    obtain ⟨h1, h2⟩ := pickB_first (c := c) (s := s) xs (k + 1) ((k : Int), c k x) (.inr (by simp))
    refine ⟨.inr ?_, fun _ => h2 (.inl (by simp))⟩
    rcases h1 with h1 | ⟨j, hj, h1, h3⟩
    ·exact ⟨0, by simp, by simpa using h1, by simpa using hx⟩
    ·exact ⟨j + 1, by simp; omega, by rw [show k + (j + 1) = k + 1 + j by omega]; exact h1, by simpa using h3⟩
   ·rw [if_neg ht]
    obtain ⟨h1, h2⟩ := pickB_first (c := c) (s := s) xs (k + 1) b hb
    refine ⟨?_, fun _ => h2 (.inl (by omega))⟩
    rcases h1 with h1 | ⟨j, hj, h1, h3⟩
    ·exact .inl h1
    ·exact .inr ⟨j + 1, by simp; omega, by rw [show k + (j + 1) = k + 1 + j by omega]; exact h1, by simpa using h3⟩
  ·rw [if_neg hx]
   obtain ⟨h1, h2⟩ := pickB_first (c := c) (s := s) xs (k + 1) b hb
   refine ⟨?_, fun h => h2 ?_⟩
   ·rcases h1 with h1 | ⟨j, hj, h1, h3⟩
    ·exact .inl h1
    ·exact .inr ⟨j + 1, by simp; omega, by rw [show k + (j + 1) = k + 1 + j by omega]; exact h1, by simpa using h3⟩
   ·rcases h with h | ⟨y, hy, hs⟩
    ·exact .inl h
    ·rcases List.mem_cons.1 hy with rfl | hy
     ·exact absurd hs hx
     ·exact .inr ⟨y, hy, hs⟩
/-- The chosen test divides the set. -/
theorem chs_test (mf : Int → Int → Int → Int → Int) (ones : List Int) (ho : ∀ x ∈ ones, SetB x) (s : Int) (hs : SetB s) (hx : ∃ x ∈ ones, splitB s x = true) :
  0 ≤ (chs mf ones s).1 ∧ (chs mf ones s).1 < ones.length ∧ rd ones (chs mf ones s).1 ∈ ones ∧ splitB s (rd ones (chs mf ones s).1) = true := by
 rw [chs_eq mf ones ho s hs]
 unfold chsStep
 obtain ⟨h1, h2⟩ := pickB_first (c := fun k x => mf k s (cstB (chs mf ones) (bSub s x)) (cstB (chs mf ones) (bAnd s x))) (s := s) ones 0 (-1, 0) (.inl rfl)
 have h3 := h2 (.inr hx)
 rcases h1 with h1 | ⟨j, hj, h1, h4⟩
 ·rw [show ((0 : Nat) : Int) = 0 from rfl] at h1 h3
  rw [h1] at h3
  exact absurd h3 (by decide)
 ·rw [show ((0 : Nat) : Int) = 0 from rfl] at h1 h3
  rw [h1]
  have hr : rd ones ((0 + j : Nat) : Int) = ones.getD j 0 := by simp [rd]
  rw [hr]
  refine ⟨by omega, by omega, ?_, h4⟩
  rw [List.getD_eq_getElem?_getD, List.getElem?_eq_getElem hj]
  exact List.getElem_mem hj
theorem pairsIn_none (ones : List Int) (a : Nat) : ∀ m b, pairsIn ones a b m = [] → ∀ j, j < m → ones.all (sameB a ((b + j : Nat) : Int)) = false
 | 0, _, _, j, hj => absurd hj (Nat.not_lt_zero _)
 | m + 1, b, h, j, hj => by
  unfold pairsIn at h
  obtain ⟨h1, h2⟩ := List.append_eq_nil_iff.1 h
  by_cases e : j = 0
  ·subst e
   cases hc : ones.all (sameB (a : Int) ((b + 0 : Nat) : Int))
   ·rfl
   ·rw [Nat.add_zero] at hc
    rw [if_pos hc] at h1
    cases h1
  ·have := pairsIn_none ones a m (b + 1) h2 (j - 1) (by omega)
   rwa [show b + 1 + (j - 1) = b + j by omega] at this
theorem pairsOut_none (ones : List Int) (n : Nat) : ∀ m a, pairsOut ones n a m = [] → ∀ j, j < m → ∀ q, a + j < q → q < n → ones.all (sameB ((a + j : Nat) : Int) ((q : Nat) : Int)) = false
 | 0, _, _, j, hj, _, _, _ => absurd hj (Nat.not_lt_zero _)
 | m + 1, a, h, j, hj, q, h3, h4 => by
  unfold pairsOut at h
  obtain ⟨h1, h2⟩ := List.append_eq_nil_iff.1 h
  by_cases e : j = 0
  ·subst e
   have := pairsIn_none ones a (n - (a + 1)) (a + 1) h1 (q - (a + 1)) (by omega)
   rwa [show a + 1 + (q - (a + 1)) = q by omega] at this
  ·have := pairsOut_none ones n m (a + 1) h2 (j - 1) (by omega) q (by omega) h4
   rwa [show a + 1 + (j - 1) = a + j by omega] at this
theorem alikeL_none {ones : List Int} {n : Nat} (h : alikeL ones n = []) {a b : Nat} (hab : a < b) (hb : b < n) : ∃ x ∈ ones, sameB a b x = false := by
 have := pairsOut_none ones n n 0 h a (by omega) b (by omega) hb
 rw [Nat.zero_add] at this
 simpa [List.all_eq_false] using this
theorem onesOf_set {n : Nat} (hn : n ≤ 10) {b : List (List Int)} (h : b.all (rowOkB n) = true) : ∀ x ∈ onesOf b, SetB x := by
 intro x hx
 obtain ⟨l, hl, rfl⟩ := List.mem_map.1 hx
 have h1 := List.all_eq_true.1 h l hl
 unfold rowOkB at h1
 simp only [Bool.and_eq_true, beq_iff_eq] at h1
 have h2 := rowV_lt l (fun y hy => by have := (all_inB _ _ _).1 h1.2 y hy; omega)
 have h3 : 2 ^ l.length ≤ 2 ^ 10 := Nat.pow_le_pow_right (by omega) (by omega)
 unfold SetB; omega
/-- If all faults differ, a set of several faults is divided by some test. -/
theorem some_split {n : Nat} (hn : n ≤ 10) {ones : List Int} (ho : ∀ x ∈ ones, SetB x) (h : alikeL ones n = []) (s : Int) (hs : SetB s) (h1 : 1 ≤ s) (h2 : s < (2 ^ n : Nat)) (hp : pcount s ≠ 1) : ∃ x ∈ ones, splitB s x = true := by
 obtain ⟨v, rfl⟩ : ∃ v : Nat, s = v := ⟨s.toNat, by omega⟩
 unfold SetB at hs
 have hv : v < 1024 := by omega
 rw [pcount_nat v hv] at hp
 obtain ⟨a, ha, b, hb, hab, ta, tb⟩ := two_bits v hv (by omega) (by omega)
 have hbn : b < n := by
  rcases Nat.lt_or_ge b n with h | h
  ·exact h
  ·have : v.testBit b = false := Nat.testBit_lt_two_pow (Nat.lt_of_lt_of_le (by omega) (Nat.pow_le_pow_right (by omega) h))
   rw [this] at tb; cases tb
 obtain ⟨x, hx, hxs⟩ := alikeL_none h hab hbn
 have hxb := ho x hx
 unfold SetB at hxb
 obtain ⟨y, rfl⟩ : ∃ y : Nat, x = y := ⟨x.toNat, by omega⟩
 refine ⟨_, hx, split_of v y a b hv (by omega) (by omega) (by omega) ta tb ?_⟩
 unfold sameB at hxs
 rw [hasB_nat y a (by omega), hasB_nat y b (by omega)] at hxs
 intro e
 rw [e] at hxs
 simp at hxs
end Go.Proofs.YtekmiepdodaidaaDoor.X
end

section
/- tests.newTrial and (trial).alike as the hand-walked callers take them: by whether the case is one. -/
set_option linter.unusedVariables false
set_option linter.unusedSimpArgs false
namespace Go.Proofs.YtekmiepdodaidaaDoor.X
open Go.RowKit Go.Proofs.YtekmiepdodaidaaDoorW.PrintWords Go.Proofs.YtekmiepdodaidaaDoorW.PrintLast Go.Proofs.YtekmiepdodaidaaDoorW.PrintMore

/-- A case's slices, as they lie. -/
structure CaseAt (w : World) (A0 : Option Addr) (c0 : Nat) (a : List Int) (A1 : Option Addr) (c1 : Nat) (b : List (List Int)) (A2 : Option Addr) (c2 : Nat) (c : List Int) : Prop where
 r0 : Kd.C (Kd.int .i64) w A0 a.length a
 n0 : a.length ≤ c0
 r1 : Kd.C (Kd.slice 3 (Kd.int .i64)) w A1 b.length b
 n1 : b.length ≤ c1
 r2 : Kd.C (Kd.int .i64) w A2 c.length c
 n2 : c.length ≤ c2
theorem CaseAt.below {w w' : World} {A0 : Option Addr} {c0 : Nat} {a : List Int} {A1 : Option Addr} {c1 : Nat} {b : List (List Int)} {A2 : Option Addr} {c2 : Nat} {c : List Int} (h : CaseAt w A0 c0 a A1 c1 b A2 c2 c) (hb : Below w.heap.size w w') : CaseAt w' A0 c0 a A1 c1 b A2 c2 c :=
 ⟨Kd.C_below h.r0 hb, h.n0, Kd.C_below h.r1 hb, h.n1, Kd.C_below h.r2 hb, h.n2⟩
section
variable {A0 : Option Addr} {c0 : Nat} {a : List Int} {A1 : Option Addr} {c1 : Nat} {b : List (List Int)} {A2 : Option Addr} {c2 : Nat} {c : List Int} {w : World}
def TrialBad (w : World) (e : Ending) (w' : World) : Prop := ∃ A3 c3, e = .returned (.tuple #[.agg #[.slice none 0 0, .slice none 0 0, .slice none 0 0, .slice A3 0 c3, .int .u64 0], .int .i64 2]) ∧ Below w.heap.size w w'
def TrialGood (A0 : Option Addr) (c0 : Nat) (a : List Int) (A1 : Option Addr) (c1 : Nat) (b : List (List Int)) (A2 : Option Addr) (c2 : Nat) (c : List Int) (w : World) (e : Ending) (w' : World) : Prop :=
 ∃ A3 c3, e = .returned (.tuple #[.agg #[.slice A0 a.length c0, .slice A1 b.length c1, .slice A2 c.length c2, .slice A3 (onesOf b).length c3, .int .u64 ((2 ^ a.length : Nat) - 1)], .int .i64 0]) ∧ (Kd.C (Kd.int .u64) w' A3 (onesOf b).length (onesOf b) ∧ (onesOf b).length ≤ c3) ∧ Below w.heap.size w w'
theorem trial_bad (h : CaseAt w A0 c0 a A1 c1 b A2 c2 c) (hc : caseB a b c = false) : Calls Tryd.prog 45 #[.agg #[.slice A0 a.length c0, .slice A1 b.length c1, .slice A2 c.length c2]] w (TrialBad w) := by
 obtain ⟨k, hk⟩ := (newTrialA_all a b c).rounds
 rw [hc, if_neg (by decide)] at hk
 refine (tests_newTrialA.calls k A0 c0 a A1 c1 b A2 c2 c _ _ _ _ _ _ w h.r0 h.n0 h.r1 h.n1 h.r2 h.n2 hk).mono ?_
 rintro e w' ⟨v0, v1, v2, v3, rfl, ht, hv3, hb⟩
 obtain ⟨A3, c3, rfl⟩ := Kd.R_slice hv3
 rcases ht with ⟨h6, rfl, rfl, rfl⟩ | ⟨h6, rfl, rfl, rfl⟩
 ·exact absurd h6 (by decide)
 ·exact ⟨A3, c3, rfl, hb⟩
theorem trial_good (h : CaseAt w A0 c0 a A1 c1 b A2 c2 c) (hc : caseB a b c = true) : Calls Tryd.prog 45 #[.agg #[.slice A0 a.length c0, .slice A1 b.length c1, .slice A2 c.length c2]] w (TrialGood A0 c0 a A1 c1 b A2 c2 c w) := by
 obtain ⟨k, hk⟩ := (newTrialA_all a b c).rounds
 rw [hc, if_pos rfl] at hk
 refine (tests_newTrialA.calls k A0 c0 a A1 c1 b A2 c2 c _ _ _ _ _ _ w h.r0 h.n0 h.r1 h.n1 h.r2 h.n2 hk).mono ?_
 rintro e w' ⟨v0, v1, v2, v3, rfl, ht, hv3, hb⟩
 obtain ⟨A3, c3, rfl⟩ := Kd.R_slice hv3
 rcases ht with ⟨h6, rfl, rfl, rfl⟩ | ⟨h6, rfl, rfl, rfl⟩
 ·exact ⟨A3, c3, rfl, ⟨(Kd.R_reads' hv3).2.2, (Kd.R_reads' hv3).2.1⟩, hb⟩
 ·exact absurd h6 (by decide)
/-- What holds of a case. -/
structure CaseIs (a : List Int) (b : List (List Int)) (c : List Int) : Prop where
 a1 : 1 ≤ a.length
 a10 : a.length ≤ 10
 b12 : b.length ≤ 12
 cb : c.length = b.length
 wa : ∀ x ∈ a, 1 ≤ x ∧ x ≤ 1000
 wc : ∀ x ∈ c, 1 ≤ x ∧ x ≤ 100
 rows : b.all (rowOkB a.length) = true
theorem case_is (h : caseB a b c = true) : CaseIs a b c := by
 unfold caseB at h
 simp only [Bool.and_eq_true, decide_eq_true_eq, beq_iff_eq] at h
 obtain ⟨⟨⟨⟨⟨⟨h1, h2⟩, h3⟩, h4⟩, h5⟩, h6⟩, h7⟩ := h
 exact ⟨h1, h2, h3, h4, fun x hx => (all_inB _ _ _).1 h5 x hx, fun x hx => (all_inB _ _ _).1 h6 x hx, h7⟩
theorem onesOf_len : (onesOf b).length = b.length := by unfold onesOf; exact List.length_map ..
def allOf (a : List Int) : Int := (2 ^ a.length : Nat) - 1
theorem allOf_set (h : CaseIs a b c) : SetB (allOf a) ∧ 1 ≤ allOf a := by
 have hp : 2 ^ a.length ≤ 2 ^ 10 := Nat.pow_le_pow_right (by omega) h.a10
 have hq : 2 ^ 1 ≤ 2 ^ a.length := Nat.pow_le_pow_right (by omega) h.a1
 unfold allOf SetB
 omega
/-- The pairs that no test tells apart. -/
def AlikePost (l : List S53) (w : World) (e : Ending) (w' : World) : Prop := ∃ A n, e = .returned (.slice A l.length n) ∧ Below w.heap.size w w'
theorem alike_n (h : CaseAt w A0 c0 a A1 c1 b A2 c2 c) (hc : CaseIs a b c) (A3 : Option Addr) (c3 : Nat) (ones : List Int) (al : Int) (r3 : Kd.C (Kd.int .u64) w A3 ones.length ones) (n3 : ones.length ≤ c3) :
  Calls Tryd.prog 49 #[.agg #[.slice A0 a.length c0, .slice A1 b.length c1, .slice A2 c.length c2, .slice A3 ones.length c3, .int .u64 al]] w (AlikePost (alikeL ones a.length) w) := by
 refine (tests_trial_alike.calls A0 c0 a A1 c1 b A2 c2 c A3 c3 ones al (alikeL ones a.length) w h.r0 h.n0 h.r1 h.n1 h.r2 h.n2 r3 n3 (by unfold tests_trial_alike.f; rw [if_pos hc.a10])).mono ?_
 rintro e w' ⟨v, rfl, hv, hb⟩
 obtain ⟨A, n, rfl⟩ := Kd.R_slice hv
 exact ⟨A, n, rfl, hb⟩
end
theorem field96 (w : World) (x y : Int) : (Instr.field 96 (.agg #[.int .i64 x, .int .i64 y]) 0).run Tryd.prog w = .ok (.int .i64 x) w ∧ (Instr.field 96 (.agg #[.int .i64 x, .int .i64 y]) 1).run Tryd.prog w = .ok (.int .i64 y) w := by
 have ha : (asAgg (.agg #[.int .i64 x, .int .i64 y])).run Tryd.prog w = .ok #[.int .i64 x, .int .i64 y] w := rfl
 constructor <;> (simp [Instr.field, run_underlying Tryd.underlying96, part, isAgg, run_underlying Tryd.underlying3, ha]; try rfl)
set_option maxRecDepth 100000 in
/-- The test that the map of the choices has at a set. -/
theorem test60 {W : World} {gq B n : Nat} {f : KMap} {s t co : Int} (hs : SetB s) (hcz : W.cell? ⟨gq, 0, none⟩ = some (.map (some B))) (hm : MapIs Tryd.prog 75 W B n f) (hv : f (ky s) = some (.agg #[.int .i64 t, .int .i64 co])) :
  Calls Tryd.prog 60 #[.int .u64 s, .pointer (some ⟨gq, 0, none⟩)] W fun e w' => e = .returned (.int .i64 t) ∧ Below W.heap.size W w' := by
 have hlook := hm.look (t := 93) (e := 96) keyed75 Tryd.underlying93 (zero96 W) (ky_of hs)
 rw [hv] at hlook
 simp only [Option.getD_some] at hlook
 have hf := fun w => (field96 w t co).1
 clear hm hv hs
 go_enter Tryd.func60, Tryd.ntmps60
 go_wp2
 go_ret
 exact ⟨rfl, Below.refl _ _⟩
theorem chs_one (mf : Int → Int → Int → Int → Int) (ones : List Int) (ho : ∀ x ∈ ones, SetB x) (s : Int) (hs : SetB s) (h : ∀ x ∈ ones, splitB s x = false) : chs mf ones s = (-1, 0) := by
 rw [chs_eq mf ones ho s hs]
 unfold chsStep
 have : ∀ (c : Int → Int → Int) (l : List Int) (k : Int) (bb : Int × Int), (∀ x ∈ l, splitB s x = false) → pickB c s k l bb = bb := by
  intro c l
  induction l with
  | nil => intro k bb _; rfl
  | cons x xs ih =>
   intro k bb hl
   unfold pickB
   rw [if_neg (by rw [hl x (by simp)]; decide)]
   exact ih _ _ (fun y hy => hl y (by simp [hy]))
 exact this _ _ _ _ h
theorem one_split (s x : Int) (hs : SetB s) (hx : SetB x) (h1 : 1 ≤ s) (hp : pcount s = 1) : splitB s x = false := by
 cases hsp : splitB s x with
 | false => rfl
 | true =>
  exfalso
  obtain ⟨v, rfl⟩ : ∃ v : Nat, s = v := ⟨s.toNat, by omega⟩
  obtain ⟨y, rfl⟩ : ∃ y : Nat, x = y := ⟨x.toNat, by unfold SetB at hx; omega⟩
  unfold SetB at hs hx
  rw [pcount_nat v (by omega)] at hp
  have hone : ∀ v, v < 1024 → v ≠ 0 → cntB v = 1 → ∃ i, i < 10 ∧ v = 2 ^ i := by decide +kernel
  obtain ⟨i, hi, rfl⟩ := hone v (by omega) (by omega) (by omega)
  unfold splitB at hsp
  have e1 : bAnd ((2 ^ i : Nat) : Int) (y : Int) = ((2 ^ i &&& y : Nat) : Int) := by
   rw [bAnd_nat (s := ((2 ^ i : Nat) : Int)) (x := (y : Int)) (by unfold SetB; omega) (by unfold SetB; omega), Int.toNat_natCast, Int.toNat_natCast]
  have e2 := bSub_nat (v := 2 ^ i) (x := y) (by omega) (by omega)
  rw [e1, e2] at hsp
  have hb := not_bit (x := y) (i := i) (by omega) (by omega)
  cases hy : y.testBit i
  ·have : 2 ^ i &&& y = 0 := by
    apply Nat.eq_of_testBit_eq
    intro j
    rw [Nat.testBit_and, Nat.testBit_two_pow]
    by_cases e : i = j
    ·subst e; simp [hy]
    ·simp [e]
   rw [this] at hsp
   simp at hsp
  ·rw [hy] at hb
   have : 2 ^ i &&& (18446744073709551615 - y) = 0 := by
    apply Nat.eq_of_testBit_eq
    intro j
    rw [Nat.testBit_and, Nat.testBit_two_pow]
    by_cases e : i = j
    ·subst e; simp [hb]
    ·simp [e]
   rw [this] at hsp
   simp at hsp
/-- What the map of the choices has at the whole set. -/
theorem val_at {mf : Int → Int → Int → Int → Int} {ones : List Int} {f : KMap} (ho : ∀ x ∈ ones, SetB x) {al : Int} (hs : SetB al) (h1 : 1 ≤ al) (hd : doneB f al)
  (hg : ∀ kl v, f kl = some v → ∃ s, SetB s ∧ 1 ≤ s ∧ kl = ky s ∧ v = .agg #[.int .i64 (chs mf ones s).1, .int .i64 (chs mf ones s).2] ∧ ∀ x ∈ ones, splitB s x = true → doneB f (bSub s x) ∧ doneB f (bAnd s x)) :
  ∃ t, (f (ky al)).getD (.agg #[.int .i64 0, .int .i64 0]) = .agg #[.int .i64 t, .int .i64 (cstB (chs mf ones) al)] := by
 by_cases hp : pcount al = 1
 ·have hch := chs_one mf ones ho al hs (fun x hx => one_split al x hs (ho x hx) h1 hp)
  have hcst : cstB (chs mf ones) al = 0 := by unfold cstB; rw [if_pos hp]
  rw [hcst]
  cases hf : f (ky al) with
  | none => exact ⟨0, rfl⟩
  | some v =>
   obtain ⟨s, _, _, hk, rfl, _⟩ := hg _ _ hf
   obtain rfl := ky_inj hk
   rw [hch]
   exact ⟨-1, rfl⟩
 ·have hcst : cstB (chs mf ones) al = (chs mf ones al).2 := by unfold cstB; rw [if_neg hp]
  rw [hcst]
  rcases hd with hd | hd
  ·exact absurd hd hp
  ·obtain ⟨v, hv⟩ := Option.isSome_iff_exists.1 hd
   obtain ⟨s, _, _, hk, rfl, _⟩ := hg _ _ hv
   obtain rfl := ky_inj hk
   rw [hv]
   exact ⟨_, rfl⟩
/-- The sets that the best plan comes to. -/
def bestR (n : Nat) (f : KMap) (s : Int) : Prop := SetB s ∧ 1 ≤ s ∧ s < (2 ^ n : Nat) ∧ doneB f s
theorem best_runs {n : Nat} (hn : n ≤ 10) {mf : Int → Int → Int → Int → Int} {ones : List Int} {f : KMap} (ho : ∀ x ∈ ones, SetB x) (hal : alikeL ones n = [])
  (hg : ∀ kl v, f kl = some v → ∃ s, SetB s ∧ 1 ≤ s ∧ kl = ky s ∧ v = .agg #[.int .i64 (chs mf ones s).1, .int .i64 (chs mf ones s).2] ∧ ∀ x ∈ ones, splitB s x = true → doneB f (bSub s x) ∧ doneB f (bAnd s x)) :
  Runs (fun s => (chs mf ones s).1) ones (bestR n f) := by
 refine ⟨fun s h => ⟨h.1, h.2.1⟩, fun s h hp => ?_⟩
 obtain ⟨hs, h1, h2, hd⟩ := h
 obtain ⟨t0, t1, t2, t3⟩ := chs_test mf ones ho s hs (some_split hn ho hal s hs h1 h2 hp)
 rcases hd with hd | hd
 ·exact absurd hd hp
 ·obtain ⟨v, hv⟩ := Option.isSome_iff_exists.1 hd
  obtain ⟨u, _, _, hk, _, hcl⟩ := hg _ _ hv
  obtain rfl := ky_inj hk
  obtain ⟨d1, d2⟩ := hcl _ t2 t3
  obtain ⟨⟨p1, p2⟩, q1, q2⟩ := split_parts hs (ho _ t2) t3
  unfold SetB at hs
  exact ⟨t0, t1, ho _ t2, t3, ⟨by unfold SetB; omega, q1, by omega, d1⟩, ⟨by unfold SetB; omega, p1, by omega, d2⟩⟩
theorem best_val {n : Nat} {mf : Int → Int → Int → Int → Int} {ones : List Int} {f : KMap}
  (hg : ∀ kl v, f kl = some v → ∃ s, SetB s ∧ 1 ≤ s ∧ kl = ky s ∧ v = .agg #[.int .i64 (chs mf ones s).1, .int .i64 (chs mf ones s).2] ∧ ∀ x ∈ ones, splitB s x = true → doneB f (bSub s x) ∧ doneB f (bAnd s x)) {s : Int} (h : bestR n f s) (hp : pcount s ≠ 1) :
  f (ky s) = some (.agg #[.int .i64 (chs mf ones s).1, .int .i64 (chs mf ones s).2]) := by
 rcases h.2.2.2 with hd | hd
 ·exact absurd hd hp
 ·obtain ⟨v, hv⟩ := Option.isSome_iff_exists.1 hd
  obtain ⟨u, _, _, hk, rfl, _⟩ := hg _ _ hv
  obtain rfl := ky_inj hk
  exact hv
end Go.Proofs.YtekmiepdodaidaaDoor.X
end

section
/- tests.optimal, by hand, with the measure of function 40. -/
set_option linter.unusedVariables false
set_option linter.unusedSimpArgs false
namespace Go.Proofs.YtekmiepdodaidaaDoor.X
open Go.RowKit Go.Proofs.YtekmiepdodaidaaDoorW.PrintWords Go.Proofs.YtekmiepdodaidaaDoorW.PrintLast Go.Proofs.YtekmiepdodaidaaDoorW.PrintMore

section
variable {A0 : Option Addr} {c0 : Nat} {a : List Int} {A1 : Option Addr} {c1 : Nat} {b : List (List Int)} {A2 : Option Addr} {c2 : Nat} {c : List Int} {w : World}
def OptNone40 (er : Int) (w : World) (e : Ending) (w' : World) : Prop := e = .returned (.tuple #[.slice none 0 0, .int .i64 0, .int .i64 er]) ∧ Below w.heap.size w w'
set_option maxHeartbeats 4000000 in
set_option maxRecDepth 100000 in
theorem opt_bad40 (h : CaseAt w A0 c0 a A1 c1 b A2 c2 c) (hc : caseB a b c = false) : Calls Tryd.prog 39 #[.agg #[.slice A0 a.length c0, .slice A1 b.length c1, .slice A2 c.length c2], .func (.func 40) #[] #[]] w (OptNone40 2 w) := by
 have H := Aside0.mk h
 have HC := Aside0.mk hc
 have HB := Aside0.mk (Below.refl w.heap.size w)
 clear h hc
 go_enter Tryd.func39, Tryd.ntmps39
 go_wp2_with (go_at_call 45; refine (trial_bad (H.out.below ((Below.refl _ _).alloc (Nat.le_refl _) _)) HC.out).mono ?_; rintro e w5 ⟨A3, c3, rfl, hb⟩; have HB5 := Aside0.mk (below_step (below_alloc HB.out _) hb); clear hb)
 go_ret3
 exact ⟨rfl, below_alloc HB5.out _⟩
set_option maxHeartbeats 4000000 in
set_option maxRecDepth 100000 in
theorem opt_alike40 (h : CaseAt w A0 c0 a A1 c1 b A2 c2 c) (hc : caseB a b c = true) (hal : alikeL (onesOf b) a.length ≠ []) : Calls Tryd.prog 39 #[.agg #[.slice A0 a.length c0, .slice A1 b.length c1, .slice A2 c.length c2], .func (.func 40) #[] #[]] w (OptNone40 6 w) := by
 have H := Aside0.mk h
 have HC := Aside0.mk hc
 have HI := Aside0.mk (case_is hc)
 have HB := Aside0.mk (Below.refl w.heap.size w)
 obtain ⟨n, hn⟩ : ∃ n, n = (alikeL (onesOf b) a.length).length := ⟨_, rfl⟩
 have HN := Aside0.mk hn
 have hpos : (0 : Int) < (n : Int) := by have := List.length_pos_iff.2 hal; omega
 clear h hc hal hn
 go_enter Tryd.func39, Tryd.ntmps39
 go_wp2_with (first | (go_at_call 45; refine (trial_good (H.out.below ((Below.refl _ _).alloc (Nat.le_refl _) _)) HC.out).mono ?_; rintro e w5 ⟨A3, c3, rfl, hr3, hb⟩; have HR3 := Aside0.mk hr3; have HB5 := Aside0.mk (below_step (below_alloc HB.out _) hb); clear hr3 hb) | (go_at_call 49; refine (alike_n (H.out.below (below_alloc HB5.out _)) HI.out A3 c3 (onesOf b) _ (Kd.C_alloc HR3.out.1 _) HR3.out.2).mono ?_; rintro e w6 ⟨A4, c4, rfl, hb⟩; have HB6 := Aside0.mk (below_step (below_alloc HB5.out _) hb); rw [← HN.out]; clear hb))
 go_ret3
 exact ⟨rfl, HB6.out⟩
def OptGood40 (l : List S57) (co : Int) (w : World) (e : Ending) (w' : World) : Prop := ∃ v, e = .returned (.tuple #[v, .int .i64 co, .int .i64 0]) ∧ Kd.R k57 57 w' w.heap.size (fun _ => True) v l ∧ Below w.heap.size w w'
/-- What is asked of the measure. -/
def MeasOk40 (a : List Int) (b : List (List Int)) (c : List Int) (mf : Int → Int → Int → Int → Int) : Prop :=
 ∀ (A0 : Option Addr) (c0 : Nat) (A1 : Option Addr) (c1 : Nat) (A2 : Option Addr) (c2 : Nat) (A3 : Option Addr) (c3 : Nat) (w : World) (k : Nat) (s z o : Int), CaseAt w A0 c0 a A1 c1 b A2 c2 c → Kd.C (Kd.int .u64) w A3 (onesOf b).length (onesOf b) → (onesOf b).length ≤ c3 → k < (onesOf b).length → SetB s →
  Calls Tryd.prog 40 #[.agg #[.slice A0 a.length c0, .slice A1 b.length c1, .slice A2 c.length c2, .slice A3 (onesOf b).length c3, .int .u64 (allOf a)], .int .i64 k, .int .u64 s, .int .i64 z, .int .i64 o] w fun e w' => e = .returned (.int .i64 (mf k s z o)) ∧ Below w.heap.size w w'
set_option maxHeartbeats 8000000 in
set_option maxRecDepth 100000 in
theorem opt_good40 (mf : Int → Int → Int → Int → Int) (hM : MeasOk40 a b c mf) (h : CaseAt w A0 c0 a A1 c1 b A2 c2 c) (hc : caseB a b c = true) (hal : alikeL (onesOf b) a.length = []) (hT : Tab w) :
  Calls Tryd.prog 39 #[.agg #[.slice A0 a.length c0, .slice A1 b.length c1, .slice A2 c.length c2], .func (.func 40) #[] #[]] w (OptGood40 (treeB (fun s => (chs mf (onesOf b) s).1) (onesOf b) (allOf a) 0) (cstB (chs mf (onesOf b)) (allOf a)) w) := by
 have H := Aside0.mk h
 have HC := Aside0.mk hc
 have HI := Aside0.mk (case_is hc)
 have HM := Aside0.mk hM
 have HT := Aside0.mk hT
 have HAL := Aside0.mk hal
 have HB := Aside0.mk (Below.refl w.heap.size w)
 have HSET := Aside0.mk (onesOf_set HI.out.a10 HI.out.rows)
 have hpos : (alikeL (onesOf b) a.length).length = 0 := by rw [hal]; rfl
 have HP := Aside0.mk hpos
 have hall : ((2 ^ a.length : Nat) : Int) - 1 = allOf a := rfl
 have HALL := Aside0.mk hall
 clear h hc hal hM hT hpos hall
 go_enter Tryd.func39, Tryd.ntmps39
 go_upto_region 6 with (first | (go_at_call 45; refine (trial_good (H.out.below ((Below.refl _ _).alloc (Nat.le_refl _) _)) HC.out).mono ?_; rintro e w5 ⟨A3, c3, rfl, hr3, hb⟩; rw [HALL.out]; have HR3 := Aside0.mk hr3; have HB5 := Aside0.mk (below_step (below_alloc HB.out _) hb); clear hr3 hb) | (go_at_call 49; refine (alike_n (H.out.below (below_alloc HB5.out _)) HI.out A3 c3 (onesOf b) _ (Kd.C_alloc HR3.out.1 _) HR3.out.2).mono ?_; rintro e w6 ⟨A4, c4, rfl, hb⟩; have HB6 := Aside0.mk (below_step (below_alloc HB5.out _) hb); have HR6 := Aside0.mk (Kd.C_below (Kd.C_alloc HR3.out.1 _) hb); have HX6 := Aside0.mk ((hb.block _ (by rw [size_alloc']; omega)).trans (blk_new w5 _)); rw [HP.out]; clear hb))
 have hz0 : w6.cell? ⟨w5.heap.size, 0, none⟩ = some (.slice A0 a.length c0) := (blk_cell HX6.out 0).trans rfl
 have hz1 : w6.cell? ⟨w5.heap.size, 1, none⟩ = some (.slice A1 b.length c1) := (blk_cell HX6.out 1).trans rfl
 have hz2 : w6.cell? ⟨w5.heap.size, 2, none⟩ = some (.slice A2 c.length c2) := (blk_cell HX6.out 2).trans rfl
 have hz3 : w6.cell? ⟨w5.heap.size, 3, none⟩ = some (.slice A3 (onesOf b).length c3) := (blk_cell HX6.out 3).trans rfl
 have hz4 : w6.cell? ⟨w5.heap.size, 4, none⟩ = some (.int .u64 (allOf a)) := (blk_cell HX6.out 4).trans rfl
 have HC6 := Aside0.mk (H.out.below HB6.out)
 have HN3 := Aside0.mk HR3.out.2
 have H12 := Aside0.mk (show (onesOf b).length ≤ 12 by rw [onesOf_len]; exact HI.out.b12)
 have HBEST := Aside0.mk (best40 A0 c0 a A1 c1 b A2 c2 c A3 c3 (onesOf b) (allOf a) mf w6 HC6.out.r0 HC6.out.n0 HC6.out.r1 HC6.out.n1 HC6.out.r2 HC6.out.n2 HR6.out HN3.out HSET.out H12.out (allOf_set HI.out).1 (allOf_set HI.out).2
  (fun w' k s z o hb hk hs => HM.out A0 c0 A1 c1 A2 c2 A3 c3 w' k s z o (HC6.out.below hb) (Kd.C_below HR6.out hb) HN3.out hk hs))
 go_upto_region 7 with (go_at_call 59; refine HBEST.out.mono ?_; rintro e w7 ⟨B, f, rfl, hmp, hlo, hb, hdn, hgd⟩; have HMP := Aside0.mk hmp; have HLO := Aside0.mk hlo; have HDN := Aside0.mk hdn; have HGD := Aside0.mk hgd; have HB7 := Aside0.mk (below_step HB6.out hb); have HB67 := Aside0.mk hb; clear hmp hlo hb hdn hgd)
 clear hz0 hz1 hz2 hz3 hz4 HBEST
 obtain ⟨t1, ht1⟩ := val_at HSET.out (allOf_set HI.out).1 (allOf_set HI.out).2 HDN.out HGD.out
 obtain ⟨co, hco⟩ : ∃ co, co = cstB (chs mf (onesOf b)) (allOf a) := ⟨_, rfl⟩
 rw [← hco] at ht1
 have HCO := Aside0.mk hco
 have HT1 := Aside0.mk ht1
 obtain ⟨w8, hw8⟩ : ∃ w8, w8 = w7.alloc (.cells #[.map (some B)] 93 (0, 0)) := ⟨_, rfl⟩
 have h78 : Below w7.heap.size w7 w8 := by rw [hw8]; exact below_alloc (Below.refl _ _) _
 have hgq : w8.heap[w7.heap.size]? = some (.cells #[.map (some B)] 93 (0, 0)) := by rw [hw8]; exact blk_new _ _
 have hbx : w8.heap[w5.heap.size]? = some (.cells #[.slice A0 a.length c0, .slice A1 b.length c1, .slice A2 c.length c2, .slice A3 (onesOf b).length c3, .int .u64 (allOf a)] 77 (0, 0)) := blk_below (blk_below HX6.out HB67.out) h78
 have HS : ∀ w', Below w8.heap.size w8 w' → (w'.cell? ⟨w5.heap.size, 0, none⟩ = some (.slice A0 a.length c0) ∧ w'.cell? ⟨w5.heap.size, 1, none⟩ = some (.slice A1 b.length c1) ∧ w'.cell? ⟨w5.heap.size, 2, none⟩ = some (.slice A2 c.length c2) ∧ w'.cell? ⟨w5.heap.size, 3, none⟩ = some (.slice A3 (onesOf b).length c3) ∧ w'.cell? ⟨w5.heap.size, 4, none⟩ = some (.int .u64 (allOf a)) ∧ w'.cell? ⟨w7.heap.size, 0, none⟩ = some (.map (some B)) ∧ (Instr.lookup 93 (.map (some B)) (.int .u64 (allOf a)) false).run Tryd.prog w' = .ok (.agg #[.int .i64 t1, .int .i64 co]) w') := by
  intro w' hb
  have e1 := blk_below hbx hb
  have e2 := blk_below hgq hb
  refine ⟨(blk_cell e1 0).trans rfl, (blk_cell e1 1).trans rfl, (blk_cell e1 2).trans rfl, (blk_cell e1 3).trans rfl, (blk_cell e1 4).trans rfl, (blk_cell e2 0).trans rfl, ?_⟩
  have hl := ((HMP.out.below h78).below hb).look (t := 93) (e := 96) keyed75 Tryd.underlying93 (zero96 w') (ky_of (allOf_set HI.out).1)
  rw [HT1.out] at hl
  exact hl
 have HSS := Aside0.mk HS
 have HP50 := Aside0.mk (fun (w9 : World) (hb : Below w8.heap.size w8 w9) => plan60 A0 c0 a A1 c1 b A2 c2 c A3 c3 (onesOf b) (allOf a) w7.heap.size (fun s => (chs mf (onesOf b) s).1) (bestR a.length f) w9 (Kd.C_below (Kd.C_below (Kd.C_below HR6.out HB67.out) h78) hb) HN3.out ((HT.out.below HB7.out).below h78 |>.below hb) (best_runs HI.out.a10 HSET.out HAL.out HGD.out) ⟨(allOf_set HI.out).1, (allOf_set HI.out).2, (by unfold allOf; omega), HDN.out⟩
  (fun W' hb2 s hR hp => test60 (hR.1) ((blk_cell (blk_below (blk_below hgq hb) hb2) 0).trans rfl) (((HMP.out.below h78).below hb).below hb2) (best_val HGD.out hR hp)))
 have HB8 := Aside0.mk (below_step HB7.out h78)
 have hfd := fun w => (field96 w t1 co).2
 clear HS ht1 h78 hgq hbx hco
 rw [← hw8]
 clear hw8
 go_region_held3 (fun w' => w'.cell? ⟨w5.heap.size, 0, none⟩ = some (.slice A0 a.length c0) ∧ w'.cell? ⟨w5.heap.size, 1, none⟩ = some (.slice A1 b.length c1) ∧ w'.cell? ⟨w5.heap.size, 2, none⟩ = some (.slice A2 c.length c2) ∧ w'.cell? ⟨w5.heap.size, 3, none⟩ = some (.slice A3 (onesOf b).length c3) ∧ w'.cell? ⟨w5.heap.size, 4, none⟩ = some (.int .u64 (allOf a)) ∧ w'.cell? ⟨w7.heap.size, 0, none⟩ = some (.map (some B)) ∧ (Instr.lookup 93 (.map (some B)) (.int .u64 (allOf a)) false).run Tryd.prog w' = .ok (.agg #[.int .i64 t1, .int .i64 co]) w') (first | exact HSS.out _ (below_drew (Below.refl _ _)) | exact HSS.out _ HB9.out)
  ((go_at_call 50; (with_reducible refine (HP50.out _ ?side1).mono ?_); (case side1 => exact below_drew (Below.refl _ _)); rintro e w9 ⟨v9, rfl, hr9, hb9⟩; have HR9 := Aside0.mk hr9; have HB9 := Aside0.mk (below_step (below_drew (Below.refl _ _)) hb9); clear hr9 hb9))
 all_goals
  go_wp2
  go_ret3
  rw [← HCO.out]
  exact ⟨v9, rfl, Kd.R_lower HR9.out (below_size (below_drew HB8.out)), below_step HB8.out HB9.out⟩
end
end Go.Proofs.YtekmiepdodaidaaDoor.X
end
