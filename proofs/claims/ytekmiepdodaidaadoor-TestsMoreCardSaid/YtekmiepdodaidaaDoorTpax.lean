/- Texts behind TestsMore, part 24: contracts of the program's functions and the plain words for them. -/
import Derived.WalkSpells
import Derived.Test.YtekmiepdodaidaaDoorTpas
import Derived.Test.YtekmiepdodaidaaDoorTpau
import Derived.Test.YtekmiepdodaidaaDoorTpav
import Derived.Test.YtekmiepdodaidaaDoorTpaw
section
namespace Go.Proofs.YtekmiepdodaidaaDoor.X
open Go.RowKit Go.Proofs.YtekmiepdodaidaaDoorW.PrintWords Go.Proofs.YtekmiepdodaidaaDoorW.PrintLast Go.Proofs.YtekmiepdodaidaaDoorW.PrintMore
attribute [local go_sem] max2_int min2_int max_two min_two max_three min_three max_four min_four   -- for this text's walks alone
set_option linter.unusedVariables false
set_option linter.unusedSimpArgs false

def cmp_Compare_int.f (a0 : Int) (a1 : Int) : Option (Int) := (cmp_isNaN_int.f a0).bind fun t169 => ((cmp_isNaN_int.f a1).bind fun t170 => (if t169 = true then (if t170 = true then (some 0) else (some (-1))) else (if t170 = true then (some 1) else (if a0 < a1 then (some (-1)) else (if a0 > a1 then (some 1) else (some 0))))))
set_option maxHeartbeats 8000000 in
set_option maxRecDepth 100000 in
theorem cmp_Compare_int.calls (a0 : Int) (a1 : Int) (r : Int) (w : World) (h : cmp_Compare_int.f a0 a1 = some r) :
  Calls Tryd.prog 55 #[.int .i64 a0, .int .i64 a1] w fun e w' => e = .returned (.int .i64 r) ∧ Drawn0 w w' := by
 have H : ((cmp_isNaN_int.f a0).bind fun t169 => ((cmp_isNaN_int.f a1).bind fun t170 => (if t169 = true then (if t170 = true then (some 0) else (some (-1))) else (if t170 = true then (some 1) else (if a0 < a1 then (some (-1)) else (if a0 > a1 then (some 1) else (some 0))))))) = some r := h
 clear h
 replace H := Option.bind_eq_some_iff.mp H
 obtain ⟨t169, A30, H⟩ := H
 replace H : ((cmp_isNaN_int.f a1).bind fun t170 => (if t169 = true then (if t170 = true then (some 0) else (some (-1))) else (if t170 = true then (some 1) else (if a0 < a1 then (some (-1)) else (if a0 > a1 then (some 1) else (some 0)))))) = some r := H
 have A3 := Aside0.mk A30
 clear A30
 replace H := Option.bind_eq_some_iff.mp H
 obtain ⟨t170, A40, H⟩ := H
 replace H : (if t169 = true then (if t170 = true then (some 0) else (some (-1))) else (if t170 = true then (some 1) else (if a0 < a1 then (some (-1)) else (if a0 > a1 then (some 1) else (some 0))))) = some r := H
 have A4 := Aside0.mk A40
 clear A40
 by_cases c5 : t169 = true
 ·subst c5
  have H1 : (if t170 = true then (some 0) else (some (-1))) = some r := by rw [if_pos rfl] at H; exact H
  clear H
  have H := H1
  clear H1
  go_enter Tryd.func55, Tryd.ntmps55
  go_wp2_with (first | ((with_reducible refine gate_callee (f := 71) rfl ?_); refine goesL_ (some 8) rfl rfl Tryd.func71 (by kernel_rfl) rfl #[.int .i64 a0] rfl dz ?_; (with_reducible refine (cmp_isNaN_int.calls a0 true _ A3.out).mono ?_); rintro e w' ⟨rfl, ⟨nd, rfl⟩⟩; refine ⟨_, rfl, ?_⟩; refine hold_ ?_; intro P_ hP_))
  refine hP_.out ?_
  clear hP_ P_
  by_cases c6 : t170 = true
  ·subst c6
   have H1 : (some 0) = some r := by rw [if_pos rfl] at H; exact H
   clear H
   have H := H1
   clear H1
   obtain rfl := Option.some.inj H
   go_wp2_with (first | ((with_reducible refine gate_callee (f := 71) rfl ?_); refine goesL_ (some 10) rfl rfl Tryd.func71 (by kernel_rfl) rfl #[.int .i64 a1] rfl dz ?_; (with_reducible refine (cmp_isNaN_int.calls a1 true _ A4.out).mono ?_); rintro e w' ⟨rfl, ⟨nd, rfl⟩⟩; refine ⟨_, rfl, ?_⟩))
   go_ret
   exact ⟨by first | rfl | (simp; done) | (simp [*]; done), by repeat (first | exact Drawn0.refl _ | apply Drawn0.step)⟩
  ·replace c6 := Bool.eq_false_iff.mpr c6
   subst c6
   have H1 : (some (-1)) = some r := by rw [if_neg (show ¬ (false = true) by decide)] at H; exact H
   clear H
   have H := H1
   clear H1
   obtain rfl := Option.some.inj H
   go_wp2_with (first | ((with_reducible refine gate_callee (f := 71) rfl ?_); refine goesL_ (some 10) rfl rfl Tryd.func71 (by kernel_rfl) rfl #[.int .i64 a1] rfl dz ?_; (with_reducible refine (cmp_isNaN_int.calls a1 false _ A4.out).mono ?_); rintro e w' ⟨rfl, ⟨nd, rfl⟩⟩; refine ⟨_, rfl, ?_⟩))
   go_ret
   exact ⟨by first | rfl | (simp; done) | (simp [*]; done), by repeat (first | exact Drawn0.refl _ | apply Drawn0.step)⟩
 ·replace c5 := Bool.eq_false_iff.mpr c5
  subst c5
  have H1 : (if t170 = true then (some 1) else (if a0 < a1 then (some (-1)) else (if a0 > a1 then (some 1) else (some 0)))) = some r := by rw [if_neg (show ¬ (false = true) by decide)] at H; exact H
  clear H
  have H := H1
  clear H1
  go_enter Tryd.func55, Tryd.ntmps55
  go_wp2_with (first | ((with_reducible refine gate_callee (f := 71) rfl ?_); refine goesL_ (some 8) rfl rfl Tryd.func71 (by kernel_rfl) rfl #[.int .i64 a0] rfl dz ?_; (with_reducible refine (cmp_isNaN_int.calls a0 false _ A3.out).mono ?_); rintro e w' ⟨rfl, ⟨nd, rfl⟩⟩; refine ⟨_, rfl, ?_⟩; refine hold_ ?_; intro P_ hP_))
  refine hP_.out ?_
  clear hP_ P_
  by_cases c7 : t170 = true
  ·subst c7
   have H1 : (some 1) = some r := by rw [if_pos rfl] at H; exact H
   clear H
   have H := H1
   clear H1
   obtain rfl := Option.some.inj H
   go_wp2_with (first | ((with_reducible refine gate_callee (f := 71) rfl ?_); refine goesL_ (some 10) rfl rfl Tryd.func71 (by kernel_rfl) rfl #[.int .i64 a1] rfl dz ?_; (with_reducible refine (cmp_isNaN_int.calls a1 true _ A4.out).mono ?_); rintro e w' ⟨rfl, ⟨nd, rfl⟩⟩; refine ⟨_, rfl, ?_⟩))
   go_ret
   exact ⟨by first | rfl | (simp; done) | (simp [*]; done), by repeat (first | exact Drawn0.refl _ | apply Drawn0.step)⟩
  ·replace c7 := Bool.eq_false_iff.mpr c7
   subst c7
   have H1 : (if a0 < a1 then (some (-1)) else (if a0 > a1 then (some 1) else (some 0))) = some r := by rw [if_neg (show ¬ (false = true) by decide)] at H; exact H
   clear H
   have H := H1
   clear H1
   go_wp2_with (first | ((with_reducible refine gate_callee (f := 71) rfl ?_); refine goesL_ (some 10) rfl rfl Tryd.func71 (by kernel_rfl) rfl #[.int .i64 a1] rfl dz ?_; (with_reducible refine (cmp_isNaN_int.calls a1 false _ A4.out).mono ?_); rintro e w' ⟨rfl, ⟨nd, rfl⟩⟩; refine ⟨_, rfl, ?_⟩; refine hold_ ?_; intro P_ hP_))
   refine hP_.out ?_
   clear hP_ P_
   by_cases c8 : a0 < a1
   ·rw [if_pos c8] at H
    have c8b0 : decide (a0 < a1) = true := decide_eq_true c8
    clear c8
    obtain rfl := Option.some.inj H
    go_wp2_with fail
    go_ret
    exact ⟨by first | rfl | (simp; done) | (simp [*]; done), by repeat (first | exact Drawn0.refl _ | apply Drawn0.step)⟩
   ·rw [if_neg c8] at H
    have c8b0 : decide (a0 < a1) = false := decide_eq_false c8
    clear c8
    by_cases c9 : a0 > a1
    ·rw [if_pos c9] at H
     have c9b0 : decide (a1 < a0) = true := decide_eq_true c9
     clear c9
     obtain rfl := Option.some.inj H
     go_wp2_with fail
     go_ret
     exact ⟨by first | rfl | (simp; done) | (simp [*]; done), by repeat (first | exact Drawn0.refl _ | apply Drawn0.step)⟩
    ·rw [if_neg c9] at H
     have c9b0 : decide (a1 < a0) = false := decide_eq_false c9
     clear c9
     obtain rfl := Option.some.inj H
     go_wp2_with fail
     go_ret
     exact ⟨by first | rfl | (simp; done) | (simp [*]; done), by repeat (first | exact Drawn0.refl _ | apply Drawn0.step)⟩

end Go.Proofs.YtekmiepdodaidaaDoor.X
end

section
namespace Go.Proofs.YtekmiepdodaidaaDoor.X
open Go.RowKit Go.Proofs.YtekmiepdodaidaaDoorW.PrintWords Go.Proofs.YtekmiepdodaidaaDoorW.PrintLast Go.Proofs.YtekmiepdodaidaaDoorW.PrintMore
attribute [local go_sem] max2_int min2_int max_two min_two max_three min_three max_four min_four   -- for this text's walks alone
set_option linter.unusedVariables false
set_option linter.unusedSimpArgs false

def slices_Compare_int_int.l0 : Nat → List Int → List Int → List Int → Int → Int → Option (Int)
 | 0, _, _, _, _, _ => none
 | k + 1, x0, x1, x9, x10, x11 => if x11 < x10 then (if 0 ≤ x11 then (if x11 < (x9.length : Int) then (if x11 ≥ (x1.length : Int) then (some 1) else (if x11 < (x1.length : Int) then ((cmp_Compare_int.f (rd x9 x11) (rd x1 x11)).bind fun t173 => (if t173 = 0 then (slices_Compare_int_int.l0 k x0 x1 x9 x10 (wrap64 (x11 + 1))) else (some t173))) else (none))) else (none)) else (none)) else (if (x0.length : Int) < (x1.length : Int) then (some (-1)) else (some 0))
def slices_Compare_int_int.f (k : Nat) (l0 : List Int) (l1 : List Int) : Option (Int) := slices_Compare_int_int.l0 k l0 l1 l0 (l0.length : Int) 0
set_option maxHeartbeats 8000000 in
set_option maxRecDepth 100000 in
theorem slices_Compare_int_int.calls (k : Nat) (A0 : Option Addr) (c0 : Nat) (l0 : List Int) (A1 : Option Addr) (c1 : Nat) (l1 : List Int) (r : Int) (w : World) (hr0 : Kd.C (Kd.int .i64) w A0 l0.length l0) (hc0 : l0.length ≤ c0) (hr1 : Kd.C (Kd.int .i64) w A1 l1.length l1) (hc1 : l1.length ≤ c1) (h : slices_Compare_int_int.f k l0 l1 = some r) :
  Calls Tryd.prog 56 #[.slice A0 l0.length c0, .slice A1 l1.length c1] w fun e w' => e = .returned (.int .i64 r) ∧ Drawn0 w w' := by
 have HR0 := Aside0.mk hr0
 have HC0 := Aside0.mk hc0
 clear hr0 hc0
 have HR1 := Aside0.mk hr1
 have HC1 := Aside0.mk hc1
 clear hr1 hc1
 have H : (slices_Compare_int_int.l0 k l0 l1 l0 (l0.length : Int) 0) = some r := h
 clear h
 have H' := Aside0.mk H
 clear H
 go_enter Tryd.func56, Tryd.ntmps56
 go_wp2
 go_loopg [11] k (fun kq v11 w' => ∃ (x11_1 : Int), v11 = .int .i64 x11_1 ∧ Aside0 (slices_Compare_int_int.l0 kq l0 l1 l0 (l0.length : Int) x11_1 = some r) ∧ Aside0 (kq ≤ k) ∧ Drawn0 w w')
 case atStart => exact ⟨(0), (by first | rfl | (simp; done) | (simp [*]; done)), H', ⟨Nat.le_refl _⟩, by repeat (first | exact Drawn0.refl _ | apply Drawn0.step)⟩
 case round =>
  clear H'
  try clear c1
  try clear p2
  obtain ⟨x11_1, rfl, HA, HK1, ⟨m1, rfl⟩⟩ := hrel
  cases gk with
  | zero => exact absurd HA.out (by simp [slices_Compare_int_int.l0])
  | succ k1 =>
   have H := HA.out
   clear HA
   simp only [slices_Compare_int_int.l0] at H
   by_cases c3 : x11_1 < (l0.length : Int)
   ·rw [if_pos c3] at H
    have c3b0 : decide (x11_1 < (l0.length : Int)) = true := decide_eq_true c3
    clear c3
    by_cases c4 : 0 ≤ x11_1
    ·rw [if_pos c4] at H
     have c4b0 : decide (0 ≤ x11_1) = true := decide_eq_true c4
     clear c4
     by_cases c5 : x11_1 < (l0.length : Int)
     ·rw [if_pos c5] at H
      have c5b0 : decide (x11_1 < (l0.length : Int)) = true := decide_eq_true c5
      clear c5
      by_cases c6 : x11_1 ≥ (l1.length : Int)
      ·rw [if_pos c6] at H
       have c6b0 : decide ((l1.length : Int) ≤ x11_1) = true := decide_eq_true c6
       clear c6
       obtain rfl := Option.some.inj H
       have p171 : 0 ≤ (x11_1 : Int) := of_decide_eq_true az
       have q171 : x11_1 < (l0.length : Int) := of_decide_eq_true az
       obtain ⟨ad171, e171, hx171_0⟩ := Kd.at_int HR0.out x11_1 p171 q171
       cases e171
       replace p171 := eq_true p171
       replace q171 := eq_true q171
       go_wp2
       go_ret
       exact ⟨by first | rfl | (simp; done) | (simp [*]; done), by repeat (first | exact Drawn0.refl _ | apply Drawn0.step)⟩
      ·rw [if_neg c6] at H
       have c6b0 : decide ((l1.length : Int) ≤ x11_1) = false := decide_eq_false c6
       clear c6
       by_cases c7 : x11_1 < (l1.length : Int)
       ·rw [if_pos c7] at H
        have c7b0 : decide (x11_1 < (l1.length : Int)) = true := decide_eq_true c7
        clear c7
        replace H := Option.bind_eq_some_iff.mp H
        obtain ⟨t173, A80, H⟩ := H
        replace H : (if t173 = 0 then (slices_Compare_int_int.l0 k1 l0 l1 l0 (l0.length : Int) (wrap64 (x11_1 + 1))) else (some t173)) = some r := H
        have A8 := Aside0.mk A80
        clear A80
        by_cases c9 : t173 = 0
        ·rw [if_pos c9] at H
         have c9b0 : (t173 == 0) = true := beq_iff_eq.mpr c9
         have c9b1 : (t173 != 0) = false := bne_eq_false_iff_eq.mpr c9
         clear c9
         have H' := Aside0.mk H
         clear H
         have p171 : 0 ≤ (x11_1 : Int) := of_decide_eq_true az
         have q171 : x11_1 < (l0.length : Int) := of_decide_eq_true az
         obtain ⟨ad171, e171, hx171_0⟩ := Kd.at_int HR0.out x11_1 p171 q171
         cases e171
         replace p171 := eq_true p171
         replace q171 := eq_true q171
         have p172 : 0 ≤ (x11_1 : Int) := of_decide_eq_true az
         have q172 : x11_1 < (l1.length : Int) := of_decide_eq_true az
         obtain ⟨ad172, e172, hx172_0⟩ := Kd.at_int HR1.out x11_1 p172 q172
         cases e172
         replace p172 := eq_true p172
         replace q172 := eq_true q172
         go_wp2_with (first | ((with_reducible refine gate_callee (f := 55) rfl ?_); refine goesL_ (some 26) rfl rfl Tryd.func55 (by kernel_rfl) rfl #[.int .i64 (rd l0 x11_1), .int .i64 (rd l1 x11_1)] rfl dz ?_; (with_reducible refine (cmp_Compare_int.calls (rd l0 x11_1) (rd l1 x11_1) t173 _ A8.out).mono ?_); rintro e w' ⟨rfl, ⟨nd, rfl⟩⟩; refine ⟨_, rfl, ?_⟩))
         go_roundg k1
         case measure => have := HK1.out; omega
         case rel => exact ⟨(wrap64 (x11_1 + 1)), (by first | rfl | (simp; done) | (simp [*]; done)), H', ⟨by have := HK1.out; omega⟩, by repeat (first | exact Drawn0.refl _ | apply Drawn0.step)⟩
        ·rw [if_neg c9] at H
         have c9b0 : (t173 == 0) = false := beq_eq_false_iff_ne.mpr c9
         have c9b1 : (t173 != 0) = true := bne_iff_ne.mpr c9
         obtain rfl := Option.some.inj H
         have p171 : 0 ≤ (x11_1 : Int) := of_decide_eq_true az
         have q171 : x11_1 < (l0.length : Int) := of_decide_eq_true az
         obtain ⟨ad171, e171, hx171_0⟩ := Kd.at_int HR0.out x11_1 p171 q171
         cases e171
         replace p171 := eq_true p171
         replace q171 := eq_true q171
         have p172 : 0 ≤ (x11_1 : Int) := of_decide_eq_true az
         have q172 : x11_1 < (l1.length : Int) := of_decide_eq_true az
         obtain ⟨ad172, e172, hx172_0⟩ := Kd.at_int HR1.out x11_1 p172 q172
         cases e172
         replace p172 := eq_true p172
         replace q172 := eq_true q172
         go_wp2_with (first | ((with_reducible refine gate_callee (f := 55) rfl ?_); refine goesL_ (some 26) rfl rfl Tryd.func55 (by kernel_rfl) rfl #[.int .i64 (rd l0 x11_1), .int .i64 (rd l1 x11_1)] rfl dz ?_; (with_reducible refine (cmp_Compare_int.calls (rd l0 x11_1) (rd l1 x11_1) t173 _ A8.out).mono ?_); rintro e w' ⟨rfl, ⟨nd, rfl⟩⟩; refine ⟨_, rfl, ?_⟩))
         go_ret
         exact ⟨by first | rfl | (simp; done) | (simp [*]; done), by repeat (first | exact Drawn0.refl _ | apply Drawn0.step)⟩
       ·rw [if_neg c7] at H
        exact absurd H (by simp)
     ·rw [if_neg c5] at H
      exact absurd H (by simp)
    ·rw [if_neg c4] at H
     exact absurd H (by simp)
   ·rw [if_neg c3] at H
    have c3b0 : decide (x11_1 < (l0.length : Int)) = false := decide_eq_false c3
    clear c3
    by_cases c10 : (l0.length : Int) < (l1.length : Int)
    ·rw [if_pos c10] at H
     have c10b0 : decide ((l0.length : Int) < (l1.length : Int)) = true := decide_eq_true c10
     have c10b1 : decide (l0.length < l1.length) = true := decide_eq_true (Int.ofNat_lt.mp c10)
     clear c10
     obtain rfl := Option.some.inj H
     go_wp2
     go_ret
     exact ⟨by first | rfl | (simp; done) | (simp [*]; done), by repeat (first | exact Drawn0.refl _ | apply Drawn0.step)⟩
    ·rw [if_neg c10] at H
     have c10b0 : decide ((l0.length : Int) < (l1.length : Int)) = false := decide_eq_false c10
     have c10b1 : decide (l0.length < l1.length) = false := decide_eq_false (fun h => c10 (Int.ofNat_lt.mpr h))
     clear c10
     obtain rfl := Option.some.inj H
     go_wp2
     go_ret
     exact ⟨by first | rfl | (simp; done) | (simp [*]; done), by repeat (first | exact Drawn0.refl _ | apply Drawn0.step)⟩

end Go.Proofs.YtekmiepdodaidaaDoor.X
end

section
/- cmp.Compare, cmp.Or and slices.Compare at ints, each with a plain answer. -/
set_option linter.unusedVariables false
set_option linter.unusedSimpArgs false
namespace Go.Proofs.YtekmiepdodaidaaDoor.X
open Go.RowKit Go.Proofs.YtekmiepdodaidaaDoorW.PrintWords Go.Proofs.YtekmiepdodaidaaDoorW.PrintLast Go.Proofs.YtekmiepdodaidaaDoorW.PrintMore

def cmpI (a b : Int) : Int := if a < b then -1 else if a > b then 1 else 0
def cmpL : List Int → List Int → Int
 | [], [] => 0
 | [], _ :: _ => -1
 | _ :: _, [] => 1
 | a :: x, b :: y => if cmpI a b = 0 then cmpL x y else cmpI a b
def orI (x y : Int) : Int := if x = 0 then y else x
theorem cmpI_f (a b : Int) : cmp_Compare_int.f a b = some (cmpI a b) := by
 unfold cmp_Compare_int.f cmp_isNaN_int.f cmpI
 simp
 by_cases h : a < b
 ·simp [h]
 ·by_cases h2 : b < a <;> simp [h, h2]
theorem cmpL_end : ∀ (y : List Int), cmpL [] y = if 0 < y.length then -1 else 0
 | [] => rfl
 | _ :: _ => by simp [cmpL]
theorem cmpL_l0 (x y : List Int) (hx : x.length ≤ 1000) (hy : y.length ≤ 1000) (m : Nat) : ∀ i, i + m = x.length → (∀ j, j < i → j < y.length) → Ev (fun k => slices_Compare_int_int.l0 k x y x (x.length : Int) (i : Int)) (cmpL (x.drop i) (y.drop i)) := by
 induction m with
 | zero =>
  intro i hi hy2
  obtain rfl : i = x.length := by omega
  refine Ev.step (f := fun _ => some _) (fun k => ?_) (Ev.now _)
  simp only [slices_Compare_int_int.l0]
  rw [if_neg (by omega), List.drop_length, cmpL_end, List.length_drop]
  have hle : x.length ≤ y.length := by
   rcases Nat.eq_zero_or_pos x.length with h | h
   ·omega
   ·have := hy2 (x.length - 1) (by omega); omega
  by_cases h : x.length < y.length
  ·rw [if_pos (by omega), if_pos (by omega)]
  ·rw [if_neg (by omega), if_neg (by omega)]
 | succ m ih =>
  intro i hi hy2
  have hil : i < x.length := by omega
  have hdx : x.drop i = x[i] :: x.drop (i + 1) := List.drop_eq_getElem_cons hil
  by_cases hiy : i < y.length
  ·have hdy : y.drop i = y[i] :: y.drop (i + 1) := List.drop_eq_getElem_cons hiy
   rw [hdx, hdy]
   have hrx : rd x (i : Int) = x[i] := by simp [rd, List.getD_eq_getElem?_getD, List.getElem?_eq_getElem hil]
   have hry : rd y (i : Int) = y[i] := by simp [rd, List.getD_eq_getElem?_getD, List.getElem?_eq_getElem hiy]
   have hw : wrap64 ((i : Int) + 1) = ((i + 1 : Nat) : Int) := by unfold wrap64; omega
   by_cases h0 : cmpI x[i] y[i] = 0
   ·refine Ev.step (fun k => ?_) (by simp only [cmpL, if_pos h0]; exact ih (i + 1) (by omega) (fun j hj => by by_cases e : j = i; omega; exact hy2 j (by omega)))
    show slices_Compare_int_int.l0 (k + 1) x y x (x.length : Int) (i : Int) = _
    simp only [slices_Compare_int_int.l0]
    rw [if_pos (by omega), if_pos (by omega), if_pos (by omega), if_neg (by omega), if_pos (by omega), hrx, hry, cmpI_f, hw]
    simp only [Option.bind_some]
    rw [if_pos h0]
   ·refine Ev.step (f := fun _ => some _) (fun k => ?_) (Ev.now _)
    simp only [slices_Compare_int_int.l0]
    rw [if_pos (by omega), if_pos (by omega), if_pos (by omega), if_neg (by omega), if_pos (by omega), hrx, hry, cmpI_f]
    simp only [Option.bind_some, cmpL]
    rw [if_neg h0, if_neg h0]
  ·have hdy : y.drop i = [] := List.drop_eq_nil_of_le (by omega)
   rw [hdx, hdy]
   refine Ev.step (f := fun _ => some _) (fun k => ?_) (Ev.now _)
   simp only [slices_Compare_int_int.l0, cmpL]
   rw [if_pos (by omega), if_pos (by omega), if_pos (by omega), if_pos (by omega)]
theorem cmpL_f (x y : List Int) (hx : x.length ≤ 1000) (hy : y.length ≤ 1000) : ∃ k, slices_Compare_int_int.f k x y = some (cmpL x y) :=
 (cmpL_l0 x y hx hy x.length 0 (by omega) (fun j hj => absurd hj (Nat.not_lt_zero _))).rounds
theorem orI_f (x y : Int) : cmp_Or_int.f 3 [x, y] = some (orI x y) := by
 unfold cmp_Or_int.f orI
 simp only [cmp_Or_int.l0]
 by_cases h : x = 0
 ·by_cases h2 : y = 0 <;> simp [rd, h, h2, wrap64]
 ·simp [rd, h]
theorem cmpI_n (a b : Int) (w : World) : Calls Tryd.prog 55 #[.int .i64 a, .int .i64 b] w fun e w' => e = .returned (.int .i64 (cmpI a b)) ∧ Drawn0 w w' := cmp_Compare_int.calls a b _ w (cmpI_f a b)
theorem cmpL_n (x y : List Int) (hx : x.length ≤ 1000) (hy : y.length ≤ 1000) (A0 : Option Addr) (c0 : Nat) (A1 : Option Addr) (c1 : Nat) (w : World) (r0 : Kd.C (Kd.int .i64) w A0 x.length x) (n0 : x.length ≤ c0) (r1 : Kd.C (Kd.int .i64) w A1 y.length y) (n1 : y.length ≤ c1) :
  Calls Tryd.prog 56 #[.slice A0 x.length c0, .slice A1 y.length c1] w fun e w' => e = .returned (.int .i64 (cmpL x y)) ∧ Drawn0 w w' := by
 obtain ⟨k, hk⟩ := cmpL_f x y hx hy
 exact slices_Compare_int_int.calls k A0 c0 x A1 c1 y _ w r0 n0 r1 n1 hk
theorem orI_n (x y : Int) (A0 : Option Addr) (c0 : Nat) (w : World) (r0 : Kd.C (Kd.int .i64) w A0 2 [x, y]) (n0 : 2 ≤ c0) :
  Calls Tryd.prog 54 #[.slice A0 2 c0] w fun e w' => e = .returned (.int .i64 (orI x y)) ∧ Drawn0 w w' := cmp_Or_int.calls 3 A0 c0 [x, y] _ w r0 n0 (orI_f x y)
end Go.Proofs.YtekmiepdodaidaaDoor.X
end

section
/- tests.Cover, by hand: the first smallest set of tests that tells all faults apart. -/
set_option linter.unusedVariables false
set_option linter.unusedSimpArgs false
namespace Go.Proofs.YtekmiepdodaidaaDoor.X
open Go.RowKit Go.Proofs.YtekmiepdodaidaaDoorW.PrintWords Go.Proofs.YtekmiepdodaidaaDoorW.PrintLast Go.Proofs.YtekmiepdodaidaaDoorW.PrintMore

/-- The tests of a set, the numbers below T. -/
def selB (set : Nat) : Nat → List Int
 | 0 => []
 | T + 1 => selB set T ++ (if set.testBit T = true then [(T : Int)] else [])
theorem selB_len (set : Nat) : ∀ T, (selB set T).length ≤ T
 | 0 => by simp [selB]
 | T + 1 => by
  have := selB_len set T
  unfold selB
  rw [List.length_append]
  split <;> simp <;> omega
theorem selB_mem (set : Nat) : ∀ T, ∀ k ∈ selB set T, 0 ≤ k ∧ k < T
 | 0, k, h => by simp [selB] at h
 | T + 1, k, h => by
  unfold selB at h
  rcases List.mem_append.1 h with h | h
  ·have := selB_mem set T k h; omega
  ·split at h
   ·simp at h; omega
   ·simp at h
def beforeB (l b : List Int) : Bool := decide (orI (cmpI l.length b.length) (cmpL l b) < 0)
def coverTake (ones : List Int) (n : Nat) (best : Option (List Int)) (l : List Int) : Bool := apartB ones l n && (match best with | none => true | some b => beforeB l b)
def coverStep (ones : List Int) (n : Nat) (best : Option (List Int)) (set : Nat) : Option (List Int) := if coverTake ones n best (selB set ones.length) = true then some (selB set ones.length) else best
def coverB (ones : List Int) (n : Nat) : Nat → Option (List Int)
 | 0 => none
 | m + 1 => coverStep ones n (coverB ones n m) m
theorem coverB_len (ones : List Int) (n : Nat) : ∀ m l, coverB ones n m = some l → l.length ≤ ones.length
 | 0, l, h => by cases h
 | m + 1, l, h => by
  unfold coverB coverStep at h
  split at h
  ·injection h with h; subst h; exact selB_len _ _
  ·exact coverB_len ones n m l h
theorem sel_bit (set k : Nat) (hs : set < 4096) : (Go.bits .and .i64 ((set : Int) / 2 ^ k) 1 == 1) = set.testBit k := by
 rw [Nat.testBit_eq_decide_div_mod_eq]
 have hq : (set : Int) / 2 ^ k = ((set / 2 ^ k : Nat) : Int) := by simp
 have hle : set / 2 ^ k ≤ set := Nat.div_le_self _ _
 rw [hq]
 generalize set / 2 ^ k = q at hle ⊢
 have := (bits_nat .i64 20 (by decide) (fun n h0 h1 => by rw [IntKind.wrap_i64]; omega) q 1 (by omega) (by omega)).1
 rw [show ((1 : Nat) : Int) = 1 from rfl] at this
 rw [this, Nat.and_one_is_mod]
 by_cases h1 : q % 2 = 1
 ·simp [h1]
 ·have h0 : q % 2 = 0 := by omega
  simp [h0]
theorem info3c : (Tryd.prog.info? 3).map (fun i => (i.zero, i.size, i.bytes)) = some (some (.int .i64 0), 1, 8) := by kernel_rfl
/-- The best list so far, as it lies. -/
def BestAt (w : World) (v : Value) (w' : World) : Option (List Int) → Prop
 | none => v = .slice none 0 0
 | some l => ∃ g c, v = .slice (some g) l.length c ∧ Kd.R (Kd.int .i64) 3 w' w.heap.size (fun _ => True) v l
theorem BestAt.below {w w1 w2 : World} {v : Value} {o : Option (List Int)} (h : BestAt w v w1 o) (hb : Below w1.heap.size w1 w2) : BestAt w v w2 o := by
 cases o with
 | none => exact h
 | some l => obtain ⟨g, c, h1, h2⟩ := h; exact ⟨g, c, h1, Kd.R_below h2 hb⟩
theorem R_made0t (w : World) : Kd.R (Kd.int .i64) 3 (w.alloc (.cells #[] 3 (0, 0))) w.heap.size (fun _ => True) (.slice (some ⟨w.heap.size, 0, none⟩) 0 0) ([] : List Int) :=
 ⟨fun _ _ => trivial, [], World.ownsRow_made w #[] 0 (Nat.le_refl _) (Nat.zero_le _) rfl, Reps.none _ _⟩
theorem best_some {w w1 w2 : World} {v : Value} {l : List Int} (h : Kd.R (Kd.int .i64) 3 w2 w1.heap.size (fun _ => True) v ([] ++ l)) (hb : w.heap.size ≤ w1.heap.size) {g0 m : Nat} {v0 : Value} (hv0 : v0 = .slice (some ⟨g0, 0, none⟩) 0 0) (hat : v.ownBlock = v0.ownBlock ∨ ∃ b, v.ownBlock = some b ∧ m ≤ b) : BestAt w v w2 (some l) := by
 rw [List.nil_append] at h
 obtain ⟨A, c, rfl⟩ := Kd.R_slice h
 cases A with
 | none =>
  exfalso
  rcases hat with h1 | ⟨b, h1, _⟩
  ·rw [hv0] at h1; simp [Value.ownBlock] at h1
  ·simp [Value.ownBlock] at h1
 | some g => exact ⟨g, c, rfl, Kd.R_lower h hb⟩
section
variable {A0 : Option Addr} {c0 : Nat} {a : List Int} {A1 : Option Addr} {c1 : Nat} {b : List (List Int)} {A2 : Option Addr} {c2 : Nat} {c : List Int} {w : World}
def CovNone (er : Int) (w : World) (e : Ending) (w' : World) : Prop := e = .returned (.tuple #[.slice none 0 0, .int .i64 er]) ∧ Below w.heap.size w w'
set_option maxHeartbeats 4000000 in
set_option maxRecDepth 100000 in
theorem cov_bad (h : CaseAt w A0 c0 a A1 c1 b A2 c2 c) (hc : caseB a b c = false) : Calls Tryd.prog 28 #[.agg #[.slice A0 a.length c0, .slice A1 b.length c1, .slice A2 c.length c2]] w (CovNone 2 w) := by
 have H := Aside0.mk h
 have HC := Aside0.mk hc
 have HB := Aside0.mk (Below.refl w.heap.size w)
 clear h hc
 go_enter Tryd.func28, Tryd.ntmps28
 go_wp2_with (go_at_call 45; refine (trial_bad (H.out.below ((Below.refl _ _).alloc (Nat.le_refl _) _)) HC.out).mono ?_; rintro e w5 ⟨A3, c3, rfl, hb⟩; have HB5 := Aside0.mk (below_step (below_alloc HB.out _) hb); clear hb)
 go_ret2
 exact ⟨rfl, below_alloc HB5.out _⟩
set_option maxHeartbeats 4000000 in
set_option maxRecDepth 100000 in
theorem cov_alike (h : CaseAt w A0 c0 a A1 c1 b A2 c2 c) (hc : caseB a b c = true) (hal : alikeL (onesOf b) a.length ≠ []) : Calls Tryd.prog 28 #[.agg #[.slice A0 a.length c0, .slice A1 b.length c1, .slice A2 c.length c2]] w (CovNone 6 w) := by
 have H := Aside0.mk h
 have HC := Aside0.mk hc
 have HI := Aside0.mk (case_is hc)
 have HB := Aside0.mk (Below.refl w.heap.size w)
 obtain ⟨n, hn⟩ : ∃ n, n = (alikeL (onesOf b) a.length).length := ⟨_, rfl⟩
 have HN := Aside0.mk hn
 have hpos : (0 : Int) < (n : Int) := by have := List.length_pos_iff.2 hal; omega
 clear h hc hal hn
 go_enter Tryd.func28, Tryd.ntmps28
 go_wp2_with (first | (go_at_call 45; refine (trial_good (H.out.below ((Below.refl _ _).alloc (Nat.le_refl _) _)) HC.out).mono ?_; rintro e w5 ⟨A3, c3, rfl, hr3, hb⟩; have HR3 := Aside0.mk hr3; have HB5 := Aside0.mk (below_step (below_alloc HB.out _) hb); clear hr3 hb) | (go_at_call 49; refine (alike_n (H.out.below (below_alloc HB5.out _)) HI.out A3 c3 (onesOf b) _ (Kd.C_alloc HR3.out.1 _) HR3.out.2).mono ?_; rintro e w6 ⟨A4, c4, rfl, hb⟩; have HB6 := Aside0.mk (below_step (below_alloc HB5.out _) hb); rw [← HN.out]; clear hb))
 go_ret2
 exact ⟨rfl, HB6.out⟩
def CovGood (o : Option (List Int)) (w : World) (e : Ending) (w' : World) : Prop := ∃ v, e = .returned (.tuple #[v, .int .i64 0]) ∧ BestAt w v w' o ∧ Below w.heap.size w w'
set_option maxHeartbeats 16000000 in
set_option maxRecDepth 100000 in
theorem cov_good (h : CaseAt w A0 c0 a A1 c1 b A2 c2 c) (hc : caseB a b c = true) (hal : alikeL (onesOf b) a.length = []) :
  Calls Tryd.prog 28 #[.agg #[.slice A0 a.length c0, .slice A1 b.length c1, .slice A2 c.length c2]] w (CovGood (coverB (onesOf b) a.length (2 ^ (onesOf b).length)) w) := by
 have H := Aside0.mk h
 have HC := Aside0.mk hc
 have HI := Aside0.mk (case_is hc)
 have HB := Aside0.mk (Below.refl w.heap.size w)
 have HSET := Aside0.mk (onesOf_set HI.out.a10 HI.out.rows)
 have hpos : (alikeL (onesOf b) a.length).length = 0 := by rw [hal]; rfl
 have HP := Aside0.mk hpos
 have H12 := Aside0.mk (show (onesOf b).length ≤ 12 by rw [onesOf_len]; exact HI.out.b12)
 have hall : ((2 ^ a.length : Nat) : Int) - 1 = allOf a := rfl
 have HALL := Aside0.mk hall
 clear h hc hal hpos hall
 go_enter Tryd.func28, Tryd.ntmps28
 go_upto_region 6 with (first | (go_at_call 45; refine (trial_good (H.out.below ((Below.refl _ _).alloc (Nat.le_refl _) _)) HC.out).mono ?_; rintro e w5 ⟨A3, c3, rfl, hr3, hb⟩; rw [HALL.out]; have HR3 := Aside0.mk hr3; have HB5 := Aside0.mk (below_step (below_alloc HB.out _) hb); clear hr3 hb) | (go_at_call 49; refine (alike_n (H.out.below (below_alloc HB5.out _)) HI.out A3 c3 (onesOf b) _ (Kd.C_alloc HR3.out.1 _) HR3.out.2).mono ?_; rintro e w6 ⟨A4, c4, rfl, hb⟩; have HB6 := Aside0.mk (below_step (below_alloc HB5.out _) hb); have HR6 := Aside0.mk (Kd.C_below (Kd.C_alloc HR3.out.1 _) hb); have HX6 := Aside0.mk ((hb.block _ (by rw [size_alloc']; omega)).trans (blk_new w5 _)); rw [HP.out]; clear hb))
 have HC6 := Aside0.mk (H.out.below HB6.out)
 have HN3 := Aside0.mk HR3.out.2
 have hz3 : w6.cell? ⟨w5.heap.size, 3, none⟩ = some (.slice A3 (onesOf b).length c3) := (blk_cell HX6.out 3).trans rfl
 have h12 : (onesOf b).length ≤ 12 := H12.out
 clear HP
 obtain ⟨g5, hg5⟩ : ∃ g5, g5 = w5.heap.size := ⟨_, rfl⟩
 rw [← hg5] at HX6 hz3 ⊢
 clear hg5
 obtain ⟨M, hM⟩ : ∃ M : Nat, M = 2 ^ (onesOf b).length := ⟨_, rfl⟩
 have hMle : M ≤ 4096 := by rw [hM]; exact Nat.le_trans (Nat.pow_le_pow_right (by omega) h12) (by decide)
 have hMw : wrap64 (2 ^ (onesOf b).length) = (M : Int) := by
  rw [hM] at hMle ⊢
  have e : (2 : Int) ^ (onesOf b).length = ((2 ^ (onesOf b).length : Nat) : Int) := by simp
  rw [e]; unfold wrap64; omega
 have HM := Aside0.mk hM
 have HML := Aside0.mk hMle
 clear hM hMle
 go_wp2
 rw [hMw]
 clear hMw
 go_loopg [28, 6] M (fun kq v28 v6 w' => ∃ set : Nat, v28 = .int .i64 set ∧ Aside0 (kq + set = M) ∧ Aside0 (Below w6.heap.size w6 w') ∧ Aside0 (BestAt w v6 w' (coverB (onesOf b) a.length set)))
 case atStart => exact ⟨0, rfl, ⟨by omega⟩, ⟨Below.refl _ _⟩, ⟨rfl⟩⟩
 case round =>
  clear hz3
  obtain ⟨set, rfl, HKQ, HBW, HBE⟩ := hrel
  obtain ⟨k1, rfl⟩ : ∃ k1, k1 = gk := ⟨_, rfl⟩
  by_cases hs : set < M
  ·have HBX := Aside0.mk (blk_below HX6.out HBW.out)
   have hz3 : wr.cell? ⟨g5, 3, none⟩ = some (.slice A3 (onesOf b).length c3) := (blk_cell HBX.out 3).trans rfl
   have hs4 : set < 4096 := by have := HML.out; omega
   go_upto_region 12 with (fail)
   clear hz3
   obtain ⟨wo, rfl⟩ : ∃ wo, wo = wr := ⟨_, rfl⟩
   go_loopg [34, 8] (onesOf b).length (fun kq v34 v8 w' => ∃ k : Nat, v34 = .int .i64 k ∧ Aside0 (kq + k = (onesOf b).length) ∧ Aside0 (Below wo.heap.size wo w') ∧ Aside0 (Kd.R (Kd.int .i64) 3 w' wo.heap.size (fun _ => True) v8 (selB set k)))
   case atStart => exact ⟨0, rfl, ⟨by omega⟩, ⟨Below.refl _ _⟩, ⟨Kd.R_nil _ _ _ _ _⟩⟩
   case round =>
    obtain ⟨k, rfl, HJ, HBV, HRL⟩ := hrel
    obtain ⟨k2, rfl⟩ : ∃ k2, k2 = gk := ⟨_, rfl⟩
    by_cases hk : k < (onesOf b).length
    ·obtain ⟨p, hp⟩ : ∃ p, (Go.bits .and .i64 ((set : Int) / 2 ^ k) 1 == 1) = p := ⟨_, rfl⟩
     have HPT := Aside0.mk (show set.testBit k = p by rw [← sel_bit set k hs4]; exact hp)
     have HLN := Aside0.mk (show (selB set k).length ≤ 12 by have := selB_len set k; omega)
     cases p with
     | true =>
      have HSL := Aside0.mk (show selB set (k + 1) = selB set k ++ [(k : Int)] by show selB set k ++ _ = _; rw [if_pos HPT.out])
      go_wp2_with (at_builtin; go_loud (refine Kd.R_append (Kd.int .i64) (w0 := wo) wo.heap.size rfl (.tmp 42) (.tmp 44) 22 3 (.int .i64 0) 8 rfl Tryd.underlying22 info3c rfl (by decide) (by omega) u8 (selB set k) (k : Int) [.int .i64 (k : Int)] (fun _ => True) (fun _ => False) rfl rfl ?aP (fun _ hk => hk.elim) (fun _ _ => trivial) ?aO ?aB ?aS ?aL ?_); go_loud (case aP => exact rfl); go_loud (case aO => first | exact HRL.out | exact Kd.R_alloc HRL.out _); go_loud (case aB => first | exact HBV.out | exact below_alloc HBV.out _); go_loud (case aS => first | exact below_size HBV.out | exact below_size (below_alloc HBV.out _)); go_loud (case aL => have := HLN.out; omega); intro v1 w2 ho hb hg hat; have HO := Aside0.mk ho; have HB2 := Aside0.mk hb; clear ho hb hg hat)
      go_roundg (k2 - 1)
      case measure => have := HJ.out; omega
      case rel => exact ⟨k + 1, by go_num, ⟨by have := HJ.out; omega⟩, HB2, ⟨by rw [HSL.out]; exact HO.out⟩⟩
     | false =>
      have HSL := Aside0.mk (show selB set (k + 1) = selB set k by show selB set k ++ _ = _; rw [if_neg (by rw [HPT.out]; decide), List.append_nil])
      go_wp2
      go_roundg (k2 - 1)
      case measure => have := HJ.out; omega
      case rel => exact ⟨k + 1, by go_num, ⟨by have := HJ.out; omega⟩, HBV, ⟨by rw [HSL.out]; exact HRL.out⟩⟩
    ·obtain rfl : k = (onesOf b).length := by have := HJ.out; omega
     obtain ⟨l, hl⟩ : ∃ l, l = selB set (onesOf b).length := ⟨_, rfl⟩
     rw [← hl] at HRL
     have HLL := Aside0.mk hl
     have HLM := Aside0.mk (show l.length ≤ 12 by rw [hl]; have := selB_len set (onesOf b).length; omega)
     have HLK := Aside0.mk (show ∀ k ∈ l, 0 ≤ k ∧ k < ((onesOf b).length : Int) by rw [hl]; exact selB_mem set _)
     obtain ⟨AL, cl, rfl⟩ := Kd.R_slice HRL.out
     have HRD := Aside0.mk (Kd.R_reads' HRL.out)
     clear hl hk
     have HBY := Aside0.mk (blk_below HBX.out HBV.out)
     go_upto_region 17 with (fail)
     have hq0 : wr.cell? ⟨g5, 0, none⟩ = some (.slice A0 a.length c0) := (blk_cell HBY.out 0).trans rfl
     have hq1 : wr.cell? ⟨g5, 1, none⟩ = some (.slice A1 b.length c1) := (blk_cell HBY.out 1).trans rfl
     have hq2 : wr.cell? ⟨g5, 2, none⟩ = some (.slice A2 c.length c2) := (blk_cell HBY.out 2).trans rfl
     have hq3 : wr.cell? ⟨g5, 3, none⟩ = some (.slice A3 (onesOf b).length c3) := (blk_cell HBY.out 3).trans rfl
     have hq4 : wr.cell? ⟨g5, 4, none⟩ = some (.int .u64 (allOf a)) := (blk_cell HBY.out 4).trans rfl
     have q22 : ∀ (w : World) (a : Option Addr) (n c n' c' : Nat), (binOp .eql 22 (.slice a n c) (.slice none n' c')).run Tryd.prog w = .ok (.bool a.isNone) w := fun w a n c n' c' => Lib.run_eql_slice_nil w _ _ a n c n' c' Tryd.underlying22
     obtain ⟨p, hp⟩ : ∃ p, apartB (onesOf b) l a.length = p := ⟨_, rfl⟩
     have HAP := Aside0.mk hp
     obtain ⟨best, hbest⟩ : ∃ best, best = coverB (onesOf b) a.length set := ⟨_, rfl⟩
     rw [← hbest] at HBE
     have HBQ := Aside0.mk hbest
     have HNX := Aside0.mk (show coverB (onesOf b) a.length (set + 1) = if coverTake (onesOf b) a.length best l = true then some l else best by rw [HLL.out, hbest]; rfl)
     have HBWR := Aside0.mk (HBW.out.trans (HBV.out.mono HBW.out.size))
     clear hp hbest
     cases p with
     | false =>
      have HT := Aside0.mk (show coverB (onesOf b) a.length (set + 1) = best by rw [HNX.out]; unfold coverTake; rw [HAP.out]; rfl)
      go_wp2_with (go_at_call 53; refine (divides_n ((HC6.out.below HBW.out).below HBV.out) HI.out.a10 A3 c3 (onesOf b) (allOf a) (Kd.C_below (Kd.C_below HR6.out HBW.out) HBV.out) HN3.out HSET.out AL cl l HRD.out.2.2 HLM.out HLK.out).mono ?_; rintro e w7 ⟨rfl, hb⟩; rw [HAP.out]; have HB7 := Aside0.mk hb; clear hb)
      go_roundg (k1 - 1)
      case measure => have := HKQ.out; omega
      case rel => exact ⟨set + 1, by go_num, ⟨by have := HKQ.out; omega⟩, ⟨below_step HBWR.out HB7.out⟩, ⟨by rw [HT.out]; exact (HBE.out.below HBV.out).below HB7.out⟩⟩
     | true =>
      cases best with
      | none =>
       obtain rfl := HBE.out
       have HT := Aside0.mk (show coverB (onesOf b) a.length (set + 1) = some l by rw [HNX.out]; unfold coverTake; rw [HAP.out]; rfl)
       go_wp2_with (first | (go_at_call 53; refine (divides_n ((HC6.out.below HBW.out).below HBV.out) HI.out.a10 A3 c3 (onesOf b) (allOf a) (Kd.C_below (Kd.C_below HR6.out HBW.out) HBV.out) HN3.out HSET.out AL cl l HRD.out.2.2 HLM.out HLK.out).mono ?_; rintro e w7 ⟨rfl, hb⟩; rw [HAP.out]; have HB7 := Aside0.mk hb; clear hb) | (at_builtin; go_loud (refine Kd.R_append_rows (Kd.int .i64) (w0 := w7) w7.heap.size rfl (.tmp 67) (.tmp 68) 22 3 (.int .i64 0) 8 rfl Tryd.underlying22 info3c rfl (by decide) (by omega) (.slice (some ⟨w7.heap.size, 0, none⟩) 0 0) ([] : List Int) l _ _ _ (fun _ => True) (fun _ => False) rfl rfl ?aO ?aR (fun _ _ h => h) (fun _ h => h.elim) ?aF ?aB ?aS ?aL ?_); go_loud (case aO => exact R_made0t w7); go_loud (case aR => exact Kd.C_alloc (Kd.C_below HRD.out.2.2 HB7.out) _); go_loud (case aF => exact fun _ _ => trivial); go_loud (case aB => exact below_alloc (Below.refl _ _) _); go_loud (case aS => exact (below_alloc (Below.refl _ _) _).size); go_loud (case aL => have := HLM.out; simp; omega); intro v103 w9 ho hb hg hat; have HO := Aside0.mk ho; have HB9 := Aside0.mk hb; have HAT := Aside0.mk hat; clear ho hb hg hat))
       go_roundg (k1 - 1)
       case measure => have := HKQ.out; omega
       case rel => exact ⟨set + 1, by go_num, ⟨by have := HKQ.out; omega⟩, ⟨below_step (below_step HBWR.out HB7.out) HB9.out⟩, ⟨by rw [HT.out]; exact best_some HO.out (below_size (below_step (below_step (HB6.out) (below_step HBWR.out HB7.out)) (Below.refl _ _))) rfl HAT.out⟩⟩
      | some lb =>
       obtain ⟨gb, cb, rfl, hrb⟩ := HBE.out
       have HRB := Aside0.mk (Kd.C_below (Kd.R_reads' hrb).2.2 HBV.out)
       have HRN := Aside0.mk (Kd.R_reads' hrb).2.1
       have HRO := Aside0.mk hrb
       have HLB := Aside0.mk (show lb.length ≤ 12 by have := coverB_len _ _ _ _ HBQ.out.symm; omega)
       obtain ⟨cx, hcx⟩ : ∃ cx, cmpI l.length lb.length = cx := ⟨_, rfl⟩
       obtain ⟨cy, hcy⟩ : ∃ cy, cmpL l lb = cy := ⟨_, rfl⟩
       obtain ⟨cz, hcz⟩ : ∃ cz, orI cx cy = cz := ⟨_, rfl⟩
       have HCX := Aside0.mk hcx
       have HCY := Aside0.mk hcy
       have HCZ := Aside0.mk hcz
       obtain ⟨q, hq⟩ : ∃ q, decide (cz < 0) = q := ⟨_, rfl⟩
       have HTQ := Aside0.mk (show coverTake (onesOf b) a.length (some lb) l = q by unfold coverTake beforeB; rw [HAP.out, Bool.true_and]; show decide (orI (cmpI (l.length : Int) (lb.length : Int)) (cmpL l lb) < 0) = q; rw [hcx, hcy, hcz, hq])
       clear hrb hcx hcy hcz
       cases q with
       | true =>
        have HT := Aside0.mk (show coverB (onesOf b) a.length (set + 1) = some l by rw [HNX.out, HTQ.out]; rfl)
        go_wp2_with (first | (go_at_call 53; refine (divides_n ((HC6.out.below HBW.out).below HBV.out) HI.out.a10 A3 c3 (onesOf b) (allOf a) (Kd.C_below (Kd.C_below HR6.out HBW.out) HBV.out) HN3.out HSET.out AL cl l HRD.out.2.2 HLM.out HLK.out).mono ?_; rintro e w7 ⟨rfl, hb⟩; rw [HAP.out]; have HB7 := Aside0.mk hb; have HRB7 := Aside0.mk (Kd.C_below HRB.out hb); have HRL7 := Aside0.mk (Kd.C_below HRD.out.2.2 hb); clear hb) | (go_at_call 55; refine (cmpI_n _ _ _).mono ?_; rintro e w' ⟨rfl, ⟨nd1, rfl⟩⟩; rw [HCX.out]) | (go_at_call 56; refine (cmpL_n l lb (by have := HLM.out; omega) (by have := HLB.out; omega) AL cl (some gb) cb _ (Kd.C_drewN HRL7.out _) HRD.out.2.1 (Kd.C_drewN HRB7.out _) HRN.out).mono ?_; rintro e w' ⟨rfl, ⟨nd2, rfl⟩⟩; rw [HCY.out]) | ((with_reducible refine gate_dst (N := 62) rfl ?_); (try (refine gate_guard (by rfl) ?_; dsimp only)); go_loud (refine Kd.R_lit (Kd.int .i64) (w0 := w7) w7.heap.size 3 ?hg (N := 62) ?hd (xs := ([cx, cy] : List Int)) (inner := [.int .i64 cx, .int .i64 cy]) (ok := fun _ => True) (okp := fun _ => True) ?hr ?hp (fun _ hk => hk) trivial ?hB ?hS (by simp) ?_); go_loud (case hd => rfl); go_loud (case hg => rfl); go_loud (case hr => first | (go_simp; done) | (go_simp; rfl)); go_loud (case hp => exact (Reps.one (show Kd.M (Kd.int .i64) _ _ _ cx [.int .i64 cx] from rfl) (Reps.one (show Kd.M (Kd.int .i64) _ _ _ cy [.int .i64 cy] from rfl) (Reps.none _ _)))); go_loud (case hB => repeat (first | (with_reducible first | exact Below.refl _ _ | apply below_alloc | apply pw_below_drewN | apply below_drew1))); go_loud (case hS => exact Nat.le_refl _); intro v62 w8 ho hb hg_ hnew_; obtain ⟨A62, c62, rfl⟩ := Kd.R_slice ho; have HO8 := Aside0.mk (Kd.R_reads' ho); have HB8 := Aside0.mk hb; clear ho hb hg_ hnew_) | (go_at_call 54; go_loud (refine (orI_n cx cy A62 c62 _ HO8.out.2.2 HO8.out.2.1).mono ?_); rintro e w' ⟨rfl, ⟨nd3, rfl⟩⟩; rw [HCZ.out]) | (at_builtin; go_loud (refine Kd.R_append_rows (Kd.int .i64) (w0 := w8.drewN nd3) w8.heap.size rfl (.tmp 67) (.tmp 68) 22 3 (.int .i64 0) 8 rfl Tryd.underlying22 info3c rfl (by decide) (by omega) (.slice (some ⟨w8.heap.size, 0, none⟩) 0 0) ([] : List Int) l _ _ _ (fun _ => True) (fun _ => False) rfl rfl ?aO ?aR (fun _ _ h => h) (fun _ h => h.elim) ?aF ?aB ?aS ?aL ?_); go_loud (case aO => exact R_made0t (w8.drewN nd3)); go_loud (case aR => exact Kd.C_alloc (Kd.C_drewN (Kd.C_below HRL7.out HB8.out) _) _); go_loud (case aF => exact fun _ _ => trivial); go_loud (case aB => exact (show Below (w8.drewN nd3).heap.size _ _ from below_alloc (Below.refl _ _) _)); go_loud (case aS => exact (show (w8.drewN nd3).heap.size ≤ _ from (below_alloc (Below.refl (w8.drewN nd3).heap.size _) _).size)); go_loud (case aL => have := HLM.out; simp; omega); intro v103 w9 ho hb hg hat; have HO := Aside0.mk ho; have HB9 := Aside0.mk hb; have HAT := Aside0.mk hat; clear ho hb hg hat))
        go_roundg (k1 - 1)
        case measure => have := HKQ.out; omega
        case rel => exact ⟨set + 1, by go_num, ⟨by have := HKQ.out; omega⟩, ⟨below_step (below_step (below_step HBWR.out HB7.out) HB8.out) (pw_below_drewN (Below.refl _ _) nd3 |>.trans HB9.out)⟩, ⟨by rw [HT.out]; exact best_some (w1 := w8) HO.out (below_size (below_step (below_step HB6.out (below_step HBWR.out HB7.out)) HB8.out)) rfl HAT.out⟩⟩
       | false =>
        have HT := Aside0.mk (show coverB (onesOf b) a.length (set + 1) = some lb by rw [HNX.out, HTQ.out]; rfl)
        go_wp2_with (first | (go_at_call 53; refine (divides_n ((HC6.out.below HBW.out).below HBV.out) HI.out.a10 A3 c3 (onesOf b) (allOf a) (Kd.C_below (Kd.C_below HR6.out HBW.out) HBV.out) HN3.out HSET.out AL cl l HRD.out.2.2 HLM.out HLK.out).mono ?_; rintro e w7 ⟨rfl, hb⟩; rw [HAP.out]; have HB7 := Aside0.mk hb; have HRB7 := Aside0.mk (Kd.C_below HRB.out hb); have HRL7 := Aside0.mk (Kd.C_below HRD.out.2.2 hb); clear hb) | (go_at_call 55; refine (cmpI_n _ _ _).mono ?_; rintro e w' ⟨rfl, ⟨nd1, rfl⟩⟩; rw [HCX.out]) | (go_at_call 56; refine (cmpL_n l lb (by have := HLM.out; omega) (by have := HLB.out; omega) AL cl (some gb) cb _ (Kd.C_drewN HRL7.out _) HRD.out.2.1 (Kd.C_drewN HRB7.out _) HRN.out).mono ?_; rintro e w' ⟨rfl, ⟨nd2, rfl⟩⟩; rw [HCY.out]) | ((with_reducible refine gate_dst (N := 62) rfl ?_); (try (refine gate_guard (by rfl) ?_; dsimp only)); go_loud (refine Kd.R_lit (Kd.int .i64) (w0 := w7) w7.heap.size 3 ?hg (N := 62) ?hd (xs := ([cx, cy] : List Int)) (inner := [.int .i64 cx, .int .i64 cy]) (ok := fun _ => True) (okp := fun _ => True) ?hr ?hp (fun _ hk => hk) trivial ?hB ?hS (by simp) ?_); go_loud (case hd => rfl); go_loud (case hg => rfl); go_loud (case hr => first | (go_simp; done) | (go_simp; rfl)); go_loud (case hp => exact (Reps.one (show Kd.M (Kd.int .i64) _ _ _ cx [.int .i64 cx] from rfl) (Reps.one (show Kd.M (Kd.int .i64) _ _ _ cy [.int .i64 cy] from rfl) (Reps.none _ _)))); go_loud (case hB => repeat (first | (with_reducible first | exact Below.refl _ _ | apply below_alloc | apply pw_below_drewN | apply below_drew1))); go_loud (case hS => exact Nat.le_refl _); intro v62 w8 ho hb hg_ hnew_; obtain ⟨A62, c62, rfl⟩ := Kd.R_slice ho; have HO8 := Aside0.mk (Kd.R_reads' ho); have HB8 := Aside0.mk hb; clear ho hb hg_ hnew_) | (go_at_call 54; go_loud (refine (orI_n cx cy A62 c62 _ HO8.out.2.2 HO8.out.2.1).mono ?_); rintro e w' ⟨rfl, ⟨nd3, rfl⟩⟩; rw [HCZ.out]))
        go_roundg (k1 - 1)
        case measure => have := HKQ.out; omega
        case rel => exact ⟨set + 1, by go_num, ⟨by have := HKQ.out; omega⟩, ⟨pw_below_drewN (below_step (below_step HBWR.out HB7.out) HB8.out) nd3⟩, ⟨by rw [HT.out]; exact ((((show BestAt w _ _ (some lb) from ⟨gb, cb, rfl, HRO.out⟩).below HBV.out).below HB7.out).below HB8.out).below (pw_below_drewN (Below.refl _ _) nd3)⟩⟩
  ·obtain rfl : set = M := by have := HKQ.out; omega
   go_wp2
   go_ret2
   exact ⟨_, rfl, by rw [← HM.out]; exact HBE.out, HB6.out.trans (HBW.out.mono HB6.out.size)⟩
end
def covRes (a : List Int) (b : List (List Int)) (c : List Int) : List Int × Int :=
 if caseB a b c = true then (if alikeL (onesOf b) a.length = [] then ((coverB (onesOf b) a.length (2 ^ (onesOf b).length)).getD [], 0) else ([], 6)) else ([], 2)
def tests_Cover.f (a : List Int) (b : List (List Int)) (c : List Int) : Option (List Int × Int) := some (covRes a b c)
theorem tests_Cover.calls (A0 : Option Addr) (c0 : Nat) (a : List Int) (A1 : Option Addr) (c1 : Nat) (b : List (List Int)) (A2 : Option Addr) (c2 : Nat) (c : List Int) (r1 : List Int) (r2 : Int) (w : World)
  (h0 : Kd.C (Kd.int .i64) w A0 a.length a) (n0 : a.length ≤ c0) (h1 : Kd.C (Kd.slice 3 (Kd.int .i64)) w A1 b.length b) (n1 : b.length ≤ c1) (h2 : Kd.C (Kd.int .i64) w A2 c.length c) (n2 : c.length ≤ c2) (h : tests_Cover.f a b c = some (r1, r2)) :
  Calls Tryd.prog 28 #[.agg #[.slice A0 a.length c0, .slice A1 b.length c1, .slice A2 c.length c2]] w fun e w' => ∃ v0_ : Value, e = .returned (.tuple #[v0_, .int .i64 r2]) ∧ Kd.R (Kd.int .i64) 3 w' w.heap.size (fun _ => True) v0_ r1 ∧ Below w.heap.size w w' := by
 have H : CaseAt w A0 c0 a A1 c1 b A2 c2 c := ⟨h0, n0, h1, n1, h2, n2⟩
 have hr := Option.some.inj h
 unfold covRes at hr
 by_cases hc : caseB a b c = true
 ·rw [if_pos hc] at hr
  by_cases hal : alikeL (onesOf b) a.length = []
  ·rw [if_pos hal] at hr
   obtain ⟨rfl, rfl⟩ := Prod.mk.inj hr
   refine (cov_good H hc hal).mono ?_
   rintro e w' ⟨v, rfl, hv, hb⟩
   refine ⟨v, rfl, ?_, hb⟩
   cases ho : coverB (onesOf b) a.length (2 ^ (onesOf b).length) with
   | none => rw [ho] at hv; obtain rfl := hv; exact Kd.R_nil _ _ _ _ _
   | some l => rw [ho] at hv; obtain ⟨g, cc, rfl, hR⟩ := hv; exact hR
  ·rw [if_neg hal] at hr
   obtain ⟨rfl, rfl⟩ := Prod.mk.inj hr
   exact (cov_alike H hc hal).mono fun e w' ⟨h1, h2⟩ => ⟨_, h1, Kd.R_nil _ _ _ _ _, h2⟩
 ·rw [if_neg hc] at hr
  obtain ⟨rfl, rfl⟩ := Prod.mk.inj hr
  exact (cov_bad H (by simpa using hc)).mono fun e w' ⟨h1, h2⟩ => ⟨_, h1, Kd.R_nil _ _ _ _ _, h2⟩
end Go.Proofs.YtekmiepdodaidaaDoor.X
end

section
namespace Go.Proofs.YtekmiepdodaidaaDoor.X
open Go.RowKit Go.Proofs.YtekmiepdodaidaaDoorW.PrintWords Go.Proofs.YtekmiepdodaidaaDoorW.PrintLast Go.Proofs.YtekmiepdodaidaaDoorW.PrintMore
attribute [local go_sem] max2_int min2_int max_two min_two max_three min_three max_four min_four   -- for this text's walks alone
set_option linter.unusedVariables false
set_option linter.unusedSimpArgs false

def tickinglaw07_ints.l0 : Nat → List Int → List Int → Int → Option (Bool)
 | 0, _, _, _ => none
 | k + 1, x0, x1, x5 => if x5 < (x0.length : Int) then (if 0 ≤ x5 then (if x5 < (x1.length : Int) then (if (rd x0 x5) = (rd x1 x5) then (tickinglaw07_ints.l0 k x0 x1 (wrap64 (x5 + 1))) else (some false)) else (none)) else (none)) else (some true)
def tickinglaw07_ints.f (k : Nat) (l0 : List Int) (l1 : List Int) : Option (Bool) := if (l0.length : Int) = (l1.length : Int) then (tickinglaw07_ints.l0 k l0 l1 0) else (some false)
set_option maxHeartbeats 8000000 in
set_option maxRecDepth 100000 in
theorem tickinglaw07_ints.calls (k : Nat) (A0 : Option Addr) (c0 : Nat) (l0 : List Int) (A1 : Option Addr) (c1 : Nat) (l1 : List Int) (r : Bool) (w : World) (hr0 : Kd.C (Kd.int .i64) w A0 l0.length l0) (hc0 : l0.length ≤ c0) (hr1 : Kd.C (Kd.int .i64) w A1 l1.length l1) (hc1 : l1.length ≤ c1) (h : tickinglaw07_ints.f k l0 l1 = some r) :
  Calls Tryd.prog 25 #[.slice A0 l0.length c0, .slice A1 l1.length c1] w fun e w' => e = .returned (.bool r) ∧ Drawn0 w w' := by
 have HR0 := Aside0.mk hr0
 have HC0 := Aside0.mk hc0
 clear hr0 hc0
 have HR1 := Aside0.mk hr1
 have HC1 := Aside0.mk hc1
 clear hr1 hc1
 have H : (if (l0.length : Int) = (l1.length : Int) then (tickinglaw07_ints.l0 k l0 l1 0) else (some false)) = some r := h
 clear h
 by_cases c3 : (l0.length : Int) = (l1.length : Int)
 ·rw [if_pos c3] at H
  have c3b0 : ((l0.length : Int) == (l1.length : Int)) = true := beq_iff_eq.mpr c3
  have c3b1 : ((l0.length : Int) != (l1.length : Int)) = false := bne_eq_false_iff_eq.mpr c3
  have c3b2 : (l0.length == l1.length) = true := by first | simpa using c3 | (simp at c3 ⊢; omega)
  clear c3
  have H' := Aside0.mk H
  clear H
  go_enter Tryd.func25, Tryd.ntmps25
  go_wp2
  repeat (go_quiet (fail); try go_wp2)
  go_loopg [5] k (fun kq v5 w' => ∃ (x5_1 : Int), v5 = .int .i64 x5_1 ∧ Aside0 (tickinglaw07_ints.l0 kq l0 l1 x5_1 = some r) ∧ Aside0 (kq ≤ k) ∧ Drawn0 w w')
  case atStart => exact ⟨(0), (by first | rfl | (simp; done) | (simp [*]; done)), H', ⟨Nat.le_refl _⟩, by repeat (first | exact Drawn0.refl _ | apply Drawn0.step)⟩
  case round =>
   clear H'
   try clear c1
   try clear c2
   try clear p2
   try clear c3
   try clear c3b0
   try clear c3b1
   try clear c3b2
   obtain ⟨x5_1, rfl, HA, HK1, ⟨m1, rfl⟩⟩ := hrel
   cases gk with
   | zero => exact absurd HA.out (by simp [tickinglaw07_ints.l0])
   | succ k1 =>
    have H := HA.out
    clear HA
    simp only [tickinglaw07_ints.l0] at H
    by_cases c4 : x5_1 < (l0.length : Int)
    ·rw [if_pos c4] at H
     have c4b0 : decide (x5_1 < (l0.length : Int)) = true := decide_eq_true c4
     clear c4
     by_cases c5 : 0 ≤ x5_1
     ·rw [if_pos c5] at H
      have c5b0 : decide (0 ≤ x5_1) = true := decide_eq_true c5
      clear c5
      by_cases c6 : x5_1 < (l1.length : Int)
      ·rw [if_pos c6] at H
       have c6b0 : decide (x5_1 < (l1.length : Int)) = true := decide_eq_true c6
       clear c6
       by_cases c7 : (rd l0 x5_1) = (rd l1 x5_1)
       ·rw [if_pos c7] at H
        have c7b0 : ((rd l0 x5_1) == (rd l1 x5_1)) = true := beq_iff_eq.mpr c7
        have c7b1 : ((rd l0 x5_1) != (rd l1 x5_1)) = false := bne_eq_false_iff_eq.mpr c7
        clear c7
        have H' := Aside0.mk H
        clear H
        have p147 : 0 ≤ (x5_1 : Int) := of_decide_eq_true az
        have q147 : x5_1 < (l0.length : Int) := of_decide_eq_true az
        obtain ⟨ad147, e147, hx147_0⟩ := Kd.at_int HR0.out x5_1 p147 q147
        cases e147
        replace p147 := eq_true p147
        replace q147 := eq_true q147
        have p148 : 0 ≤ (x5_1 : Int) := of_decide_eq_true az
        have q148 : x5_1 < (l1.length : Int) := of_decide_eq_true az
        obtain ⟨ad148, e148, hx148_0⟩ := Kd.at_int HR1.out x5_1 p148 q148
        cases e148
        replace p148 := eq_true p148
        replace q148 := eq_true q148
        go_wp2
        repeat (go_quiet (fail); try go_wp2)
        go_roundg k1
        case measure => have := HK1.out; omega
        case rel => exact ⟨(wrap64 (x5_1 + 1)), (by first | rfl | (simp; done) | (simp [*]; done)), H', ⟨by have := HK1.out; omega⟩, by repeat (first | exact Drawn0.refl _ | apply Drawn0.step)⟩
       ·rw [if_neg c7] at H
        have c7b0 : ((rd l0 x5_1) == (rd l1 x5_1)) = false := beq_eq_false_iff_ne.mpr c7
        have c7b1 : ((rd l0 x5_1) != (rd l1 x5_1)) = true := bne_iff_ne.mpr c7
        obtain rfl := Option.some.inj H
        have p147 : 0 ≤ (x5_1 : Int) := of_decide_eq_true az
        have q147 : x5_1 < (l0.length : Int) := of_decide_eq_true az
        obtain ⟨ad147, e147, hx147_0⟩ := Kd.at_int HR0.out x5_1 p147 q147
        cases e147
        replace p147 := eq_true p147
        replace q147 := eq_true q147
        have p148 : 0 ≤ (x5_1 : Int) := of_decide_eq_true az
        have q148 : x5_1 < (l1.length : Int) := of_decide_eq_true az
        obtain ⟨ad148, e148, hx148_0⟩ := Kd.at_int HR1.out x5_1 p148 q148
        cases e148
        replace p148 := eq_true p148
        replace q148 := eq_true q148
        go_wp2
        repeat (go_quiet (fail); try go_wp2)
        go_ret
        exact ⟨by first | rfl | (simp; done) | (simp [*]; done), by repeat (first | exact Drawn0.refl _ | apply Drawn0.step)⟩
      ·rw [if_neg c6] at H
       exact absurd H (by simp)
     ·rw [if_neg c5] at H
      exact absurd H (by simp)
    ·rw [if_neg c4] at H
     have c4b0 : decide (x5_1 < (l0.length : Int)) = false := decide_eq_false c4
     clear c4
     obtain rfl := Option.some.inj H
     go_wp2
     repeat (go_quiet (fail); try go_wp2)
     go_ret
     exact ⟨by first | rfl | (simp; done) | (simp [*]; done), by repeat (first | exact Drawn0.refl _ | apply Drawn0.step)⟩
 ·rw [if_neg c3] at H
  have c3b0 : ((l0.length : Int) == (l1.length : Int)) = false := beq_eq_false_iff_ne.mpr c3
  have c3b1 : ((l0.length : Int) != (l1.length : Int)) = true := bne_iff_ne.mpr c3
  have c3b2 : (l0.length == l1.length) = false := by first | simpa using c3 | (simp at c3 ⊢; omega)
  obtain rfl := Option.some.inj H
  go_enter Tryd.func25, Tryd.ntmps25
  go_wp2
  repeat (go_quiet (fail); try go_wp2)
  go_ret
  exact ⟨by first | rfl | (simp; done) | (simp [*]; done), by repeat (first | exact Drawn0.refl _ | apply Drawn0.step)⟩

end Go.Proofs.YtekmiepdodaidaaDoor.X
end

section
namespace Go.Proofs.YtekmiepdodaidaaDoor.X
open Go.RowKit Go.Proofs.YtekmiepdodaidaaDoorW.PrintWords Go.Proofs.YtekmiepdodaidaaDoorW.PrintLast Go.Proofs.YtekmiepdodaidaaDoorW.PrintMore
attribute [local go_sem] max2_int min2_int max_two min_two max_three min_three max_four min_four   -- for this text's walks alone
set_option linter.unusedVariables false
set_option linter.unusedSimpArgs false

def tests_Alike.f (k : Nat) (l0_0 : List Int) (l0_1 : List (List Int)) (l0_2 : List Int) : Option ((List (S53)) × Int) := (tests_newTrial.f k l0_0 l0_1 l0_2).bind fun bt150 => (if bt150.2.2.2.2.2 = 0 then ((tests_trial_alike.f bt150.1 bt150.2.1 bt150.2.2.1 bt150.2.2.2.1 bt150.2.2.2.2.1).bind fun t165 => (some (t165, 0))) else (some (([] : List (S53)), bt150.2.2.2.2.2)))
set_option maxHeartbeats 8000000 in
set_option maxRecDepth 100000 in
theorem tests_Alike.calls (k : Nat) (A0_0 : Option Addr) (c0_0 : Nat) (l0_0 : List Int) (A0_1 : Option Addr) (c0_1 : Nat) (l0_1 : List (List Int)) (A0_2 : Option Addr) (c0_2 : Nat) (l0_2 : List Int) (r1 : List (S53)) (r2 : Int) (w : World) (hr0_0 : Kd.C (Kd.int .i64) w A0_0 l0_0.length l0_0) (hc0_0 : l0_0.length ≤ c0_0) (hr0_1 : Kd.C (Kd.slice 3 (Kd.int .i64)) w A0_1 l0_1.length l0_1) (hc0_1 : l0_1.length ≤ c0_1) (hr0_2 : Kd.C (Kd.int .i64) w A0_2 l0_2.length l0_2) (hc0_2 : l0_2.length ≤ c0_2) (h : tests_Alike.f k l0_0 l0_1 l0_2 = some (r1, r2)) :
  Calls Tryd.prog 27 #[.agg #[.slice A0_0 l0_0.length c0_0, .slice A0_1 l0_1.length c0_1, .slice A0_2 l0_2.length c0_2]] w fun e w' => ∃ v0_ : Value, e = .returned (.tuple #[v0_, .int .i64 r2]) ∧ Kd.R k53 53 w' w.heap.size (fun _ => True) v0_ r1 ∧ Below w.heap.size w w' := by
 have hu25 := Tryd.underlying25
 have hu77 := Tryd.underlying77
 have HR0_0 := Aside0.mk hr0_0
 have HC0_0 := Aside0.mk hc0_0
 clear hr0_0 hc0_0
 have HR0_1 := Aside0.mk hr0_1
 have HC0_1 := Aside0.mk hc0_1
 clear hr0_1 hc0_1
 have HR0_2 := Aside0.mk hr0_2
 have HC0_2 := Aside0.mk hc0_2
 clear hr0_2 hc0_2
 have HB := Aside0.mk (Below.refl w.heap.size w)
 have H : ((tests_newTrial.f k l0_0 l0_1 l0_2).bind fun bt150 => (if bt150.2.2.2.2.2 = 0 then ((tests_trial_alike.f bt150.1 bt150.2.1 bt150.2.2.1 bt150.2.2.2.1 bt150.2.2.2.2.1).bind fun t165 => (some (t165, 0))) else (some (([] : List (S53)), bt150.2.2.2.2.2)))) = some (r1, r2) := h
 clear h
 replace H := Option.bind_eq_some_iff.mp H
 obtain ⟨⟨t150, t153, t156, t159, t162, t163⟩, A20, H⟩ := H
 replace H : (if t163 = 0 then ((tests_trial_alike.f t150 t153 t156 t159 t162).bind fun t165 => (some (t165, 0))) else (some (([] : List (S53)), t163))) = some (r1, r2) := H
 have A2 := Aside0.mk A20
 clear A20
 go_enter Tryd.func27, Tryd.ntmps27
 go_wp2_with (first | ((with_reducible refine gate_dst (N := 1) rfl ?_); refine box_event ?hg (N := 1) ?hd (cs := #[.slice A0_0 l0_0.length c0_0, .slice A0_1 l0_1.length c0_1, .slice A0_2 l0_2.length c0_2]) (t := 25) ?hr ?_; (case hd => rfl); (case hg => rfl); (case hr => first | (go_simp; done) | (go_simp; rfl)); intro gb149 hg w5 hbox hb; have n0_ := Aside0.mk (below_step bz hb); have n1_ := Aside0.mk (hbox); have n2_ := Aside0.mk ((by rw [hg]; exact (below_size bz) : w.heap.size ≤ gb149)); have n3_ := Aside0.mk ((by rw [hg]; exact (below_size bz) : w.heap.size ≤ gb149)); clear HB; have HB := n0_; have BK149 := n1_; have GW149 := n2_; have GE149 := n3_; clear n0_ n1_ n2_ n3_; clear hb hbox hg; have hcz6_0 : w5.cell? ⟨gb149, 0, none⟩ = some (.slice A0_0 l0_0.length c0_0) := (blk_cell BK149.out 0).trans rfl; have hcz6_1 : w5.cell? ⟨gb149, 1, none⟩ = some (.slice A0_1 l0_1.length c0_1) := (blk_cell BK149.out 1).trans rfl; have hcz6_2 : w5.cell? ⟨gb149, 2, none⟩ = some (.slice A0_2 l0_2.length c0_2) := (blk_cell BK149.out 2).trans rfl; have hfz6_0 := blk_frozen BK149.out 0; have hfz6_1 := blk_frozen BK149.out 1; have hfz6_2 := blk_frozen BK149.out 2) | ((with_reducible refine gate_callee (f := 45) rfl ?_); refine goesL_ (some 8) rfl rfl Tryd.func45 (by kernel_rfl) rfl #[.agg #[.slice A0_0 l0_0.length c0_0, .slice A0_1 l0_1.length c0_1, .slice A0_2 l0_2.length c0_2]] rfl dz ?_; (with_reducible refine (tests_newTrial.calls k (fun k_ => k_ < w.heap.size) _ _ l0_0 (fun k_ => k_ < w.heap.size) _ _ l0_1 (fun k_ => k_ < w.heap.size) _ _ l0_2 t150 t153 t156 t159 t162 t163 _ ?side1 ?side2 ?side3 A2.out).mono ?_); (case side1 => exact Kd.V_mk HC0_0.out (Kd.F_below (Kd.C_F (Kd.heap_int .i64) HR0_0.out) bz)); (case side2 => exact Kd.V_mk HC0_1.out (Kd.F_below (Kd.C_F (Kd.heap_slice 3 (Kd.heap_int .i64)) HR0_1.out) bz)); (case side3 => exact Kd.V_mk HC0_2.out (Kd.F_below (Kd.C_F (Kd.heap_int .i64) HR0_2.out) bz)); rintro e w7 ⟨v151, v154, v157, v160, rfl, ho0, ho1, ho2, ho3, hb⟩; refine ⟨_, rfl, ?_⟩; have n0_ := Aside0.mk (Kd.V_lower (Kd.V_mono (ok' := fun k_ => some k_ ≠ (v160 : Value).ownBlock ∧ k_ ≠ gb149) ho0 (fun k_ hk_ => ⟨hk_.2, Or.elim hk_.1 (fun hs_ => Or.elim hs_ (fun hs_ => fun e_ => Nat.not_le.2 hs_ (by rw [e_]; exact GW149.out)) (fun hs_ => Or.elim hs_ (fun hs_ => fun e_ => Nat.not_le.2 hs_ (by rw [e_]; exact GW149.out)) (fun hs_ => fun e_ => Nat.not_le.2 hs_ (by rw [e_]; exact GW149.out)))) (fun hn_ => (Kd.freshB (g := gb149) (o := .cells #[.slice A0_0 l0_0.length c0_0, .slice A0_1 l0_1.length c0_1, .slice A0_2 l0_2.length c0_2] 25 (0, 0)) (kz BK149.out) k_ hn_))⟩)) (below_size bz)); have n1_ := Aside0.mk (Kd.V_lower (Kd.V_mono (ok' := fun k_ => some k_ ≠ (v160 : Value).ownBlock ∧ k_ ≠ gb149) ho1 (fun k_ hk_ => ⟨hk_.2, Or.elim hk_.1 (fun hs_ => Or.elim hs_ (fun hs_ => fun e_ => Nat.not_le.2 hs_ (by rw [e_]; exact GW149.out)) (fun hs_ => Or.elim hs_ (fun hs_ => fun e_ => Nat.not_le.2 hs_ (by rw [e_]; exact GW149.out)) (fun hs_ => fun e_ => Nat.not_le.2 hs_ (by rw [e_]; exact GW149.out)))) (fun hn_ => (Kd.freshB (g := gb149) (o := .cells #[.slice A0_0 l0_0.length c0_0, .slice A0_1 l0_1.length c0_1, .slice A0_2 l0_2.length c0_2] 25 (0, 0)) (kz BK149.out) k_ hn_))⟩)) (below_size bz)); have n2_ := Aside0.mk (Kd.V_lower (Kd.V_mono (ok' := fun k_ => some k_ ≠ (v160 : Value).ownBlock ∧ k_ ≠ gb149) ho2 (fun k_ hk_ => ⟨hk_.2, Or.elim hk_.1 (fun hs_ => Or.elim hs_ (fun hs_ => fun e_ => Nat.not_le.2 hs_ (by rw [e_]; exact GW149.out)) (fun hs_ => Or.elim hs_ (fun hs_ => fun e_ => Nat.not_le.2 hs_ (by rw [e_]; exact GW149.out)) (fun hs_ => fun e_ => Nat.not_le.2 hs_ (by rw [e_]; exact GW149.out)))) (fun hn_ => (Kd.freshB (g := gb149) (o := .cells #[.slice A0_0 l0_0.length c0_0, .slice A0_1 l0_1.length c0_1, .slice A0_2 l0_2.length c0_2] 25 (0, 0)) (kz BK149.out) k_ hn_))⟩)) (below_size bz)); have n3_ := Aside0.mk (Kd.R_lower (Kd.R_mono (ok' := fun k_ => True) ho3 (fun _ hk_ => trivial)) (below_size bz)); have n4_ := Aside0.mk (kb BK149.out hb); have n5_ := Aside0.mk (below_step bz hb); clear BK149; clear HB; have HO152 := n0_; have HO155 := n1_; have HO158 := n2_; have HO161 := n3_; have BK149 := n4_; have HB := n5_; clear n0_ n1_ n2_ n3_ n4_ n5_; (try clear hb); (try clear hb2); (try clear hk); (try clear hi); (try clear ho0); (try clear ho1); (try clear ho2); (try clear ho3); refine hold_ ?_; intro P_ hP_))
 refine hP_.out ?_
 clear hP_ P_
 by_cases c3 : t163 = 0
 ·rw [if_pos c3] at H
  have c3b0 : (t163 == 0) = true := beq_iff_eq.mpr c3
  have c3b1 : (t163 != 0) = false := bne_eq_false_iff_eq.mpr c3
  clear c3
  replace H := Option.bind_eq_some_iff.mp H
  obtain ⟨t165, A40, H⟩ := H
  replace H : (some (t165, 0)) = some (r1, r2) := H
  have A4 := Aside0.mk A40
  clear A40
  simp only [Option.some.injEq, Prod.mk.injEq] at H
  obtain ⟨rfl, rfl⟩ := H
  go_wp2_with (first | ((with_reducible refine gate_dst (N := 4) rfl ?_); refine box_event ?hg (N := 4) ?hd (cs := #[.slice none 0 0, .slice none 0 0, .slice none 0 0, .slice none 0 0, .int .u64 0]) (t := 77) ?hr ?_; (case hd => rfl); (case hg => rfl); (case hr => first | (go_simp; done) | (go_simp; rfl)); intro gb164 hg w8 hbox hb; have n0_ := Aside0.mk (Kd.V_below (Kd.V_elderB (by (with_reducible repeat (first | apply Kd.V_alloc | apply Kd.V_drewN | apply Kd.V_drew)); exact HO152.out) gb164 (Nat.le_of_eq hg.symm)) hb); have n1_ := Aside0.mk (Kd.V_below (Kd.V_elderB (by (with_reducible repeat (first | apply Kd.V_alloc | apply Kd.V_drewN | apply Kd.V_drew)); exact HO155.out) gb164 (Nat.le_of_eq hg.symm)) hb); have n2_ := Aside0.mk (Kd.V_below (Kd.V_elderB (by (with_reducible repeat (first | apply Kd.V_alloc | apply Kd.V_drewN | apply Kd.V_drew)); exact HO158.out) gb164 (Nat.le_of_eq hg.symm)) hb); have n3_ := Aside0.mk (Kd.R_below (rz HO161.out) hb); have n4_ := Aside0.mk (kb BK149.out hb); have n5_ := Aside0.mk (below_step bz hb); have n6_ := Aside0.mk (hbox); have n7_ := Aside0.mk ((by rw [hg]; exact (below_size bz) : w.heap.size ≤ gb164)); have n8_ := Aside0.mk ((by rw [hg]; exact (below_size bz) : w.heap.size ≤ gb164)); have n9_ := Aside0.mk ((by rw [hg]; exact Nat.ne_of_lt (kl BK149.out) : gb149 ≠ gb164)); have n10_ := Aside0.mk ((by rw [hg]; exact Nat.ne_of_gt (kl BK149.out) : gb164 ≠ gb149)); clear HO152; clear HO155; clear HO158; clear HO161; clear BK149; clear HB; have HO152 := n0_; have HO155 := n1_; have HO158 := n2_; have HO161 := n3_; have BK149 := n4_; have HB := n5_; have BK164 := n6_; have GW164 := n7_; have GE164 := n8_; have NB149_164 := n9_; have NB164_149 := n10_; clear n0_ n1_ n2_ n3_ n4_ n5_ n6_ n7_ n8_ n9_ n10_; clear hb hbox hg; obtain ⟨Ao9, co9, eo9⟩ := Kd.V_slice HO152.out; subst eo9; have hnb10 := NB164_149.out; have hnc10 := NB149_164.out; have hcz11_0 : w8.cell? ⟨gb164, 0, none⟩ = some (.slice none 0 0) := (blk_cell BK164.out 0).trans rfl; have hcz11_1 : w8.cell? ⟨gb164, 1, none⟩ = some (.slice none 0 0) := (blk_cell BK164.out 1).trans rfl; have hcz11_2 : w8.cell? ⟨gb164, 2, none⟩ = some (.slice none 0 0) := (blk_cell BK164.out 2).trans rfl; have hcz11_3 : w8.cell? ⟨gb164, 3, none⟩ = some (.slice none 0 0) := (blk_cell BK164.out 3).trans rfl; have hcz11_4 : w8.cell? ⟨gb164, 4, none⟩ = some (.int .u64 0) := (blk_cell BK164.out 4).trans rfl; have hfz11_0 := blk_frozen BK164.out 0; have hfz11_1 := blk_frozen BK164.out 1; have hfz11_2 := blk_frozen BK164.out 2; have hfz11_3 := blk_frozen BK164.out 3; have hfz11_4 := blk_frozen BK164.out 4; obtain ⟨Ao12, co12, eo12⟩ := Kd.V_slice HO155.out; subst eo12; obtain ⟨Ao13, co13, eo13⟩ := Kd.V_slice HO158.out; subst eo13; obtain ⟨Ao14, co14, eo14⟩ := Kd.R_slice HO161.out; subst eo14) | ((with_reducible refine gate_callee (f := 49) rfl ?_); refine goesL_ (some 15) rfl rfl Tryd.func49 (by kernel_rfl) rfl #[.agg #[.slice Ao9 t150.length co9, .slice Ao12 t153.length co12, .slice Ao13 t156.length co13, .slice Ao14 t159.length co14, .int .u64 t162]] rfl dz ?_; (with_reducible refine (tests_trial_alike.calls _ _ t150 _ _ t153 _ _ t156 _ _ t159 t162 t165 _ ?side1 ?side2 ?side3 ?side4 ?side5 ?side6 ?side7 ?side8 A4.out).mono ?_); (case side1 => refine (Kd.V_reads' (e := 3) (base := w.heap.size) (ok := fun k_ => ((some k_ ≠ (.slice Ao14 t159.length co14 : Value).ownBlock ∧ k_ ≠ gb149) ∧ k_ ≠ gb164)) (n := t150.length) (c := co9) ?_).2.2; exact (by (with_reducible repeat (first | apply Kd.V_alloc | apply Kd.V_drewN | apply Kd.V_drew)); exact (Kd.V_mono (Kd.V_far (p := ⟨gb164, 4, none⟩) (Kd.V_far (p := ⟨gb164, 3, none⟩) (Kd.V_far (p := ⟨gb164, 2, none⟩) (Kd.V_far (p := ⟨gb164, 1, none⟩) (Kd.V_far (p := ⟨gb164, 0, none⟩) (Kd.V_mono HO152.out (fun k_ hk => (⟨hk, hk.2⟩ : _ ∧ k_ ≠ gb164))) (fun _ hk => hk.2) (.slice Ao9 t150.length co9)) (fun _ hk => hk.2) (.slice Ao12 t153.length co12)) (fun _ hk => hk.2) (.slice Ao13 t156.length co13)) (fun _ hk => hk.2) (.slice Ao14 t159.length co14)) (fun _ hk => hk.2) (.int .u64 t162)) (fun _ h_ => h_.1)))); (case side2 => exact (Kd.V_reads' HO152.out).2.1); (case side3 => refine (Kd.V_reads' (e := 22) (base := w.heap.size) (ok := fun k_ => ((some k_ ≠ (.slice Ao14 t159.length co14 : Value).ownBlock ∧ k_ ≠ gb149) ∧ k_ ≠ gb164)) (n := t153.length) (c := co12) ?_).2.2; exact (by (with_reducible repeat (first | apply Kd.V_alloc | apply Kd.V_drewN | apply Kd.V_drew)); exact (Kd.V_mono (Kd.V_far (p := ⟨gb164, 4, none⟩) (Kd.V_far (p := ⟨gb164, 3, none⟩) (Kd.V_far (p := ⟨gb164, 2, none⟩) (Kd.V_far (p := ⟨gb164, 1, none⟩) (Kd.V_far (p := ⟨gb164, 0, none⟩) (Kd.V_mono HO155.out (fun k_ hk => (⟨hk, hk.2⟩ : _ ∧ k_ ≠ gb164))) (fun _ hk => hk.2) (.slice Ao9 t150.length co9)) (fun _ hk => hk.2) (.slice Ao12 t153.length co12)) (fun _ hk => hk.2) (.slice Ao13 t156.length co13)) (fun _ hk => hk.2) (.slice Ao14 t159.length co14)) (fun _ hk => hk.2) (.int .u64 t162)) (fun _ h_ => h_.1)))); (case side4 => exact (Kd.V_reads' HO155.out).2.1); (case side5 => refine (Kd.V_reads' (e := 3) (base := w.heap.size) (ok := fun k_ => ((some k_ ≠ (.slice Ao14 t159.length co14 : Value).ownBlock ∧ k_ ≠ gb149) ∧ k_ ≠ gb164)) (n := t156.length) (c := co13) ?_).2.2; exact (by (with_reducible repeat (first | apply Kd.V_alloc | apply Kd.V_drewN | apply Kd.V_drew)); exact (Kd.V_mono (Kd.V_far (p := ⟨gb164, 4, none⟩) (Kd.V_far (p := ⟨gb164, 3, none⟩) (Kd.V_far (p := ⟨gb164, 2, none⟩) (Kd.V_far (p := ⟨gb164, 1, none⟩) (Kd.V_far (p := ⟨gb164, 0, none⟩) (Kd.V_mono HO158.out (fun k_ hk => (⟨hk, hk.2⟩ : _ ∧ k_ ≠ gb164))) (fun _ hk => hk.2) (.slice Ao9 t150.length co9)) (fun _ hk => hk.2) (.slice Ao12 t153.length co12)) (fun _ hk => hk.2) (.slice Ao13 t156.length co13)) (fun _ hk => hk.2) (.slice Ao14 t159.length co14)) (fun _ hk => hk.2) (.int .u64 t162)) (fun _ h_ => h_.1)))); (case side6 => exact (Kd.V_reads' HO158.out).2.1); (case side7 => refine (Kd.R_reads' (e := 75) (base := w.heap.size) (ok := fun k_ => True) (n := t159.length) (c := co14) ?_).2.2; exact (by (with_reducible repeat (first | apply Kd.R_alloc | apply Kd.R_drewN | apply Kd.R_drew)); exact (Kd.R_mono (Kd.R_far (p := ⟨gb164, 4, none⟩) (Kd.R_far (p := ⟨gb164, 3, none⟩) (Kd.R_far (p := ⟨gb164, 2, none⟩) (Kd.R_far (p := ⟨gb164, 1, none⟩) (Kd.R_far (p := ⟨gb164, 0, none⟩) (Kd.R_types HO161.out BK164.out (by decide)) (fun _ hk => hk.2) (.slice Ao9 t150.length co9)) (fun _ hk => hk.2) (.slice Ao12 t153.length co12)) (fun _ hk => hk.2) (.slice Ao13 t156.length co13)) (fun _ hk => hk.2) (.slice Ao14 t159.length co14)) (fun _ hk => hk.2) (.int .u64 t162)) (fun _ h_ => h_.1)))); (case side8 => exact (Kd.R_reads' HO161.out).2.1); rintro e w15 ⟨v166, rfl, ho0, hb⟩; refine ⟨_, rfl, ?_⟩; have n0_ := Aside0.mk (Kd.V_elder' (by (with_reducible repeat (first | apply Kd.V_alloc | apply Kd.V_drewN | apply Kd.V_drew)); exact (Kd.V_mono (Kd.V_far (p := ⟨gb164, 4, none⟩) (Kd.V_far (p := ⟨gb164, 3, none⟩) (Kd.V_far (p := ⟨gb164, 2, none⟩) (Kd.V_far (p := ⟨gb164, 1, none⟩) (Kd.V_far (p := ⟨gb164, 0, none⟩) (Kd.V_mono HO152.out (fun k_ hk => (⟨hk, hk.2⟩ : _ ∧ k_ ≠ gb164))) (fun _ hk => hk.2) (.slice Ao9 t150.length co9)) (fun _ hk => hk.2) (.slice Ao12 t153.length co12)) (fun _ hk => hk.2) (.slice Ao13 t156.length co13)) (fun _ hk => hk.2) (.slice Ao14 t159.length co14)) (fun _ hk => hk.2) (.int .u64 t162)) (fun _ h_ => h_.1))) (Kd.R_base ho0) hb); have n1_ := Aside0.mk (Kd.V_elder' (by (with_reducible repeat (first | apply Kd.V_alloc | apply Kd.V_drewN | apply Kd.V_drew)); exact (Kd.V_mono (Kd.V_far (p := ⟨gb164, 4, none⟩) (Kd.V_far (p := ⟨gb164, 3, none⟩) (Kd.V_far (p := ⟨gb164, 2, none⟩) (Kd.V_far (p := ⟨gb164, 1, none⟩) (Kd.V_far (p := ⟨gb164, 0, none⟩) (Kd.V_mono HO155.out (fun k_ hk => (⟨hk, hk.2⟩ : _ ∧ k_ ≠ gb164))) (fun _ hk => hk.2) (.slice Ao9 t150.length co9)) (fun _ hk => hk.2) (.slice Ao12 t153.length co12)) (fun _ hk => hk.2) (.slice Ao13 t156.length co13)) (fun _ hk => hk.2) (.slice Ao14 t159.length co14)) (fun _ hk => hk.2) (.int .u64 t162)) (fun _ h_ => h_.1))) (Kd.R_base ho0) hb); have n2_ := Aside0.mk (Kd.V_elder' (by (with_reducible repeat (first | apply Kd.V_alloc | apply Kd.V_drewN | apply Kd.V_drew)); exact (Kd.V_mono (Kd.V_far (p := ⟨gb164, 4, none⟩) (Kd.V_far (p := ⟨gb164, 3, none⟩) (Kd.V_far (p := ⟨gb164, 2, none⟩) (Kd.V_far (p := ⟨gb164, 1, none⟩) (Kd.V_far (p := ⟨gb164, 0, none⟩) (Kd.V_mono HO158.out (fun k_ hk => (⟨hk, hk.2⟩ : _ ∧ k_ ≠ gb164))) (fun _ hk => hk.2) (.slice Ao9 t150.length co9)) (fun _ hk => hk.2) (.slice Ao12 t153.length co12)) (fun _ hk => hk.2) (.slice Ao13 t156.length co13)) (fun _ hk => hk.2) (.slice Ao14 t159.length co14)) (fun _ hk => hk.2) (.int .u64 t162)) (fun _ h_ => h_.1))) (Kd.R_base ho0) hb); have n3_ := Aside0.mk (Kd.R_below (by (with_reducible repeat (first | apply Kd.R_alloc | apply Kd.R_drewN | apply Kd.R_drew)); exact (Kd.R_mono (Kd.R_far (p := ⟨gb164, 4, none⟩) (Kd.R_far (p := ⟨gb164, 3, none⟩) (Kd.R_far (p := ⟨gb164, 2, none⟩) (Kd.R_far (p := ⟨gb164, 1, none⟩) (Kd.R_far (p := ⟨gb164, 0, none⟩) (Kd.R_types HO161.out BK164.out (by decide)) (fun _ hk => hk.2) (.slice Ao9 t150.length co9)) (fun _ hk => hk.2) (.slice Ao12 t153.length co12)) (fun _ hk => hk.2) (.slice Ao13 t156.length co13)) (fun _ hk => hk.2) (.slice Ao14 t159.length co14)) (fun _ hk => hk.2) (.int .u64 t162)) (fun _ h_ => h_.1))) hb); have n4_ := Aside0.mk (Kd.R_lower ho0 (below_size bz)); have n5_ := Aside0.mk (blk_below (g := gb149) (o := .cells #[.slice A0_0 l0_0.length c0_0, .slice A0_1 l0_1.length c0_1, .slice A0_2 l0_2.length c0_2] 25 (0, 0)) (by (with_reducible repeat (first | refine blk_drewN ?_ _ | refine blk_drew ?_ | refine blk_alloc ?_ _)); refine blk_far ?_ NB149_164.out _; (with_reducible repeat (first | refine blk_drewN ?_ _ | refine blk_drew ?_ | refine blk_alloc ?_ _)); refine blk_far ?_ NB149_164.out _; (with_reducible repeat (first | refine blk_drewN ?_ _ | refine blk_drew ?_ | refine blk_alloc ?_ _)); refine blk_far ?_ NB149_164.out _; (with_reducible repeat (first | refine blk_drewN ?_ _ | refine blk_drew ?_ | refine blk_alloc ?_ _)); refine blk_far ?_ NB149_164.out _; (with_reducible repeat (first | refine blk_drewN ?_ _ | refine blk_drew ?_ | refine blk_alloc ?_ _)); refine blk_far ?_ NB149_164.out _; (with_reducible repeat (first | refine blk_drewN ?_ _ | refine blk_drew ?_ | refine blk_alloc ?_ _)); exact BK149.out) hb); have n6_ := Aside0.mk (blk_below (g := gb164) (o := .cells #[.slice Ao9 t150.length co9, .slice Ao12 t153.length co12, .slice Ao13 t156.length co13, .slice Ao14 t159.length co14, .int .u64 t162] 77 (0, 0)) (by (with_reducible repeat (first | refine blk_drewN ?_ _ | refine blk_drew ?_ | refine blk_alloc ?_ _)); refine blk_put (cs := #[.slice Ao9 t150.length co9, .slice Ao12 t153.length co12, .slice Ao13 t156.length co13, .slice Ao14 t159.length co14, .int .u64 0]) ?_ 4 _ rfl; (with_reducible repeat (first | refine blk_drewN ?_ _ | refine blk_drew ?_ | refine blk_alloc ?_ _)); refine blk_put (cs := #[.slice Ao9 t150.length co9, .slice Ao12 t153.length co12, .slice Ao13 t156.length co13, .slice none 0 0, .int .u64 0]) ?_ 3 _ rfl; (with_reducible repeat (first | refine blk_drewN ?_ _ | refine blk_drew ?_ | refine blk_alloc ?_ _)); refine blk_put (cs := #[.slice Ao9 t150.length co9, .slice Ao12 t153.length co12, .slice none 0 0, .slice none 0 0, .int .u64 0]) ?_ 2 _ rfl; (with_reducible repeat (first | refine blk_drewN ?_ _ | refine blk_drew ?_ | refine blk_alloc ?_ _)); refine blk_put (cs := #[.slice Ao9 t150.length co9, .slice none 0 0, .slice none 0 0, .slice none 0 0, .int .u64 0]) ?_ 1 _ rfl; (with_reducible repeat (first | refine blk_drewN ?_ _ | refine blk_drew ?_ | refine blk_alloc ?_ _)); refine blk_put (cs := #[.slice none 0 0, .slice none 0 0, .slice none 0 0, .slice none 0 0, .int .u64 0]) ?_ 0 _ rfl; (with_reducible repeat (first | refine blk_drewN ?_ _ | refine blk_drew ?_ | refine blk_alloc ?_ _)); exact BK164.out) hb); have n7_ := Aside0.mk (below_step bz hb); clear HO152; clear HO155; clear HO158; clear HO161; clear BK149; clear BK164; clear HB; have HO152 := n0_; have HO155 := n1_; have HO158 := n2_; have HO161 := n3_; have HO167 := n4_; have BK149 := n5_; have BK164 := n6_; have HB := n7_; clear n0_ n1_ n2_ n3_ n4_ n5_ n6_ n7_; (try clear hb); (try clear hb2); (try clear hk); (try clear hi); (try clear ho0)))
  go_ret2
  exact ⟨_, by first | rfl | (simp [errW_none, errW_some] <;> rfl) | (simp [*, errW_none, errW_some] <;> rfl), by (with_reducible repeat (first | apply Kd.R_alloc | apply Kd.R_drewN | apply Kd.R_drew)); exact HO167.out, by repeat (first | (with_reducible first | exact HB.out | apply below_alloc | apply pw_below_drewN | apply below_drew1 | refine below_set ?_ GE149.out | refine below_set ?_ GE164.out) | exact HB.out)⟩
 ·rw [if_neg c3] at H
  have c3b0 : (t163 == 0) = false := beq_eq_false_iff_ne.mpr c3
  have c3b1 : (t163 != 0) = true := bne_iff_ne.mpr c3
  simp only [Option.some.injEq, Prod.mk.injEq] at H
  obtain ⟨rfl, rfl⟩ := H
  go_wp2_with (first | ((with_reducible refine gate_dst (N := 4) rfl ?_); refine box_event ?hg (N := 4) ?hd (cs := #[.slice none 0 0, .slice none 0 0, .slice none 0 0, .slice none 0 0, .int .u64 0]) (t := 77) ?hr ?_; (case hd => rfl); (case hg => rfl); (case hr => first | (go_simp; done) | (go_simp; rfl)); intro gb164 hg w19 hbox hb; have n0_ := Aside0.mk (Kd.V_below (Kd.V_elderB (by (with_reducible repeat (first | apply Kd.V_alloc | apply Kd.V_drewN | apply Kd.V_drew)); exact HO152.out) gb164 (Nat.le_of_eq hg.symm)) hb); have n1_ := Aside0.mk (Kd.V_below (Kd.V_elderB (by (with_reducible repeat (first | apply Kd.V_alloc | apply Kd.V_drewN | apply Kd.V_drew)); exact HO155.out) gb164 (Nat.le_of_eq hg.symm)) hb); have n2_ := Aside0.mk (Kd.V_below (Kd.V_elderB (by (with_reducible repeat (first | apply Kd.V_alloc | apply Kd.V_drewN | apply Kd.V_drew)); exact HO158.out) gb164 (Nat.le_of_eq hg.symm)) hb); have n3_ := Aside0.mk (Kd.R_below (rz HO161.out) hb); have n4_ := Aside0.mk (kb BK149.out hb); have n5_ := Aside0.mk (below_step bz hb); have n6_ := Aside0.mk (hbox); have n7_ := Aside0.mk ((by rw [hg]; exact (below_size bz) : w.heap.size ≤ gb164)); have n8_ := Aside0.mk ((by rw [hg]; exact (below_size bz) : w.heap.size ≤ gb164)); have n9_ := Aside0.mk ((by rw [hg]; exact Nat.ne_of_lt (kl BK149.out) : gb149 ≠ gb164)); have n10_ := Aside0.mk ((by rw [hg]; exact Nat.ne_of_gt (kl BK149.out) : gb164 ≠ gb149)); clear HO152; clear HO155; clear HO158; clear HO161; clear BK149; clear HB; have HO152 := n0_; have HO155 := n1_; have HO158 := n2_; have HO161 := n3_; have BK149 := n4_; have HB := n5_; have BK164 := n6_; have GW164 := n7_; have GE164 := n8_; have NB149_164 := n9_; have NB164_149 := n10_; clear n0_ n1_ n2_ n3_ n4_ n5_ n6_ n7_ n8_ n9_ n10_; clear hb hbox hg; obtain ⟨Ao20, co20, eo20⟩ := Kd.V_slice HO152.out; subst eo20; have hnb21 := NB164_149.out; have hnc21 := NB149_164.out; have hcz22_0 : w19.cell? ⟨gb164, 0, none⟩ = some (.slice none 0 0) := (blk_cell BK164.out 0).trans rfl; have hcz22_1 : w19.cell? ⟨gb164, 1, none⟩ = some (.slice none 0 0) := (blk_cell BK164.out 1).trans rfl; have hcz22_2 : w19.cell? ⟨gb164, 2, none⟩ = some (.slice none 0 0) := (blk_cell BK164.out 2).trans rfl; have hcz22_3 : w19.cell? ⟨gb164, 3, none⟩ = some (.slice none 0 0) := (blk_cell BK164.out 3).trans rfl; have hcz22_4 : w19.cell? ⟨gb164, 4, none⟩ = some (.int .u64 0) := (blk_cell BK164.out 4).trans rfl; have hfz22_0 := blk_frozen BK164.out 0; have hfz22_1 := blk_frozen BK164.out 1; have hfz22_2 := blk_frozen BK164.out 2; have hfz22_3 := blk_frozen BK164.out 3; have hfz22_4 := blk_frozen BK164.out 4; obtain ⟨Ao23, co23, eo23⟩ := Kd.V_slice HO155.out; subst eo23; obtain ⟨Ao24, co24, eo24⟩ := Kd.V_slice HO158.out; subst eo24; obtain ⟨Ao25, co25, eo25⟩ := Kd.R_slice HO161.out; subst eo25))
  go_ret2
  exact ⟨_, by first | rfl | (simp [errW_none, errW_some] <;> rfl) | (simp [*, errW_none, errW_some] <;> rfl), by first | exact Kd.R_nil _ _ _ _ _ | exact Kd.N_nil _ _ _ _ _ | exact Kd.V_nil _ _ _ _ _ | exact Kd.Q_nil _ _ _ _ _ | exact Kd.S_nil _ _ _ _ _, by repeat (first | (with_reducible first | exact HB.out | apply below_alloc | apply pw_below_drewN | apply below_drew1 | refine below_set ?_ GE149.out | refine below_set ?_ GE164.out) | exact HB.out)⟩

end Go.Proofs.YtekmiepdodaidaaDoor.X
end

section
namespace Go.Proofs.YtekmiepdodaidaaDoor.X
open Go.RowKit Go.Proofs.YtekmiepdodaidaaDoorW.PrintWords Go.Proofs.YtekmiepdodaidaaDoorW.PrintLast Go.Proofs.YtekmiepdodaidaaDoorW.PrintMore
attribute [local go_sem] max2_int min2_int max_two min_two max_three min_three max_four min_four   -- for this text's walks alone
set_option linter.unusedVariables false
set_option linter.unusedSimpArgs false

theorem eqA53 (d : Nat) (w : World) (x0 y0 : Int) (x1 y1 : Int) :
  (Op.equalIn (d + 2) 53 (.agg #[.int .i64 x0, .int .i64 x1]) (.agg #[.int .i64 y0, .int .i64 y1])).run Tryd.prog w = .ok (x0 == y0 && (x1 == y1)) w := by
 exact eqArr_2 Tryd.underlying53 Tryd.underlying3 (by kernel_rfl) d w x0 y0 x1 y1
end Go.Proofs.YtekmiepdodaidaaDoor.X
end
