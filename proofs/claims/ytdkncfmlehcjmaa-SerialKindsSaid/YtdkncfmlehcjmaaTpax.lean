/- Texts behind SerialKinds, part 24: contracts of the program's functions and the plain words for them. -/
import Derived.RangeFuncNested
import Derived.RangeFuncBound
import Derived.RangeFuncCalls
import Derived.RangeFuncLeaves
import Derived.Shelf.Abstract
import Derived.Shelf.RegionOpen
import Derived.WalkKit
import Derived.OwnWalkIn
import Derived.TacticsInMore
import Derived.LoopNIn
import Derived.LoopIn
import Derived.WalkSpells
import Derived.Laws.EntriesVeiled
import Derived.Test.YtdkncfmlehcjmaaTpar
import Derived.Test.YtdkncfmlehcjmaaTpau
import Derived.Test.YtdkncfmlehcjmaaTpav
import Derived.Test.YtdkncfmlehcjmaaTpaw
section
namespace Go.Proofs.Ytdkncfmlehcjmaa.X
open Go.RowKit Go.Proofs.YtdkncfmlehcjmaaW.PrintWords Go.Proofs.YtdkncfmlehcjmaaW.PrintLast Go.Proofs.YtdkncfmlehcjmaaW.PrintMore
attribute [local go_sem] max2_int min2_int max_two min_two max_three min_three max_four min_four   -- for this text's walks alone
set_option linter.unusedVariables false
set_option linter.unusedSimpArgs false

def cmp_Compare_int.f (a0 : Int) (a1 : Int) : Option (Int) := (cmp_isNaN_int.f a0).bind fun t725 => ((cmp_isNaN_int.f a1).bind fun t726 => (if t725 = true then (if t726 = true then (some 0) else (some (-1))) else (if t726 = true then (some 1) else (if a0 < a1 then (some (-1)) else (if a0 > a1 then (some 1) else (some 0))))))
set_option maxHeartbeats 8000000 in
set_option maxRecDepth 100000 in
theorem cmp_Compare_int.calls (a0 : Int) (a1 : Int) (r : Int) (w : World) (h : cmp_Compare_int.f a0 a1 = some r) :
  Calls Try.prog 83 #[.int .i64 a0, .int .i64 a1] w fun e w' => e = .returned (.int .i64 r) ∧ Drawn0 w w' := by
 have H : ((cmp_isNaN_int.f a0).bind fun t725 => ((cmp_isNaN_int.f a1).bind fun t726 => (if t725 = true then (if t726 = true then (some 0) else (some (-1))) else (if t726 = true then (some 1) else (if a0 < a1 then (some (-1)) else (if a0 > a1 then (some 1) else (some 0))))))) = some r := h
 clear h
 replace H := Option.bind_eq_some_iff.mp H
 obtain ⟨t725, A30, H⟩ := H
 replace H : ((cmp_isNaN_int.f a1).bind fun t726 => (if t725 = true then (if t726 = true then (some 0) else (some (-1))) else (if t726 = true then (some 1) else (if a0 < a1 then (some (-1)) else (if a0 > a1 then (some 1) else (some 0)))))) = some r := H
 have A3 := Aside0.mk A30
 clear A30
 replace H := Option.bind_eq_some_iff.mp H
 obtain ⟨t726, A40, H⟩ := H
 replace H : (if t725 = true then (if t726 = true then (some 0) else (some (-1))) else (if t726 = true then (some 1) else (if a0 < a1 then (some (-1)) else (if a0 > a1 then (some 1) else (some 0))))) = some r := H
 have A4 := Aside0.mk A40
 clear A40
 by_cases c5 : t725 = true
 ·subst c5
  have H1 : (if t726 = true then (some 0) else (some (-1))) = some r := by rw [if_pos rfl] at H; exact H
  clear H
  have H := H1
  clear H1
  by_cases c6 : t726 = true
  ·subst c6
   have H1 : (some 0) = some r := by rw [if_pos rfl] at H; exact H
   clear H
   have H := H1
   clear H1
   obtain rfl := Option.some.inj H
   go_enter Try.func83, Try.ntmps83
   go_wp2_with (first | ((with_reducible refine gate_callee (f := 86) rfl ?_); refine goesL_ (some 8) rfl rfl Try.func86 (by kernel_rfl) rfl #[.int .i64 a0] rfl (by (try simp only [List.map_toArray, List.map_cons, List.map_nil]); first | done | rfl | (simp only [List.length_drop, List.length_take]; rfl)) ?_; (with_reducible refine (cmp_isNaN_int.calls a0 true _ A3.out).mono ?_); rintro e w' ⟨rfl, ⟨nd, rfl⟩⟩; refine ⟨_, rfl, ?_⟩) | ((with_reducible refine gate_callee (f := 86) rfl ?_); refine goesL_ (some 10) rfl rfl Try.func86 (by kernel_rfl) rfl #[.int .i64 a1] rfl (by (try simp only [List.map_toArray, List.map_cons, List.map_nil]); first | done | rfl | (simp only [List.length_drop, List.length_take]; rfl)) ?_; (with_reducible refine (cmp_isNaN_int.calls a1 true _ A4.out).mono ?_); rintro e w' ⟨rfl, ⟨nd, rfl⟩⟩; refine ⟨_, rfl, ?_⟩))
   go_ret
   exact ⟨by first | rfl | (simp; done) | (simp [*]; done), by repeat (first | exact Drawn0.refl _ | apply Drawn0.step)⟩
  ·replace c6 := Bool.eq_false_iff.mpr c6
   subst c6
   have H1 : (some (-1)) = some r := by rw [if_neg (show ¬ (false = true) by decide)] at H; exact H
   clear H
   have H := H1
   clear H1
   obtain rfl := Option.some.inj H
   go_enter Try.func83, Try.ntmps83
   go_wp2_with (first | ((with_reducible refine gate_callee (f := 86) rfl ?_); refine goesL_ (some 8) rfl rfl Try.func86 (by kernel_rfl) rfl #[.int .i64 a0] rfl (by (try simp only [List.map_toArray, List.map_cons, List.map_nil]); first | done | rfl | (simp only [List.length_drop, List.length_take]; rfl)) ?_; (with_reducible refine (cmp_isNaN_int.calls a0 true _ A3.out).mono ?_); rintro e w' ⟨rfl, ⟨nd, rfl⟩⟩; refine ⟨_, rfl, ?_⟩) | ((with_reducible refine gate_callee (f := 86) rfl ?_); refine goesL_ (some 10) rfl rfl Try.func86 (by kernel_rfl) rfl #[.int .i64 a1] rfl (by (try simp only [List.map_toArray, List.map_cons, List.map_nil]); first | done | rfl | (simp only [List.length_drop, List.length_take]; rfl)) ?_; (with_reducible refine (cmp_isNaN_int.calls a1 false _ A4.out).mono ?_); rintro e w' ⟨rfl, ⟨nd, rfl⟩⟩; refine ⟨_, rfl, ?_⟩))
   go_ret
   exact ⟨by first | rfl | (simp; done) | (simp [*]; done), by repeat (first | exact Drawn0.refl _ | apply Drawn0.step)⟩
 ·replace c5 := Bool.eq_false_iff.mpr c5
  subst c5
  have H1 : (if t726 = true then (some 1) else (if a0 < a1 then (some (-1)) else (if a0 > a1 then (some 1) else (some 0)))) = some r := by rw [if_neg (show ¬ (false = true) by decide)] at H; exact H
  clear H
  have H := H1
  clear H1
  by_cases c7 : t726 = true
  ·subst c7
   have H1 : (some 1) = some r := by rw [if_pos rfl] at H; exact H
   clear H
   have H := H1
   clear H1
   obtain rfl := Option.some.inj H
   go_enter Try.func83, Try.ntmps83
   go_wp2_with (first | ((with_reducible refine gate_callee (f := 86) rfl ?_); refine goesL_ (some 8) rfl rfl Try.func86 (by kernel_rfl) rfl #[.int .i64 a0] rfl (by (try simp only [List.map_toArray, List.map_cons, List.map_nil]); first | done | rfl | (simp only [List.length_drop, List.length_take]; rfl)) ?_; (with_reducible refine (cmp_isNaN_int.calls a0 false _ A3.out).mono ?_); rintro e w' ⟨rfl, ⟨nd, rfl⟩⟩; refine ⟨_, rfl, ?_⟩) | ((with_reducible refine gate_callee (f := 86) rfl ?_); refine goesL_ (some 10) rfl rfl Try.func86 (by kernel_rfl) rfl #[.int .i64 a1] rfl (by (try simp only [List.map_toArray, List.map_cons, List.map_nil]); first | done | rfl | (simp only [List.length_drop, List.length_take]; rfl)) ?_; (with_reducible refine (cmp_isNaN_int.calls a1 true _ A4.out).mono ?_); rintro e w' ⟨rfl, ⟨nd, rfl⟩⟩; refine ⟨_, rfl, ?_⟩))
   go_ret
   exact ⟨by first | rfl | (simp; done) | (simp [*]; done), by repeat (first | exact Drawn0.refl _ | apply Drawn0.step)⟩
  ·replace c7 := Bool.eq_false_iff.mpr c7
   subst c7
   have H1 : (if a0 < a1 then (some (-1)) else (if a0 > a1 then (some 1) else (some 0))) = some r := by rw [if_neg (show ¬ (false = true) by decide)] at H; exact H
   clear H
   have H := H1
   clear H1
   by_cases c8 : a0 < a1
   ·rw [if_pos c8] at H
    have c8b0 : decide (a0 < a1) = true := decide_eq_true c8
    clear c8
    obtain rfl := Option.some.inj H
    go_enter Try.func83, Try.ntmps83
    go_wp2_with (first | ((with_reducible refine gate_callee (f := 86) rfl ?_); refine goesL_ (some 8) rfl rfl Try.func86 (by kernel_rfl) rfl #[.int .i64 a0] rfl (by (try simp only [List.map_toArray, List.map_cons, List.map_nil]); first | done | rfl | (simp only [List.length_drop, List.length_take]; rfl)) ?_; (with_reducible refine (cmp_isNaN_int.calls a0 false _ A3.out).mono ?_); rintro e w' ⟨rfl, ⟨nd, rfl⟩⟩; refine ⟨_, rfl, ?_⟩) | ((with_reducible refine gate_callee (f := 86) rfl ?_); refine goesL_ (some 10) rfl rfl Try.func86 (by kernel_rfl) rfl #[.int .i64 a1] rfl (by (try simp only [List.map_toArray, List.map_cons, List.map_nil]); first | done | rfl | (simp only [List.length_drop, List.length_take]; rfl)) ?_; (with_reducible refine (cmp_isNaN_int.calls a1 false _ A4.out).mono ?_); rintro e w' ⟨rfl, ⟨nd, rfl⟩⟩; refine ⟨_, rfl, ?_⟩))
    go_ret
    exact ⟨by first | rfl | (simp; done) | (simp [*]; done), by repeat (first | exact Drawn0.refl _ | apply Drawn0.step)⟩
   ·rw [if_neg c8] at H
    have c8b0 : decide (a0 < a1) = false := decide_eq_false c8
    clear c8
    by_cases c9 : a0 > a1
    ·rw [if_pos c9] at H
     have c9b0 : decide (a1 < a0) = true := decide_eq_true c9
     clear c9
     obtain rfl := Option.some.inj H
     go_enter Try.func83, Try.ntmps83
     go_wp2_with (first | ((with_reducible refine gate_callee (f := 86) rfl ?_); refine goesL_ (some 8) rfl rfl Try.func86 (by kernel_rfl) rfl #[.int .i64 a0] rfl (by (try simp only [List.map_toArray, List.map_cons, List.map_nil]); first | done | rfl | (simp only [List.length_drop, List.length_take]; rfl)) ?_; (with_reducible refine (cmp_isNaN_int.calls a0 false _ A3.out).mono ?_); rintro e w' ⟨rfl, ⟨nd, rfl⟩⟩; refine ⟨_, rfl, ?_⟩) | ((with_reducible refine gate_callee (f := 86) rfl ?_); refine goesL_ (some 10) rfl rfl Try.func86 (by kernel_rfl) rfl #[.int .i64 a1] rfl (by (try simp only [List.map_toArray, List.map_cons, List.map_nil]); first | done | rfl | (simp only [List.length_drop, List.length_take]; rfl)) ?_; (with_reducible refine (cmp_isNaN_int.calls a1 false _ A4.out).mono ?_); rintro e w' ⟨rfl, ⟨nd, rfl⟩⟩; refine ⟨_, rfl, ?_⟩))
     go_ret
     exact ⟨by first | rfl | (simp; done) | (simp [*]; done), by repeat (first | exact Drawn0.refl _ | apply Drawn0.step)⟩
    ·rw [if_neg c9] at H
     have c9b0 : decide (a1 < a0) = false := decide_eq_false c9
     clear c9
     obtain rfl := Option.some.inj H
     go_enter Try.func83, Try.ntmps83
     go_wp2_with (first | ((with_reducible refine gate_callee (f := 86) rfl ?_); refine goesL_ (some 8) rfl rfl Try.func86 (by kernel_rfl) rfl #[.int .i64 a0] rfl (by (try simp only [List.map_toArray, List.map_cons, List.map_nil]); first | done | rfl | (simp only [List.length_drop, List.length_take]; rfl)) ?_; (with_reducible refine (cmp_isNaN_int.calls a0 false _ A3.out).mono ?_); rintro e w' ⟨rfl, ⟨nd, rfl⟩⟩; refine ⟨_, rfl, ?_⟩) | ((with_reducible refine gate_callee (f := 86) rfl ?_); refine goesL_ (some 10) rfl rfl Try.func86 (by kernel_rfl) rfl #[.int .i64 a1] rfl (by (try simp only [List.map_toArray, List.map_cons, List.map_nil]); first | done | rfl | (simp only [List.length_drop, List.length_take]; rfl)) ?_; (with_reducible refine (cmp_isNaN_int.calls a1 false _ A4.out).mono ?_); rintro e w' ⟨rfl, ⟨nd, rfl⟩⟩; refine ⟨_, rfl, ?_⟩))
     go_ret
     exact ⟨by first | rfl | (simp; done) | (simp [*]; done), by repeat (first | exact Drawn0.refl _ | apply Drawn0.step)⟩

end Go.Proofs.Ytdkncfmlehcjmaa.X
end

section
namespace Go.Proofs.Ytdkncfmlehcjmaa.X
open Go.RowKit Go.Proofs.YtdkncfmlehcjmaaW.PrintWords Go.Proofs.YtdkncfmlehcjmaaW.PrintLast Go.Proofs.YtdkncfmlehcjmaaW.PrintMore
attribute [local go_sem] max2_int min2_int max_two min_two max_three min_three max_four min_four   -- for this text's walks alone
set_option linter.unusedVariables false
set_option linter.unusedSimpArgs false

def serial_number_int_68.l0 : Nat → List Int → List Int → List Int → Int → Int → Option (Int)
 | 0, _, _, _, _, _ => none
 | k + 1, x0, x1, x9, x10, x11 => if x11 < x10 then (if 0 ≤ x11 then (if x11 < (x9.length : Int) then (if x11 ≥ (x1.length : Int) then (some 1) else (if x11 < (x1.length : Int) then ((cmp_Compare_int.f (rd x9 x11) (rd x1 x11)).bind fun t729 => (if t729 = 0 then (serial_number_int_68.l0 k x0 x1 x9 x10 (wrap64 (x11 + 1))) else (some t729))) else (none))) else (none)) else (none)) else (if (x0.length : Int) < (x1.length : Int) then (some (-1)) else (some 0))
def serial_number_int_68.f (k : Nat) (l0 : List Int) (l1 : List Int) : Option (Int) := serial_number_int_68.l0 k l0 l1 l0 (l0.length : Int) 0
set_option maxHeartbeats 8000000 in
set_option maxRecDepth 100000 in
theorem serial_number_int_68.calls (k : Nat) (A0 : Option Addr) (c0 : Nat) (l0 : List Int) (A1 : Option Addr) (c1 : Nat) (l1 : List Int) (r : Int) (w : World) (hr0 : Kd.C (Kd.int .i64) w A0 l0.length l0) (hc0 : l0.length ≤ c0) (hr1 : Kd.C (Kd.int .i64) w A1 l1.length l1) (hc1 : l1.length ≤ c1) (h : serial_number_int_68.f k l0 l1 = some r) :
  Calls Try.prog 68 #[.slice A0 l0.length c0, .slice A1 l1.length c1] w fun e w' => e = .returned (.int .i64 r) ∧ Drawn0 w w' := by
 have HR0 := Aside0.mk hr0
 have HC0 := Aside0.mk hc0
 clear hr0 hc0
 have HR1 := Aside0.mk hr1
 have HC1 := Aside0.mk hc1
 clear hr1 hc1
 have H : (serial_number_int_68.l0 k l0 l1 l0 (l0.length : Int) 0) = some r := h
 clear h
 have H' := Aside0.mk H
 clear H
 go_enter Try.func68, Try.ntmps68
 go_wp2
 go_loopg [11] k (fun kq v11 w' => ∃ (x11_1 : Int), v11 = .int .i64 x11_1 ∧ Aside0 (serial_number_int_68.l0 kq l0 l1 l0 (l0.length : Int) x11_1 = some r) ∧ Aside0 (kq ≤ k) ∧ Drawn0 w w')
 case atStart => exact ⟨(0), (by first | rfl | (simp; done) | (simp [*]; done)), H', ⟨Nat.le_refl _⟩, by repeat (first | exact Drawn0.refl _ | apply Drawn0.step)⟩
 case round =>
  clear H'
  try clear c1
  try clear p2
  obtain ⟨x11_1, rfl, HA, HK1, ⟨m1, rfl⟩⟩ := hrel
  cases gk with
  | zero => exact absurd HA.out (by simp [serial_number_int_68.l0])
  | succ k1 =>
   have H := HA.out
   clear HA
   simp only [serial_number_int_68.l0] at H
   by_cases c3 : x11_1 < (l0.length : Int)
   ·rw [if_pos c3] at H
    have c3b0 : decide (x11_1 < (l0.length : Int)) = true := decide_eq_true c3
    clear c3
    by_cases c4 : 0 ≤ x11_1
    ·rw [if_pos c4] at H
     have c4b0 : decide (0 ≤ x11_1) = true := decide_eq_true c4
     clear c4
     by_cases c5 : x11_1 < (l0.length : Int)
     ·rw [if_pos c5] at H
      have c5b0 : decide (x11_1 < (l0.length : Int)) = true := decide_eq_true c5
      clear c5
      by_cases c6 : x11_1 ≥ (l1.length : Int)
      ·rw [if_pos c6] at H
       have c6b0 : decide ((l1.length : Int) ≤ x11_1) = true := decide_eq_true c6
       clear c6
       obtain rfl := Option.some.inj H
       have p727 : 0 ≤ (x11_1 : Int) := of_decide_eq_true (by first | (with_reducible assumption) | assumption)
       have q727 : x11_1 < (l0.length : Int) := of_decide_eq_true (by first | (with_reducible assumption) | assumption)
       obtain ⟨ad727, e727, hx727_0⟩ := Kd.at_int HR0.out x11_1 p727 q727
       cases e727
       replace p727 := eq_true p727
       replace q727 := eq_true q727
       go_wp2
       go_ret
       exact ⟨by first | rfl | (simp; done) | (simp [*]; done), by repeat (first | exact Drawn0.refl _ | apply Drawn0.step)⟩
      ·rw [if_neg c6] at H
       have c6b0 : decide ((l1.length : Int) ≤ x11_1) = false := decide_eq_false c6
       clear c6
       by_cases c7 : x11_1 < (l1.length : Int)
       ·rw [if_pos c7] at H
        have c7b0 : decide (x11_1 < (l1.length : Int)) = true := decide_eq_true c7
        clear c7
        replace H := Option.bind_eq_some_iff.mp H
        obtain ⟨t729, A80, H⟩ := H
        replace H : (if t729 = 0 then (serial_number_int_68.l0 k1 l0 l1 l0 (l0.length : Int) (wrap64 (x11_1 + 1))) else (some t729)) = some r := H
        have A8 := Aside0.mk A80
        clear A80
        by_cases c9 : t729 = 0
        ·rw [if_pos c9] at H
         have c9b0 : (t729 == 0) = true := beq_iff_eq.mpr c9
         have c9b1 : (t729 != 0) = false := bne_eq_false_iff_eq.mpr c9
         clear c9
         have H' := Aside0.mk H
         clear H
         have p727 : 0 ≤ (x11_1 : Int) := of_decide_eq_true (by first | (with_reducible assumption) | assumption)
         have q727 : x11_1 < (l0.length : Int) := of_decide_eq_true (by first | (with_reducible assumption) | assumption)
         obtain ⟨ad727, e727, hx727_0⟩ := Kd.at_int HR0.out x11_1 p727 q727
         cases e727
         replace p727 := eq_true p727
         replace q727 := eq_true q727
         have p728 : 0 ≤ (x11_1 : Int) := of_decide_eq_true (by first | (with_reducible assumption) | assumption)
         have q728 : x11_1 < (l1.length : Int) := of_decide_eq_true (by first | (with_reducible assumption) | assumption)
         obtain ⟨ad728, e728, hx728_0⟩ := Kd.at_int HR1.out x11_1 p728 q728
         cases e728
         replace p728 := eq_true p728
         replace q728 := eq_true q728
         go_wp2_with (first | ((with_reducible refine gate_callee (f := 83) rfl ?_); refine goesL_ (some 26) rfl rfl Try.func83 (by kernel_rfl) rfl #[.int .i64 (rd l0 x11_1), .int .i64 (rd l1 x11_1)] rfl (by (try simp only [List.map_toArray, List.map_cons, List.map_nil]); first | done | rfl | (simp only [List.length_drop, List.length_take]; rfl)) ?_; (with_reducible refine (cmp_Compare_int.calls (rd l0 x11_1) (rd l1 x11_1) t729 _ A8.out).mono ?_); rintro e w' ⟨rfl, ⟨nd, rfl⟩⟩; refine ⟨_, rfl, ?_⟩))
         go_roundg k1
         case measure => have := HK1.out; omega
         case rel => exact ⟨(wrap64 (x11_1 + 1)), (by first | rfl | (simp; done) | (simp [*]; done)), H', ⟨by have := HK1.out; omega⟩, by repeat (first | exact Drawn0.refl _ | apply Drawn0.step)⟩
        ·rw [if_neg c9] at H
         have c9b0 : (t729 == 0) = false := beq_eq_false_iff_ne.mpr c9
         have c9b1 : (t729 != 0) = true := bne_iff_ne.mpr c9
         obtain rfl := Option.some.inj H
         have p727 : 0 ≤ (x11_1 : Int) := of_decide_eq_true (by first | (with_reducible assumption) | assumption)
         have q727 : x11_1 < (l0.length : Int) := of_decide_eq_true (by first | (with_reducible assumption) | assumption)
         obtain ⟨ad727, e727, hx727_0⟩ := Kd.at_int HR0.out x11_1 p727 q727
         cases e727
         replace p727 := eq_true p727
         replace q727 := eq_true q727
         have p728 : 0 ≤ (x11_1 : Int) := of_decide_eq_true (by first | (with_reducible assumption) | assumption)
         have q728 : x11_1 < (l1.length : Int) := of_decide_eq_true (by first | (with_reducible assumption) | assumption)
         obtain ⟨ad728, e728, hx728_0⟩ := Kd.at_int HR1.out x11_1 p728 q728
         cases e728
         replace p728 := eq_true p728
         replace q728 := eq_true q728
         go_wp2_with (first | ((with_reducible refine gate_callee (f := 83) rfl ?_); refine goesL_ (some 26) rfl rfl Try.func83 (by kernel_rfl) rfl #[.int .i64 (rd l0 x11_1), .int .i64 (rd l1 x11_1)] rfl (by (try simp only [List.map_toArray, List.map_cons, List.map_nil]); first | done | rfl | (simp only [List.length_drop, List.length_take]; rfl)) ?_; (with_reducible refine (cmp_Compare_int.calls (rd l0 x11_1) (rd l1 x11_1) t729 _ A8.out).mono ?_); rintro e w' ⟨rfl, ⟨nd, rfl⟩⟩; refine ⟨_, rfl, ?_⟩))
         go_ret
         exact ⟨by first | rfl | (simp; done) | (simp [*]; done), by repeat (first | exact Drawn0.refl _ | apply Drawn0.step)⟩
       ·rw [if_neg c7] at H
        exact absurd H (by simp)
     ·rw [if_neg c5] at H
      exact absurd H (by simp)
    ·rw [if_neg c4] at H
     exact absurd H (by simp)
   ·rw [if_neg c3] at H
    have c3b0 : decide (x11_1 < (l0.length : Int)) = false := decide_eq_false c3
    clear c3
    by_cases c10 : (l0.length : Int) < (l1.length : Int)
    ·rw [if_pos c10] at H
     have c10b0 : decide ((l0.length : Int) < (l1.length : Int)) = true := decide_eq_true c10
     have c10b1 : decide (l0.length < l1.length) = true := decide_eq_true (Int.ofNat_lt.mp c10)
     clear c10
     obtain rfl := Option.some.inj H
     go_wp2
     go_ret
     exact ⟨by first | rfl | (simp; done) | (simp [*]; done), by repeat (first | exact Drawn0.refl _ | apply Drawn0.step)⟩
    ·rw [if_neg c10] at H
     have c10b0 : decide ((l0.length : Int) < (l1.length : Int)) = false := decide_eq_false c10
     have c10b1 : decide (l0.length < l1.length) = false := decide_eq_false (fun h => c10 (Int.ofNat_lt.mpr h))
     clear c10
     obtain rfl := Option.some.inj H
     go_wp2
     go_ret
     exact ⟨by first | rfl | (simp; done) | (simp [*]; done), by repeat (first | exact Drawn0.refl _ | apply Drawn0.step)⟩

end Go.Proofs.Ytdkncfmlehcjmaa.X
end

section
/- What errors make of a number, in plain words: singles, neighbors, twins, jumps; comparing numbers. -/
set_option linter.unusedVariables false
set_option linter.unusedSimpArgs false
namespace Go.Proofs.Ytdkncfmlehcjmaa.X
open Go.RowKit Go.Proofs.YtdkncfmlehcjmaaW.PrintWords
/-- The errors of a kind at a position. -/
def errAt (kind : Nat) (l : List Int) (n : Nat) (i : Nat) : List (List Int) :=
  match kind with
  | 0 => (List.range n).flatMap fun (x : Nat) => if (x : Int) = rd l (i : Int) then [] else [withN l (i : Int) [(x : Int)]]
  | 1 => if rd l (i : Int) = rd l ((i + 1 : Nat) : Int) then [] else [withN l (i : Int) [rd l ((i + 1 : Nat) : Int), rd l (i : Int)]]
  | 2 => (List.range n).flatMap fun (x : Nat) => if rd l (i : Int) = rd l ((i + 1 : Nat) : Int) then (if (x : Int) = rd l ((i + 1 : Nat) : Int) then [] else [withN l (i : Int) [(x : Int), (x : Int)]]) else []
  | _ => if rd l (i : Int) = rd l ((i + 2 : Nat) : Int) then [] else [withN l (i : Int) [rd l ((i + 2 : Nat) : Int), rd l ((i + 1 : Nat) : Int), rd l (i : Int)]]
/-- How many positions an error of a kind has. -/
def errN (kind len : Nat) : Nat := match kind with | 0 => len | 1 => len - 1 | 2 => len - 1 | _ => len - 2
def errTo (kind : Nat) (l : List Int) (n i : Nat) : List (List Int) := (List.range i).flatMap (errAt kind l n)
def errsOf (kind : Nat) (l : List Int) (n : Nat) : List (List Int) := errTo kind l n (errN kind l.length)
theorem errTo_succ (kind : Nat) (l : List Int) (n i : Nat) : errTo kind l n (i + 1) = errTo kind l n i ++ errAt kind l n i := by
  simp [errTo, List.range_succ]
theorem flen {α : Type} (F : Nat → List α) (h : ∀ x, (F x).length ≤ 1) (n : Nat) : ((List.range n).flatMap F).length ≤ n := by
  induction n with
  | zero => simp
  | succ n ih => rw [List.range_succ, List.flatMap_append, List.length_append]; have := h n; simp only [List.flatMap_cons, List.flatMap_nil, List.append_nil]; omega
theorem errAt_len (kind : Nat) (l : List Int) (n i : Nat) (hn : 1 ≤ n) : (errAt kind l n i).length ≤ n := by
  unfold errAt
  split
  · exact flen _ (fun x => by split <;> simp) n
  · split <;> simp; omega
  · exact flen _ (fun x => by split; split <;> simp; simp) n
  · split <;> simp; omega
theorem errTo_len (kind : Nat) (l : List Int) (n i : Nat) (hn : 1 ≤ n) : (errTo kind l n i).length ≤ i * n := by
  induction i with
  | zero => simp [errTo]
  | succ i ih => rw [errTo_succ, List.length_append, Nat.add_mul, Nat.one_mul]; have := errAt_len kind l n i hn; omega
theorem errTo_small (kind : Nat) (l : List Int) (n i : Nat) (hn : 1 ≤ n) (hn2 : n ≤ 12) (hi : i ≤ 1000) : (errTo kind l n i).length ≤ 12000 := by
  have h1 := errTo_len kind l n i hn
  have h2 : i * n ≤ 1000 * 12 := Nat.mul_le_mul hi hn2
  omega
theorem with_eq (l : List Int) (i : Nat) (ds : List Int) (h : i + ds.length ≤ l.length) (hd : 0 < ds.length) (hl : l.length ≤ 1000) : serial_number_with.f l (i : Int) ds = some (withN l (i : Int) ds) := by
  unfold serial_number_with.f
  rw [if_pos (by omega)]
section
variable {l : List Int} {n : Nat} (hl : l.length ≤ 1000) (hn : 1 ≤ n) (hn2 : n ≤ 12)
include hl hn hn2
theorem ev_singles_1 (i : Nat) (hi : i < l.length) (r : List (List Int)) (h : Ev (fun k => serial_number_singles.l0 k l n (errTo 0 l n (i + 1)) l l.length ((i + 1 : Nat) : Int)) r) (d : Nat) : ∀ x : Nat, x + d = n →
    Ev (fun k => serial_number_singles.l1 k l n (errTo 0 l n i ++ (List.range x).flatMap fun (x : Nat) => if (x : Int) = rd l (i : Int) then [] else [withN l (i : Int) [(x : Int)]]) i (rd l (i : Int)) l l.length i n x) r := by
  induction d with
  | zero =>
    intro x hx
    obtain rfl : x = n := by omega
    rw [errTo_succ] at h
    refine Ev.step (fun k => ?_) h
    simp only [serial_number_singles.l1]
    rw [if_neg (by omega), w64 (by omega) (by omega)]; rfl
  | succ d ih =>
    intro x hx
    have h1 := ih (x + 1) (by omega)
    rw [List.range_succ, List.flatMap_append, ← List.append_assoc] at h1
    refine Ev.step (fun k => ?_) h1
    simp only [serial_number_singles.l1]
    rw [if_pos (by omega), w64 (x := (x : Int) + 1) (by omega) (by omega)]
    have hlen := errTo_small 0 l n i hn hn2 (by omega)
    have hlen2 := flen (fun (x : Nat) => if (x : Int) = rd l (i : Int) then ([] : List (List Int)) else [withN l (i : Int) [(x : Int)]]) (fun x => by split <;> simp) x
    by_cases hq : (x : Int) = rd l (i : Int)
    · rw [if_pos hq]; simp [hq]
    · rw [if_neg hq, with_eq l i _ (by simp; omega) (by simp) hl]
      simp only [Option.bind_some]
      rw [if_pos (by rw [List.length_append]; omega)]; simp [hq]
theorem ev_singles_0 (d : Nat) : ∀ i : Nat, i + d = l.length → Ev (fun k => serial_number_singles.l0 k l n (errTo 0 l n i) l l.length i) (errsOf 0 l n) := by
  induction d with
  | zero =>
    intro i hi
    obtain rfl : i = l.length := by omega
    refine Ev.step (f := fun _ => some (errsOf 0 l n)) (fun k => ?_) (Ev.now _)
    simp only [serial_number_singles.l0]; rw [if_neg (by omega)]; rfl
  | succ d ih =>
    intro i hi
    have h := ev_singles_1 hl hn hn2 i (by omega) _ (ih (i + 1) (by omega)) n 0 (by omega)
    simp only [List.range_zero, List.flatMap_nil, List.append_nil] at h
    refine Ev.step (fun k => ?_) h
    simp only [serial_number_singles.l0]
    rw [if_pos (by omega), if_pos (by omega), if_pos (by omega)]; rfl
theorem ev_singles : Ev (fun k => serial_number_singles.f k l n) (errsOf 0 l n) := ev_singles_0 hl hn hn2 l.length 0 (by omega)
theorem ev_neighbors_0 (d : Nat) : ∀ i : Nat, i + d = l.length - 1 → Ev (fun k => serial_number_neighbors.l0 k l (errTo 1 l n i) ((i + 1 : Nat) : Int)) (errsOf 1 l n) := by
  induction d with
  | zero =>
    intro i hi
    obtain rfl : i = l.length - 1 := by omega
    refine Ev.step (f := fun _ => some (errsOf 1 l n)) (fun k => ?_) (Ev.now _)
    simp only [serial_number_neighbors.l0]; rw [if_neg (by omega)]; rfl
  | succ d ih =>
    intro i hi
    have h := ih (i + 1) (by omega)
    have hlen := errTo_small 1 l n i hn hn2 (by omega)
    refine Ev.step (fun k => ?_) h
    simp only [serial_number_neighbors.l0]
    have e1 : wrap64 (((i + 1 : Nat) : Int) - 1) = (i : Int) := by rw [w64 (by omega) (by omega)]; omega
    have e2 : wrap64 (((i + 1 : Nat) : Int) + 1) = ((i + 1 + 1 : Nat) : Int) := by rw [w64 (by omega) (by omega)]; omega
    rw [e1, e2, if_pos (by omega), if_pos (by omega), if_pos (by omega), if_pos (by omega), errTo_succ]
    by_cases hq : rd l (i : Int) = rd l ((i + 1 : Nat) : Int)
    · rw [if_pos hq, show errAt 1 l n i = [] by simp [errAt, hq], List.append_nil]
    · rw [if_neg hq, with_eq l i _ (by simp; omega) (by simp) hl]
      simp only [Option.bind_some]
      rw [if_pos (by omega), show errAt 1 l n i = _ from if_neg hq]
theorem ev_neighbors : Ev (fun k => serial_number_neighbors.f k l n) (errsOf 1 l n) := ev_neighbors_0 hl hn hn2 (l.length - 1) 0 (by omega)
theorem ev_twins_1 (i : Nat) (hi : i + 1 < l.length) (r : List (List Int)) (h : Ev (fun k => serial_number_twins.l0 k l n (errTo 2 l n (i + 1)) ((i + 1 + 1 : Nat) : Int)) r) (d : Nat) : ∀ x : Nat, x + d = n →
    Ev (fun k => serial_number_twins.l1 k l n (errTo 2 l n i ++ (List.range x).flatMap fun (x : Nat) => if rd l (i : Int) = rd l ((i + 1 : Nat) : Int) then (if (x : Int) = rd l ((i + 1 : Nat) : Int) then [] else [withN l (i : Int) [(x : Int), (x : Int)]]) else []) ((i + 1 : Nat) : Int) n x) r := by
  have e1 : wrap64 (((i + 1 : Nat) : Int) - 1) = (i : Int) := by rw [w64 (by omega) (by omega)]; omega
  have e2 : wrap64 (((i + 1 : Nat) : Int) + 1) = ((i + 1 + 1 : Nat) : Int) := by rw [w64 (by omega) (by omega)]; omega
  induction d with
  | zero =>
    intro x hx
    obtain rfl : x = n := by omega
    rw [errTo_succ] at h
    refine Ev.step (fun k => ?_) h
    simp only [serial_number_twins.l1]
    rw [if_neg (by omega), e2]; rfl
  | succ d ih =>
    intro x hx
    have h1 := ih (x + 1) (by omega)
    rw [List.range_succ, List.flatMap_append, ← List.append_assoc] at h1
    refine Ev.step (fun k => ?_) h1
    simp only [serial_number_twins.l1]
    rw [e1, if_pos (by omega), w64 (x := (x : Int) + 1) (by omega) (by omega), if_pos (by omega), if_pos (by omega), if_pos (by omega), if_pos (by omega)]
    have hlen := errTo_small 2 l n i hn hn2 (by omega)
    have hlen2 := flen (fun (x : Nat) => if rd l (i : Int) = rd l ((i + 1 : Nat) : Int) then (if (x : Int) = rd l ((i + 1 : Nat) : Int) then ([] : List (List Int)) else [withN l (i : Int) [(x : Int), (x : Int)]]) else []) (fun x => by split; split <;> simp; simp) x
    by_cases hp : rd l (i : Int) = rd l ((i + 1 : Nat) : Int)
    · rw [if_pos hp]
      by_cases hq : (x : Int) = rd l ((i + 1 : Nat) : Int)
      · rw [if_pos hq]; simp only [List.flatMap_cons, List.flatMap_nil, List.append_nil]; rw [if_pos hp, if_pos hq, List.append_nil]; rfl
      · rw [if_neg hq, with_eq l i _ (by simp; omega) (by simp) hl]
        simp only [Option.bind_some]
        rw [if_pos (by rw [List.length_append]; omega)]; simp only [List.flatMap_cons, List.flatMap_nil, List.append_nil]; rw [if_pos hp, if_neg hq]; rfl
    · rw [if_neg hp]; simp only [List.flatMap_cons, List.flatMap_nil, List.append_nil]; rw [if_neg hp, List.append_nil]; rfl
theorem ev_twins_0 (d : Nat) : ∀ i : Nat, i + d = l.length - 1 → Ev (fun k => serial_number_twins.l0 k l n (errTo 2 l n i) ((i + 1 : Nat) : Int)) (errsOf 2 l n) := by
  induction d with
  | zero =>
    intro i hi
    obtain rfl : i = l.length - 1 := by omega
    refine Ev.step (f := fun _ => some (errsOf 2 l n)) (fun k => ?_) (Ev.now _)
    simp only [serial_number_twins.l0]; rw [if_neg (by omega)]; rfl
  | succ d ih =>
    intro i hi
    have h := ev_twins_1 hl hn hn2 i (by omega) _ (ih (i + 1) (by omega)) n 0 (by omega)
    simp only [List.range_zero, List.flatMap_nil, List.append_nil] at h
    refine Ev.step (fun k => ?_) h
    simp only [serial_number_twins.l0]
    rw [if_pos (by omega)]; rfl
theorem ev_twins : Ev (fun k => serial_number_twins.f k l n) (errsOf 2 l n) := ev_twins_0 hl hn hn2 (l.length - 1) 0 (by omega)
theorem ev_jumps_0 (d : Nat) : ∀ i : Nat, i + d = l.length - 2 → Ev (fun k => serial_number_jumps.l0 k l (errTo 3 l n i) ((i + 2 : Nat) : Int)) (errsOf 3 l n) := by
  induction d with
  | zero =>
    intro i hi
    obtain rfl : i = l.length - 2 := by omega
    refine Ev.step (f := fun _ => some (errsOf 3 l n)) (fun k => ?_) (Ev.now _)
    simp only [serial_number_jumps.l0]; rw [if_neg (by omega)]; rfl
  | succ d ih =>
    intro i hi
    have h := ih (i + 1) (by omega)
    have hlen := errTo_small 3 l n i hn hn2 (by omega)
    refine Ev.step (fun k => ?_) h
    simp only [serial_number_jumps.l0]
    have e0 : wrap64 (((i + 2 : Nat) : Int) - 2) = (i : Int) := by rw [w64 (by omega) (by omega)]; omega
    have e1 : wrap64 (((i + 2 : Nat) : Int) - 1) = ((i + 1 : Nat) : Int) := by rw [w64 (by omega) (by omega)]; omega
    have e2 : wrap64 (((i + 2 : Nat) : Int) + 1) = ((i + 1 + 2 : Nat) : Int) := by rw [w64 (by omega) (by omega)]; omega
    rw [e0, e1, e2, if_pos (by omega), if_pos (by omega), if_pos (by omega), if_pos (by omega), errTo_succ]
    by_cases hq : rd l (i : Int) = rd l ((i + 2 : Nat) : Int)
    · rw [if_pos hq, show errAt 3 l n i = [] by simp [errAt, hq], List.append_nil]
    · rw [if_neg hq, if_pos (by omega), if_pos (by omega), with_eq l i _ (by simp; omega) (by simp) hl]
      simp only [Option.bind_some]
      rw [if_pos (by omega), show errAt 3 l n i = _ from if_neg hq]
theorem ev_jumps : Ev (fun k => serial_number_jumps.f k l n) (errsOf 3 l n) := ev_jumps_0 hl hn hn2 (l.length - 2) 0 (by omega)
end
/-- Comparing numbers of the same length. -/
def lexLt : List Int → List Int → Bool
  | a :: x, b :: y => if a = b then lexLt x y else decide (a < b)
  | _, _ => false
theorem cmp_eq (a b : Int) : cmp_Compare_int.f a b = some (if a < b then -1 else if a > b then 1 else 0) := by
  simp [cmp_Compare_int.f, cmp_isNaN_int.f]
  split <;> (try rfl)
  split <;> rfl
theorem ev_cmp_l (a b : List Int) (hab : a.length = b.length) (hl : a.length ≤ 1000) (d : Nat) : ∀ i : Nat, i + d = a.length → ∃ c, Ev (fun k => serial_number_int_68.l0 k a b a a.length i) c ∧ (c < 0 ↔ lexLt (a.drop i) (b.drop i) = true) := by
  induction d with
  | zero =>
    intro i hi
    obtain rfl : i = a.length := by omega
    refine ⟨0, Ev.step (f := fun _ => some 0) (fun k => ?_) (Ev.now _), ?_⟩
    · simp only [serial_number_int_68.l0]; rw [if_neg (by omega), if_neg (by omega)]
    · rw [List.drop_of_length_le (Nat.le_refl _)]; simp [lexLt]
  | succ d ih =>
    intro i hi
    obtain ⟨c, h1, h2⟩ := ih (i + 1) (by omega)
    have ea : a.drop i = a[i] :: a.drop (i + 1) := List.drop_eq_getElem_cons (by omega)
    have eb : b.drop i = b[i] :: b.drop (i + 1) := List.drop_eq_getElem_cons (by omega)
    have ra := rd_nat a i (by omega)
    have rb := rd_nat b i (by omega)
    have go : ∀ k, serial_number_int_68.l0 (k + 1) a b a a.length i = (if (if a[i] < b[i] then (-1 : Int) else if a[i] > b[i] then 1 else 0) = 0 then serial_number_int_68.l0 k a b a a.length ((i + 1 : Nat) : Int) else some (if a[i] < b[i] then (-1 : Int) else if a[i] > b[i] then 1 else 0)) := by
      intro k
      simp only [serial_number_int_68.l0]
      rw [if_pos (by omega), if_pos (by omega), if_pos (by omega), if_neg (by omega), if_pos (by omega), ra, rb, cmp_eq, w64 (by omega) (by omega)]
      simp only [Option.bind_some]; rfl
    by_cases he : a[i] = b[i]
    · refine ⟨c, Ev.step (fun k => ?_) h1, ?_⟩
      · rw [go, he]; simp
      · rw [h2, ea, eb]; simp [lexLt, he]
    · by_cases hlt : a[i] < b[i]
      · refine ⟨-1, Ev.step (f := fun _ => some (-1)) (fun k => ?_) (Ev.now _), ?_⟩
        · rw [go]; simp [hlt]
        · rw [ea, eb]; simp [lexLt, he, hlt]
      · have hgt : a[i] > b[i] := by omega
        refine ⟨1, Ev.step (f := fun _ => some 1) (fun k => ?_) (Ev.now _), ?_⟩
        · rw [go]; simp [hlt, hgt]
        · rw [ea, eb]; simp [lexLt, he, hlt]
theorem ev_cmp (a b : List Int) (hab : a.length = b.length) (hl : a.length ≤ 1000) : ∃ c, Ev (fun k => serial_number_int_68.f k a b) c ∧ (c < 0 ↔ lexLt a b = true) := by
  obtain ⟨c, h1, h2⟩ := ev_cmp_l a b hab hl a.length 0 (by omega)
  exact ⟨c, h1, by simpa using h2⟩
end Go.Proofs.Ytdkncfmlehcjmaa.X
end

section
/- A range over a function whose rounds leave all that was there as it was: the law of the statement, after the library's laws for iterators that name what a body must keep. -/
set_option linter.unusedVariables false
set_option linter.unusedSimpArgs false
namespace Go.Proofs.Ytdkncfmlehcjmaa.X
open Go Go.RowKit
variable {F : Fence} {n : Nat} {P : Program}
/-- Whatever lies from block b on is as it was. -/
def KeptFrom (b : Nat) (W W' : World) : Prop := ∀ k, b ≤ k → k < W.heap.size → W'.heap[k]? = W.heap[k]?
/-- The iterator's contract: it hands out values x of which G holds; a round either says 'go on', then No holds of x and all that was there is as it was, or it says 'no more', then Jx holds. -/
def SeqR {α : Type} (F : Fence) (n : Nat) (P : Program) (g : Nat) (lb : Array Value) (encs : α → Array Value) (G : Nat → α → World → Prop) (S : (α → Prop) → Prop) (Sp : (α → Prop) → α → Prop) (w : World) : Prop :=
  ∀ (l : Nat) (No : α → Prop) (Jx : α → World → Prop) (W : World), Below w.heap.size w W → l < W.heap.size →
    (∀ x W1, Below W.heap.size W W1 → G W.heap.size x W1 → YieldAt F (n - 1) P l (encs x) W1 fun e W' =>
      (e = .returned (.bool true) ∧ No x ∧ Below W1.heap.size W1 W') ∨ (e = .returned (.bool false) ∧ Jx x W' ∧ KeptFrom W.heap.size W1 W')) →
    CallsIn F n P g (#[.func (.yield l) #[] #[]] ++ lb) W fun e W' => (∃ v, e = .returned v) ∧ ((S No ∧ Below W.heap.size W W') ∨ (∃ x, Sp No x ∧ Jx x W'))
/-- How a round's body may be left. -/
def postR {α : Type} (b : Nat) (No : α → Prop) (Ix : Code → α → World → Prop) (x : α) (W : World) : Exit → Act → World → Prop
  | .normal, _, W' => No x ∧ Below W.heap.size W W'
  | .ret, _, W' => KeepsOthers W W' ∧ KeptFrom b W W' ∧ Ix .ret x W'
  | .exit id, _, W' => KeepsOthers W W' ∧ KeptFrom b W W' ∧ Ix (.exit id) x W'
  | .goto t, _, W' => KeepsOthers W W' ∧ KeptFrom b W W' ∧ Ix (.goto t) x W'
  | .panic _, _, _ => False
  | .outgrown, _, _ => False
/-- A round that has gone on, its record laid back: all is as it was. -/
theorem below_round {W W3 : World} {l : Nat} {o o1 : Obj} (hl : W.heap[l]? = some o) (h : Below (W.putObj l o1).heap.size (W.putObj l o1) W3) : Below W.heap.size W (W3.putObj l o) := by
  have hlt : l < W.heap.size := (Array.getElem?_eq_some_iff.1 hl).1
  have hs : W.heap.size ≤ W3.heap.size := by have := h.size; rw [World.putObj_size] at this; exact this
  refine ⟨h.os, h.tape, h.output, by rw [World.putObj_size]; exact hs, fun k hk => ?_⟩
  by_cases e : k = l
  · subst e; rw [World.putObj_heap_same (by omega), hl]
  · rw [World.putObj_heap_other e, h.block k (by rw [World.putObj_size]; exact hk), World.putObj_heap_other e]
theorem wpIn_rangeFunc_R {α : Type} {g : Operand} {ps : Array Tmp} {assign body : Code} {Q : Exit → Act → World → Prop} {a : Act} {w : World}
    (hro : F.round = none) (h1 : 1 ≤ n) {gf : Nat} {lb : Array Value} (hg : a.eval g = .func (.func gf) #[] lb) (hFg : F.fn gf) (eg : ∀ args w, (callFunc gf args).run P w = .ok (.enter gf args) w)
    {encs : α → Array Value} {G : Nat → α → World → Prop} {S : (α → Prop) → Prop} {Sp : (α → Prop) → α → Prop} (hseq : SeqR F (n - 1) P gf lb encs G S Sp w)
    (hps : ∀ x, (encs x).size = ps.size)
    (hG : ∀ b x W l o', l < b → G b x W → G b x (W.putObj l o'))
    (No : α → Prop) (Ix : Code → α → World → Prop)
    (hIx : ∀ c x W l o o', w.heap.size ≤ l → W.heap[l]? = some o → o.isCells = false → Ix c x W → Ix c x (W.putObj l o')) (a₁ : α → Act)
    (hassign : ∀ (l : Nat) (x : α) (W : World) (K : Act → World → Prop), K (a₁ x) W →
      assign.wpIn (F.inRound l) (n - 1 - 1) P (Exit.then K (fun _ _ _ => False)) { tmps := (ps.zip (encs x)).foldl (fun t (p, v) => t.setIfInBounds p v) a.tmps, defers := [] } W)
    (hbody : ∀ (l : Nat) (x : α) (W : World), w.heap.size ≤ l → w.heap.size + 2 ≤ W.heap.size → Below w.heap.size w W → G (w.heap.size + 2) x W → body.wpIn (F.inRound l) (n - 1 - 1) P (postR (w.heap.size + 2) No Ix x W) (a₁ x) W)
    (hdone : ∀ (D : Nat) (W : World), w.heap.size ≤ D → S No → Below w.heap.size w W → W.heap[D]? = some (.deferred (some [])) → Q .normal { a with defers := { target := .collected D, args := #[] } :: a.defers } W)
    (hstop : ∀ (D : Nat) (c : Code) (x : α) (W : World), w.heap.size ≤ D → Sp No x → Ix c x W → W.heap[D]? = some (.deferred (some [])) → c.wpIn F n P Q { a with defers := { target := .collected D, args := #[] } :: a.defers } W) :
    (Code.rangeFunc g ps assign body).wpIn F n P Q a w := by
  refine wpIn_rangeFunc ?_
  intro fn hfn
  rw [hro]
  obtain ⟨rec, hrec⟩ : ∃ rec : LoopState → Option Code → Loop, rec = fun st pe => { state := st, pending := pe, fn, tmps := a.tmps, params := ps, assign, body, defers := w.heap.size } := ⟨_, rfl⟩
  obtain ⟨W1, hW1⟩ : ∃ W1, (w.alloc (.deferred (some []))).alloc (.loop (rec .ready none)) = W1 := ⟨_, rfl⟩
  have hL1 : W1.heap[w.heap.size + 1]? = some (.loop (rec .ready none)) := by
    rw [← hW1]; have := World.alloc_heap_new (w.alloc (.deferred (some []))) (.loop (rec .ready none)); rwa [World.size_alloc] at this
  have hK1 : W1.heap[w.heap.size]? = some (.deferred (some [])) := by
    rw [← hW1]; exact (Below.heap_alloc _ _ _ (by simp)).trans (World.alloc_heap_new w _)
  have hs1 : W1.heap.size = w.heap.size + 2 := by rw [← hW1]; simp
  have hb1 : Below w.heap.size w W1 := by
    rw [← hW1]; exact ((Below.refl _ w).alloc (Nat.le_refl _) _).alloc (by simp) _
  refine ⟨w.heap.size + 1, [{ target := .collected w.heap.size, args := #[] }], W1, { target := .fn (.func gf) lb, args := #[.func (.yield (w.heap.size + 1)) #[] #[]] }, W1, gf,
    #[.func (.yield (w.heap.size + 1)) #[] #[]] ++ lb, W1, ?_, ?_, ?_, ?_, fun _ => h1, ?_⟩
  · rw [← hW1, hrec]; exact run_enterLoop_outer _ _ _ _ _
  · simp only [resolve, hg]
    simp [go_sem]
  · intro f' hf'; simp [Target.leads] at hf'; subst hf'; exact hFg
  · simp [invoke, go_sem, eg]
  · refine (hseq (w.heap.size + 1) No
      (fun x W => ∃ c, Ix c x W ∧ W.heap[w.heap.size + 1]? = some (.loop (rec .done (some c))) ∧ W.heap[w.heap.size]? = some (.deferred (some [])))
      W1 hb1 (by omega) ?_).mono ?_
    · rintro x W hbW hGx
      have hl : W.heap[w.heap.size + 1]? = some (.loop (rec .ready none)) := (hbW.block _ (by omega)).trans hL1
      have hk : W.heap[w.heap.size]? = some (.deferred (some [])) := (hbW.block _ (by omega)).trans hK1
      have hlt : w.heap.size + 1 < W.heap.size := (Array.getElem?_eq_some_iff.1 hl).1
      have hy := run_yield (P := P) (args := encs x) hl (by rw [hrec]; exact hps x)
      rw [hrec] at hy
      refine ⟨fn, _, assign, body, hy, roundIn_of_wpIn hfn (hassign _ x W _ ⟨_, run_beginRound hl (by rw [hrec]), ?_⟩)⟩
      have hl2 : (W.putObj (w.heap.size + 1) (.loop { rec .ready none with state := .busy })).heap[w.heap.size + 1]? = some (.loop { rec .ready none with state := .busy }) := World.putObj_heap_same hlt
      have hk2 : (W.putObj (w.heap.size + 1) (.loop { rec .ready none with state := .busy })).heap[w.heap.size]? = some (.deferred (some [])) := (World.putObj_heap_other (by omega)).trans hk
      have hbw : Below w.heap.size w (W.putObj (w.heap.size + 1) (.loop { rec .ready none with state := .busy })) :=
        (hb1.trans (hbW.mono (by omega))).grown (grownBy_putObj' W _ _) (by omega) (fun k e => by cases e; omega)
      have hG2 : G (w.heap.size + 2) x (W.putObj (w.heap.size + 1) (.loop { rec .ready none with state := .busy })) := hG _ _ _ _ _ (by omega) (by rw [← hs1]; exact hGx)
      refine wpIn_mono (hbody _ x _ (by omega) (by rw [World.putObj_size]; omega) hbw hG2) ?_
      have fin : ∀ (jump : Option Code) (W3 : World), W3.heap[w.heap.size + 1]? = some (.loop { rec .ready none with state := .busy }) → W3.heap[w.heap.size]? = some (.deferred (some [])) →
          (Instr.endRound (w.heap.size + 1) jump).run P W3 = .ok (.bool jump.isNone) (W3.putObj (w.heap.size + 1) (.loop (rec (if jump.isNone then .ready else .done) jump))) ∧
          (W3.putObj (w.heap.size + 1) (.loop (rec (if jump.isNone then .ready else .done) jump))).heap[w.heap.size + 1]? = some (.loop (rec (if jump.isNone then .ready else .done) jump)) ∧
          (W3.putObj (w.heap.size + 1) (.loop (rec (if jump.isNone then .ready else .done) jump))).heap[w.heap.size]? = some (.deferred (some [])) := fun jump W3 hl3 hk3 => by
        have := run_endRound (P := P) jump hl3
        rw [hrec] at this ⊢
        exact ⟨this, World.putObj_heap_same (Array.getElem?_eq_some_iff.1 hl3).1, (World.putObj_heap_other (by omega)).trans hk3⟩
      have kept : ∀ {W3 : World} {o : Obj}, KeptFrom (w.heap.size + 2) (W.putObj (w.heap.size + 1) (.loop { rec .ready none with state := .busy })) W3 → KeptFrom W1.heap.size W (W3.putObj (w.heap.size + 1) o) := fun {W3 o} h k hk1 hk2 => by
        rw [World.putObj_heap_other (by omega), h k (by omega) (by rw [World.putObj_size]; exact hk2), World.putObj_heap_other (by omega)]
      rintro e a3 W3 hp
      cases e with
      | normal =>
        obtain ⟨hno, hk3⟩ := hp
        have h3l := (hk3.block _ (by rw [World.putObj_size]; omega)).trans hl2
        have h3k := (hk3.block _ (by rw [World.putObj_size]; omega)).trans hk2
        obtain ⟨hr, hl4, hk4⟩ := fin none W3 h3l h3k
        exact ⟨_, _, hr, .inl ⟨rfl, hno, below_round hl hk3⟩⟩
      | ret =>
        obtain ⟨hk3, hf3, hi3⟩ := hp
        have h3l := hk3.same _ _ hl2 rfl
        obtain ⟨hr, hl4, hk4⟩ := fin (some .ret) W3 h3l (hk3.same _ _ hk2 rfl)
        exact ⟨_, _, hr, .inr ⟨rfl, ⟨.ret, hIx _ _ _ _ _ _ (by omega) h3l rfl hi3, hl4, hk4⟩, kept hf3⟩⟩
      | exit id =>
        obtain ⟨hk3, hf3, hi3⟩ := hp
        have h3l := hk3.same _ _ hl2 rfl
        obtain ⟨hr, hl4, hk4⟩ := fin (some (.exit id)) W3 h3l (hk3.same _ _ hk2 rfl)
        exact ⟨_, _, hr, .inr ⟨rfl, ⟨.exit id, hIx _ _ _ _ _ _ (by omega) h3l rfl hi3, hl4, hk4⟩, kept hf3⟩⟩
      | goto t =>
        obtain ⟨hk3, hf3, hi3⟩ := hp
        have h3l := hk3.same _ _ hl2 rfl
        obtain ⟨hr, hl4, hk4⟩ := fin (some (.goto t)) W3 h3l (hk3.same _ _ hk2 rfl)
        exact ⟨_, _, hr, .inr ⟨rfl, ⟨.goto t, hIx _ _ _ _ _ _ (by omega) h3l rfl hi3, hl4, hk4⟩, kept hf3⟩⟩
      | panic ch => exact hp.elim
      | outgrown => exact hp.elim
    · rintro e W2 ⟨⟨v, rfl⟩, (⟨hS, hb2⟩ | ⟨x, hSp, c, hi, hl, hk⟩)⟩
      · have hl := (hb2.block _ (by omega)).trans hL1
        have hk := (hb2.block _ (by omega)).trans hK1
        refine ⟨none, _, by have := run_endLoop (P := P) hl (by rw [hrec]; simp); rw [hrec] at this; exact this, hdone _ _ (Nat.le_refl _) hS ?_ ((World.putObj_heap_other (by omega)).trans hk)⟩
        exact (hb1.trans (hb2.mono (by omega))).grown (grownBy_putObj' W2 _ _) (by have := hb1.size; have := hb2.size; omega) (fun k e => by cases e; omega)
      · exact ⟨some c, _, by have := run_endLoop (P := P) hl (by rw [hrec]; simp); rw [hrec] at this; exact this, hstop _ c x _ (Nat.le_refl _) hSp (hIx _ _ _ _ _ _ (by omega) hl rfl hi) ((World.putObj_heap_other (by omega)).trans hk)⟩
end Go.Proofs.Ytdkncfmlehcjmaa.X
end

section
/- serial.numbers, by hand: its closures hand out all numbers of at most five digits, the short ones first; what a round that goes on leaves is as it was. -/
set_option linter.unusedVariables false
set_option linter.unusedSimpArgs false
namespace Go.Proofs.Ytdkncfmlehcjmaa.X
open Go Go.RowKit Go.Proofs.YtdkncfmlehcjmaaW.PrintWords Go.Proofs.YtdkncfmlehcjmaaW.PrintLast Go.Proofs.YtdkncfmlehcjmaaW.PrintMore
attribute [local go_sem] Oper.semAt_some
/-- The numbers that begin with p and have so many digits more. -/
def ext (n : Nat) : Nat → List Int → List (List Int)
  | 0, p => [p]
  | left + 1, p => (List.range n).flatMap fun (d : Nat) => ext n left (p ++ [(d : Int)])
def allTo (n s : Nat) : List (List Int) := (List.range s).flatMap fun s => ext n s []
/-- The closure's value: it holds yield, n and itself. -/
def numV (gy gn ge : Nat) : Value := .func (.func 81) #[] #[.pointer (some ⟨gy, 0, none⟩), .pointer (some ⟨gn, 0, none⟩), .pointer (some ⟨ge, 0, none⟩)]
/-- What the closure comes back with: true, and no number of xs has stopped it, and all is as it was; or false: one has. -/
def NumC (b0 : Nat) (No : List Int → Prop) (Jx : List Int → World → Prop) (xs : List (List Int)) (W w' : World) (b : Bool) : Prop :=
  (b = true → (∀ d ∈ xs, No d) ∧ Below W.heap.size W w') ∧ (b = false → (∃ pre d post, xs = pre ++ d :: post ∧ (∀ x ∈ pre, No x) ∧ Jx d w') ∧ KeptFrom b0 W w')
def NumP (b0 : Nat) (No : List Int → Prop) (Jx : List Int → World → Prop) (xs : List (List Int)) (W : World) (e : Ending) (w' : World) : Prop :=
  ∃ b : Bool, e = .returned (.bool b) ∧ NumC b0 No Jx xs W w' b
def YieldsAt (W0 : World) (l n : Nat) (No : List Int → Prop) (Jx : List Int → World → Prop) : Prop :=
  ∀ m v ds W1, Below W0.heap.size W0 W1 → Kd.R (Kd.int .i64) 3 W1 W0.heap.size (fun _ => True) v ds → digs ds n = true → ds.length ≤ 5 →
    YieldAt Fence.wide m Try.prog l #[v] W1 fun e W' => (e = .returned (.bool true) ∧ No ds ∧ Below W1.heap.size W1 W') ∨ (e = .returned (.bool false) ∧ Jx ds W' ∧ KeptFrom W0.heap.size W1 W')
set_option maxHeartbeats 4000000 in
set_option maxRecDepth 100000 in
theorem num_end (W0 : World) (l n gy gn ge : Nat) (No : List Int → Prop) (Jx : List Int → World → Prop) (HY : YieldsAt W0 l n No Jx) (A : Option Addr) (c : Nat) (ds : List Int) (W : World)
    (hb : Below W0.heap.size W0 W) (hy : W.heap[gy]? = some (.cells #[.func (.yield l) #[] #[]] 104 (0, 0))) (hR : Kd.R (Kd.int .i64) 3 W W0.heap.size (fun _ => True) (.slice A ds.length c) ds) (hd : digs ds n = true) (hl : ds.length ≤ 5) :
    Calls Try.prog 81 #[.slice A ds.length c, .int .i64 0, .pointer (some ⟨gy, 0, none⟩), .pointer (some ⟨gn, 0, none⟩), .pointer (some ⟨ge, 0, none⟩)] W (NumP W0.heap.size No Jx [ds] W) := by
  have hcy : W.cell? ⟨gy, 0, none⟩ = some (.func (.yield l) #[] #[]) := (blk_cell hy 0).trans rfl
  refine (callsIn_wide (n := 3)).1 (callsIn_of_wp Try.func81 rfl trivial ?_)
  simp only [Try.ntmps81, List.size_toArray, List.length_cons, List.length_nil, Nat.reduceAdd, Nat.reduceSub, Array.replicate_succ, Array.replicate_zero, List.push_toArray, List.append_toArray, List.nil_append, List.cons_append]
  obtain ⟨fn, tmps, assign, body, hyy, hRR⟩ := HY 2 (.slice A ds.length c) ds W hb hR hd hl
  clear hy hR hd hl HY hb
  gi_wp2
  refine hRR.mono ?_
  rintro e W' (⟨rfl, hno, hb⟩ | ⟨rfl, hjx, hkf⟩)
  · have HN := Aside0.mk hno
    have HB := Aside0.mk hb
    clear hno hb hRR hyy
    gi_wp2
    go_ret
    exact ⟨true, rfl, fun _ => ⟨by intro d hd; rw [List.mem_singleton] at hd; subst hd; exact HN.out, HB.out⟩, fun h => by cases h⟩
  · have HJ := Aside0.mk hjx
    have HK := Aside0.mk hkf
    clear hjx hRR hyy hkf
    gi_wp2
    go_ret
    exact ⟨false, rfl, fun h => (by cases h), fun _ => ⟨⟨[], ds, [], rfl, by simp, HJ.out⟩, HK.out⟩⟩
theorem c_new1 (W : World) (x : Int) : Kd.C (Kd.int .i64) (W.alloc (.cells #[.int .i64 x] 3)) (some ⟨W.heap.size, 0, none⟩) 1 [x] :=
  (Kd.R_reads' (A := some ⟨W.heap.size, 0, none⟩) (n := 1) (c := 1) (xs := [x]) (e := 3) (base := 0) (ok := fun _ => True) (show Kd.R (Kd.int .i64) 3 _ 0 (fun _ => True) (.slice (some ⟨W.heap.size, 0, none⟩) 1 1) [x] from
    ⟨fun _ _ => trivial, [.int .i64 x], ⟨rfl, .inr ⟨W.heap.size, 1, #[.int .i64 x], rfl, Nat.zero_le _, blk_new _ _, Nat.le_refl _, by decide, rfl, rfl⟩⟩, Reps.one (show Kd.M (Kd.int .i64) _ _ _ x [.int .i64 x] from rfl) (Reps.none _ _)⟩)).2.2
theorem digs_snoc {p : List Int} {n : Nat} (h : digs p n = true) (x : Nat) (hx : x < n) : digs (p ++ [(x : Int)]) n = true := by
  unfold digs at h ⊢
  rw [List.all_append, h]
  simp; omega
theorem kce {wr w' : World} {gy gn ge : Nat} (h : wr.heap[ge]? = some (.cells #[numV gy gn ge] 105 (0, 0))) (hb : Below wr.heap.size wr w') : w'.cell? ⟨ge, 0, none⟩ = some (.func (.func 81) #[] #[.pointer (some ⟨gy, 0, none⟩), .pointer (some ⟨gn, 0, none⟩), .pointer (some ⟨ge, 0, none⟩)]) :=
  (blk_cell (blk_below h hb) 0).trans rfl
theorem kce_c {b0 : Nat} {No : List Int → Prop} {Jx : List Int → World → Prop} {xs : List (List Int)} {wr w6 w' : World} {b : Bool} {gy gn ge : Nat} (hg : b0 ≤ ge) (h : wr.heap[ge]? = some (.cells #[numV gy gn ge] 105 (0, 0))) (hb : Below wr.heap.size wr w6) (hc : NumC b0 No Jx xs w6 w' b) : w'.cell? ⟨ge, 0, none⟩ = some (.func (.func 81) #[] #[.pointer (some ⟨gy, 0, none⟩), .pointer (some ⟨gn, 0, none⟩), .pointer (some ⟨ge, 0, none⟩)]) := by
  have h6 := blk_below h hb
  refine (blk_cell (w := w') (show w'.heap[ge]? = some (.cells #[numV gy gn ge] 105 (0, 0)) from ?_) 0).trans rfl
  cases b with
  | true => exact blk_below h6 (hc.1 rfl).2
  | false => exact ((hc.2 rfl).2 ge hg (Array.getElem?_eq_some_iff.1 h6).1).trans h6
theorem no_snoc {No : List Int → Prop} {F : Nat → List (List Int)} {x : Nat} (h : ∀ d ∈ (List.range x).flatMap F, No d) (h2 : ∀ d ∈ F x, No d) : ∀ d ∈ (List.range (x + 1)).flatMap F, No d := by
  intro d hd
  rw [List.range_succ, List.flatMap_append, List.mem_append] at hd
  rcases hd with hd | hd
  · exact h d hd
  · exact h2 d (by simpa using hd)
theorem fall_snoc {b0 n left x : Nat} {No : List Int → Prop} {Jx : List Int → World → Prop} {p nx : List Int} {W w6 w' : World} (hx : x < n) (h : ∀ d ∈ (List.range x).flatMap (fun (d : Nat) => ext n left (p ++ [(d : Int)])), No d) (hnx : nx = p ++ [(x : Int)]) (hb : Below W.heap.size W w6)
    (hc : (∃ pre d post, ext n left nx = pre ++ d :: post ∧ (∀ x ∈ pre, No x) ∧ Jx d w') ∧ KeptFrom b0 w6 w') : (∃ pre d post, ext n (left + 1) p = pre ++ d :: post ∧ (∀ x ∈ pre, No x) ∧ Jx d w') ∧ KeptFrom b0 W w' := by
  obtain ⟨⟨pre, d, post, h1, h2, h3⟩, h4⟩ := hc
  refine ⟨⟨(List.range x).flatMap (fun (d : Nat) => ext n left (p ++ [(d : Int)])) ++ pre, d, post ++ (List.range' (x + 1) (n - x - 1)).flatMap (fun (d : Nat) => ext n left (p ++ [(d : Int)])), ?_, ?_, h3⟩, fun k hk1 hk2 => (h4 k hk1 (Nat.lt_of_lt_of_le hk2 hb.size)).trans (hb.block k hk2)⟩
  · have e : List.range n = List.range x ++ (x :: List.range' (x + 1) (n - x - 1)) := by
      rw [List.range_eq_range', List.range_eq_range', show n = x + (n - x - 1 + 1) by omega, List.range'_append_1.symm, List.range'_succ]
      simp
    show (List.range n).flatMap _ = _
    rw [e, List.flatMap_append, List.flatMap_cons, ← hnx, h1]
    simp
  · intro y hy
    rcases List.mem_append.1 hy with hy | hy
    · exact h y hy
    · exact h2 y hy
set_option maxHeartbeats 8000000 in
set_option maxRecDepth 100000 in
theorem num_step (W0 : World) (l n gy gn ge : Nat) (No : List Int → Prop) (Jx : List Int → World → Prop) (hn : n ≤ 12) (hgb : W0.heap.size ≤ ge) (left : Nat) (p : List Int) (hpl : p.length + left ≤ 4) (hd : digs p n = true)
    (ih : ∀ (A : Option Addr) (c : Nat) (ds : List Int) (W : World), ds.length + left ≤ 5 → digs ds n = true → Below W0.heap.size W0 W → W.heap[gy]? = some (.cells #[.func (.yield l) #[] #[]] 104 (0, 0)) → W.heap[gn]? = some (.cells #[.int .i64 n] 3 (0, 0)) → W.heap[ge]? = some (.cells #[numV gy gn ge] 105 (0, 0)) → Kd.R (Kd.int .i64) 3 W W0.heap.size (fun _ => True) (.slice A ds.length c) ds →
      Calls Try.prog 81 #[.slice A ds.length c, .int .i64 left, .pointer (some ⟨gy, 0, none⟩), .pointer (some ⟨gn, 0, none⟩), .pointer (some ⟨ge, 0, none⟩)] W (NumP W0.heap.size No Jx (ext n left ds) W))
    (A : Option Addr) (c : Nat) (W : World) (hb : Below W0.heap.size W0 W) (hy : W.heap[gy]? = some (.cells #[.func (.yield l) #[] #[]] 104 (0, 0))) (hgn : W.heap[gn]? = some (.cells #[.int .i64 n] 3 (0, 0))) (hge : W.heap[ge]? = some (.cells #[numV gy gn ge] 105 (0, 0))) (hR : Kd.R (Kd.int .i64) 3 W W0.heap.size (fun _ => True) (.slice A p.length c) p) (hA : A = none → p = []) :
    Calls Try.prog 81 #[.slice A p.length c, .int .i64 ((left + 1 : Nat) : Int), .pointer (some ⟨gy, 0, none⟩), .pointer (some ⟨gn, 0, none⟩), .pointer (some ⟨ge, 0, none⟩)] W (NumP W0.heap.size No Jx (ext n (left + 1) p) W) := by
  have HR := Aside0.mk hR
  have HW := Aside0.mk hb
  have HY := Aside0.mk hy
  have HN := Aside0.mk hgn
  have HE := Aside0.mk hge
  have HAA := Aside0.mk hA
  have IH := Aside0.mk ih
  have HPL := Aside0.mk hpl
  have HD := Aside0.mk hd
  have HN12 := Aside0.mk hn
  have hcn : W.cell? ⟨gn, 0, none⟩ = some (.int .i64 n) := (blk_cell hgn 0).trans rfl
  have hb0 : ((((left + 1 : Nat) : Int)) == 0) = false := by simp; omega
  obtain ⟨lf, hlf⟩ : ∃ lf : Int, ((left + 1 : Nat) : Int) = lf := ⟨_, rfl⟩
  have HLF := Aside0.mk hlf
  rw [hlf] at hb0 ⊢
  have hsub : IntKind.i64.wrap (lf - 1) = (left : Int) := by rw [IntKind.wrap_i64]; omega
  have HB := Aside0.mk (Below.refl W.heap.size W)
  have HNo : Aside0 (∀ d ∈ (List.range 0).flatMap (fun (d : Nat) => ext n left (p ++ [(d : Int)])), No d) := ⟨by simp⟩
  clear hR hb hy hgn hge hA ih hpl hd hn hlf
  go_enter Try.func81, Try.ntmps81
  go_wp2
  go_loopg [15] n (fun kq v15 w' => ∃ x : Nat, v15 = .int .i64 x ∧ Aside0 (kq + x = n) ∧ Aside0 (∀ d ∈ (List.range x).flatMap (fun (d : Nat) => ext n left (p ++ [(d : Int)])), No d) ∧ Aside0 (Below W.heap.size W w'))
  case atStart => exact ⟨0, rfl, ⟨by omega⟩, HNo, HB⟩
  case round =>
    clear HB HNo
    obtain ⟨x, rfl, HK, HNo, HB⟩ := hrel
    obtain ⟨k1, rfl⟩ : ∃ k1, k1 = gk := ⟨_, rfl⟩
    by_cases hx : x < n
    · have hxb : (x < n) = True := eq_true hx
      have HX := Aside0.mk hx
      clear hx
      go_upto_region 6 with (fail)
      have HEr := Aside0.mk (blk_below HE.out HB.out)
      have hce : wr.cell? ⟨ge, 0, none⟩ = some (.func (.func 81) #[] #[.pointer (some ⟨gy, 0, none⟩), .pointer (some ⟨gn, 0, none⟩), .pointer (some ⟨ge, 0, none⟩)]) := (blk_cell HEr.out 0).trans rfl
      have hB1 := Aside0.mk (Below.refl wr.heap.size wr)
      have hCl := Aside0.mk (Kd.C_below (Kd.R_reads' HR.out).2.2 HB.out)
      have hL : p.length ≤ 1000000 := by have := HPL.out; omega
      have HL := Aside0.mk hL
      clear hL
      obtain ⟨nx, hnx⟩ : ∃ nx, nx = p ++ [(x : Int)] := ⟨_, rfl⟩
      have HNX := Aside0.mk hnx
      clear hnx
      have HWr := Aside0.mk (HW.out.trans (HB.out.mono HW.out.size))
      go_region_held3 (fun w' => w'.cell? ⟨ge, 0, none⟩ = some (.func (.func 81) #[] #[.pointer (some ⟨gy, 0, none⟩), .pointer (some ⟨gn, 0, none⟩), .pointer (some ⟨ge, 0, none⟩)])) (first | exact hce | exact kce HEr.out (below_alloc hB1.out _) | exact kce HEr.out (below_alloc (below_drew hB1.out) _) | exact kce HEr.out HB6.out | exact kce HEr.out HB5.out | exact kce HEr.out (below_alloc HB5.out _) | exact kce_c hgb HEr.out HB6.out hend)
        (first | (go_at_call 82; (with_reducible refine (cloneN_calls A c p _ ?side1 HAA.out HL.out).mono ?_); (case side1 => exact Kd.C_below hCl.out (by first | exact hB1.out | exact below_drew hB1.out | exact below_alloc hB1.out _ | exact below_alloc (below_drew hB1.out) _)); rintro e w5 ⟨v1, rfl, ho, hb⟩; have HB5 := Aside0.mk (below_step (by first | exact hB1.out | exact below_drew hB1.out | exact below_alloc hB1.out _ | exact below_alloc (below_drew hB1.out) _) hb); have HO5 := Aside0.mk (Kd.R_lower ho (below_size (by first | exact hB1.out | exact below_drew hB1.out | exact below_alloc hB1.out _ | exact below_alloc (below_drew hB1.out) _))); have HBc := Aside0.mk hb; clear ho hb) | (refine Kd.R_append_rows_step (Kd.int .i64) (w0 := wr) wr.heap.size (by rfl) (.tmp 20) (.tmp 22) 94 3 (.int .i64 0) 8 (by rfl) Try.underlying94 info3 (by rfl) (by decide) (by omega) v1 p [(x : Int)] _ 1 1 (fun _ => True) (fun _ => False) (by rfl) (by rfl) ?aO ?aR (fun _ _ h => h) (fun _ h => h.elim) ?aF ?aB ?aS ?aL ?_; (case aO => first | exact HO5.out | exact Kd.R_alloc HO5.out _); (case aR => first | exact c_new1 _ _ | exact Kd.C_below (c_new1 _ _) HBc.out | exact Kd.C_below (Kd.C_drew (c_new1 _ _)) HBc.out); (case aF => exact fun _ _ => trivial); (case aB => first | exact HB5.out | exact below_alloc HB5.out _); (case aS => first | exact below_size HB5.out | exact below_size (below_alloc HB5.out _)); (case aL => have := HL.out; omega); intro v2 w6 ho hb hg hat; have HB6 := Aside0.mk hb; rw [← HNX.out] at ho; have HO6 := Aside0.mk ho; clear ho hb hg hat HBc HO5; obtain ⟨A2, c2, rfl⟩ := Kd.R_slice HO6.out) | (go_at_call 81; (with_reducible refine (IH.out A2 c2 nx _ ?s1 ?s2 ?s3 ?s4 ?s5 ?s6 ?s7).mono ?_); (case s1 => have := HPL.out; rw [HNX.out, List.length_append]; simp; omega); (case s2 => rw [HNX.out]; exact digs_snoc HD.out x HX.out); (case s3 => exact HWr.out.trans (HB6.out.mono HWr.out.size)); (case s4 => exact blk_below (blk_below HY.out HB.out) HB6.out); (case s5 => exact blk_below (blk_below HN.out HB.out) HB6.out); (case s6 => exact blk_below HEr.out HB6.out); (case s7 => exact Kd.R_lower HO6.out HWr.out.size); rintro e w10 ⟨b, rfl, hend⟩))
      all_goals
        have HEND := Aside0.mk hend
        clear hend
        cases b with
        | true =>
          go_wp2
          go_roundg (k1 - 1)
          case measure => have := HK.out; have := HX.out; omega
          case rel => exact ⟨x + 1, (by have h1 := HX.out; have h2 := HN12.out; first | (rw [w64 (by omega) (by omega)]; rfl) | (rw [IntKind.wrap_i64, w64 (by omega) (by omega)]; rfl) | go_num), ⟨by have := HK.out; have := HX.out; omega⟩, ⟨no_snoc HNo.out (by rw [← HNX.out]; exact (HEND.out.1 rfl).1)⟩, ⟨below_step HB.out (below_step HB6.out (HEND.out.1 rfl).2)⟩⟩
        | false =>
          go_wp2
          go_ret
          exact ⟨false, rfl, fun h => (by cases h), fun _ => fall_snoc HX.out HNo.out HNX.out (below_step HB.out HB6.out) (HEND.out.2 rfl)⟩
    · have hxb : (x < n) = False := eq_false hx
      have hxe : x = n := by have := HK.out; omega
      have HXE := Aside0.mk hxe
      clear hx hxe
      go_wp2
      go_ret
      exact ⟨true, rfl, fun _ => ⟨by have h1 := HNo.out; have h2 := HXE.out; subst h2; exact h1, HB.out⟩, fun h => by cases h⟩
theorem num_calls (W0 : World) (l n gy gn ge : Nat) (No : List Int → Prop) (Jx : List Int → World → Prop) (HY : YieldsAt W0 l n No Jx) (hn : n ≤ 12) (hgb : W0.heap.size ≤ ge) (left : Nat) :
    ∀ (A : Option Addr) (c : Nat) (ds : List Int) (W : World), ds.length + left ≤ 5 → digs ds n = true → Below W0.heap.size W0 W → W.heap[gy]? = some (.cells #[.func (.yield l) #[] #[]] 104 (0, 0)) → W.heap[gn]? = some (.cells #[.int .i64 n] 3 (0, 0)) → W.heap[ge]? = some (.cells #[numV gy gn ge] 105 (0, 0)) → Kd.R (Kd.int .i64) 3 W W0.heap.size (fun _ => True) (.slice A ds.length c) ds →
      Calls Try.prog 81 #[.slice A ds.length c, .int .i64 left, .pointer (some ⟨gy, 0, none⟩), .pointer (some ⟨gn, 0, none⟩), .pointer (some ⟨ge, 0, none⟩)] W (NumP W0.heap.size No Jx (ext n left ds) W) := by
  induction left with
  | zero => intro A c ds W hl hd hb hy hgn hge hR; exact num_end W0 l n gy gn ge No Jx HY A c ds W hb hy hR hd (by omega)
  | succ left ih =>
    intro A c ds W hl hd hb hy hgn hge hR
    refine num_step W0 l n gy gn ge No Jx hn hgb left ds (by omega) hd ih A c W hb hy hgn hge hR (fun hA => ?_)
    rcases Nat.eq_zero_or_pos ds.length with h | h
    · exact List.eq_nil_of_length_eq_zero h
    · obtain ⟨g, cap, he, _⟩ := Kd.R_form hR h
      rw [hA] at he; injection he with h1 _ _; cases h1
theorem allTo_succ (n s : Nat) : allTo n (s + 1) = allTo n s ++ ext n s [] := by simp [allTo, List.range_succ]
theorem fall_all {b0 n s : Nat} {No : List Int → Prop} {Jx : List Int → World → Prop} {W w' : World} (h : ∀ d ∈ allTo n s, No d) (hs : s < 6)
    (hc : (∃ pre d post, ext n s [] = pre ++ d :: post ∧ (∀ x ∈ pre, No x) ∧ Jx d w') ∧ KeptFrom b0 W w') : ∃ pre d post, allTo n 6 = pre ++ d :: post ∧ (∀ x ∈ pre, No x) ∧ Jx d w' := by
  obtain ⟨⟨pre, d, post, h1, h2, h3⟩, _⟩ := hc
  refine ⟨allTo n s ++ pre, d, post ++ (List.range' (s + 1) (6 - s - 1)).flatMap (fun s => ext n s []), ?_, ?_, h3⟩
  · have e : List.range 6 = List.range s ++ (s :: List.range' (s + 1) (6 - s - 1)) := by
      rw [List.range_eq_range', List.range_eq_range', show 6 = s + (6 - s - 1 + 1) by omega, List.range'_append_1.symm, List.range'_succ]
      simp
    unfold allTo
    rw [e, List.flatMap_append, List.flatMap_cons, h1]
    simp
  · intro y hy
    rcases List.mem_append.1 hy with hy | hy
    · exact h y hy
    · exact h2 y hy
set_option maxHeartbeats 8000000 in
set_option maxRecDepth 100000 in
theorem num_all (W : World) (l n gn : Nat) (No : List Int → Prop) (Jx : List Int → World → Prop) (HY : YieldsAt W l n No Jx) (hn : n ≤ 12) (hgn : W.heap[gn]? = some (.cells #[.int .i64 n] 3 (0, 0))) :
    Calls Try.prog 80 #[.func (.yield l) #[] #[], .pointer (some ⟨gn, 0, none⟩)] W fun e w' => (∃ v, e = .returned v) ∧ (((∀ d ∈ allTo n 6, No d) ∧ Below W.heap.size W w') ∨ (∃ pre d post, allTo n 6 = pre ++ d :: post ∧ (∀ x ∈ pre, No x) ∧ Jx d w')) := by
  have HYY := Aside0.mk HY
  have HN12 := Aside0.mk hn
  have HN := Aside0.mk hgn
  have HB := Aside0.mk (Below.refl W.heap.size W)
  clear HY hn hgn
  go_enter Try.func80, Try.ntmps80
  go_wp2
  obtain ⟨W3, hW3⟩ : ∃ W3, ((W.alloc (.cells #[.func (.yield l) #[] #[]] 104)).alloc (.cells #[numV W.heap.size gn (W.heap.size + 1)] 105)) = W3 := ⟨_, rfl⟩
  have e0 : W3.heap[W.heap.size]? = some (.cells #[.func (.yield l) #[] #[]] 104 (0, 0)) := by rw [← hW3]; exact blk_alloc (blk_new W _) _
  have e1 : W3.heap[W.heap.size + 1]? = some (.cells #[numV W.heap.size gn (W.heap.size + 1)] 105 (0, 0)) := by rw [← hW3]; have := blk_new (W.alloc (.cells #[.func (.yield l) #[] #[]] 104)) (.cells #[numV W.heap.size gn (W.heap.size + 1)] 105); rwa [World.size_alloc] at this
  have HB3 : Aside0 (Below W.heap.size W W3) := ⟨by rw [← hW3]; exact below_alloc (below_alloc HB.out _) _⟩
  have e2 : W3.heap[gn]? = some (.cells #[.int .i64 n] 3 (0, 0)) := blk_below HN.out HB3.out
  rw [show ((W.alloc (.cells #[.func (.yield l) #[] #[]] 104)).alloc (.cells #[.func (.func 81) #[] #[.pointer (some ⟨W.heap.size, 0, none⟩), .pointer (some ⟨gn, 0, none⟩), .pointer (some ⟨W.heap.size + 1, 0, none⟩)]] 105)) = W3 from hW3]
  have E0 := Aside0.mk e0
  have E1 := Aside0.mk e1
  have E2 := Aside0.mk e2
  have HBr := Aside0.mk (Below.refl W3.heap.size W3)
  have HNo : Aside0 (∀ d ∈ allTo n 0, No d) := ⟨by simp [allTo]⟩
  clear e0 e1 e2 hW3 HB
  go_loopg [6] 6 (fun kq v6 w' => ∃ x : Nat, v6 = .int .i64 x ∧ Aside0 (kq + x = 6) ∧ Aside0 (∀ d ∈ allTo n x, No d) ∧ Aside0 (Below W3.heap.size W3 w'))
  case atStart => exact ⟨0, rfl, ⟨rfl⟩, HNo, HBr⟩
  case round =>
    clear HBr HNo
    obtain ⟨x, rfl, HK, HNo, HB⟩ := hrel
    obtain ⟨k1, rfl⟩ : ∃ k1, k1 = gk := ⟨_, rfl⟩
    by_cases hx : x < 6
    · have hxb : ((x : Int) < 6) = True := eq_true (by omega)
      have HX := Aside0.mk hx
      clear hx
      have hce : wr.cell? ⟨W.heap.size + 1, 0, none⟩ = some (.func (.func 81) #[] #[.pointer (some ⟨W.heap.size, 0, none⟩), .pointer (some ⟨gn, 0, none⟩), .pointer (some ⟨W.heap.size + 1, 0, none⟩)]) := kce E1.out HB.out
      have IH : Aside0 (Calls Try.prog 81 #[.slice none 0 0, .int .i64 x, .pointer (some ⟨W.heap.size, 0, none⟩), .pointer (some ⟨gn, 0, none⟩), .pointer (some ⟨W.heap.size + 1, 0, none⟩)] wr (NumP W.heap.size No Jx (ext n x []) wr)) := Aside0.mk (num_calls W l n W.heap.size gn (W.heap.size + 1) No Jx HYY.out HN12.out (Nat.le_succ _) x none 0 [] wr (by have := HX.out; simp; omega) rfl (HB3.out.trans (HB.out.mono HB3.out.size)) (blk_below E0.out HB.out) (blk_below E2.out HB.out) (blk_below E1.out HB.out) (Kd.R_nil _ _ _ _ _))
      go_wp2_with (go_at_call 81; (with_reducible refine IH.out.mono ?_); rintro e w10 ⟨b, rfl, hend⟩; have HEND := Aside0.mk hend; clear hend)
      · have hbb : b = false := by have h : (!b) = true := by assumption
                                   simpa using h
        subst hbb
        refine bodyPost_ret (results_none rfl _ _ _) rfl ?_
        exact ⟨⟨_, rfl⟩, .inr (fall_all HNo.out HX.out (HEND.out.2 rfl))⟩
      · have hbb : b = true := by have h : (!b) = false := by assumption
                                  simpa using h
        subst hbb
        go_roundg (k1 - 1)
        case measure => have := HK.out; have := HX.out; omega
        case rel => exact ⟨x + 1, (by have h1 := HX.out; first | (rw [w64 (by omega) (by omega)]; rfl) | (rw [IntKind.wrap_i64, w64 (by omega) (by omega)]; rfl) | go_num), ⟨by have := HK.out; have := HX.out; omega⟩, ⟨by rw [allTo_succ]; intro d hd; rcases List.mem_append.1 hd with hd | hd; exact HNo.out d hd; exact (HEND.out.1 rfl).1 d hd⟩, ⟨below_step HB.out (HEND.out.1 rfl).2⟩⟩
    · have hxb : ((x : Int) < 6) = False := eq_false (by omega)
      have hxe : x = 6 := by have := HK.out; omega
      subst hxe
      clear hx
      go_wp2
      go_end0
      exact ⟨⟨_, rfl⟩, .inl ⟨HNo.out, HB3.out.trans (HB.out.mono HB3.out.size)⟩⟩
/-- What the iterator hands out: a number in memory of its own. -/
def NumG (n : Nat) (b : Nat) (x : Value × List Int) (W : World) : Prop := Kd.R (Kd.int .i64) 3 W b (fun _ => True) x.1 x.2 ∧ digs x.2 n = true ∧ x.2.length ≤ 5
theorem numbers_seq (m n gn : Nat) (w : World) (hn : n ≤ 12) (hgn : w.heap[gn]? = some (.cells #[.int .i64 n] 3 (0, 0))) :
    SeqR (α := Value × List Int) Fence.wide m Try.prog 80 #[.pointer (some ⟨gn, 0, none⟩)] (fun x => #[x.1]) (NumG n) (fun No => ∀ d ∈ allTo n 6, ∃ v, No (v, d)) (fun No x => ∃ pre post, allTo n 6 = pre ++ x.2 :: post ∧ ∀ y ∈ pre, ∃ v, No (v, y)) w := by
  intro l No Jx W hW hl hY
  have hYY : YieldsAt W l n (fun d => ∃ v, No (v, d)) (fun d w' => ∃ v, Jx (v, d) w') := by
    intro m' v ds W1 hb hR hd hlen
    obtain ⟨fn, tmps, assign, body, hy, hRR⟩ := hY (v, ds) W1 hb ⟨hR, hd, hlen⟩
    refine ⟨fn, tmps, assign, body, hy, ?_⟩
    have h2 : RoundIn Fence.wide m' Try.prog l fn tmps assign body W1 _ := ⟨hRR.1, fun c cs _ => hRR.2 c cs (room_wide _)⟩
    refine h2.mono ?_
    rintro e W' (⟨h1, h2, h3⟩ | ⟨h1, h2, h3⟩)
    · exact .inl ⟨h1, ⟨v, h2⟩, h3⟩
    · exact .inr ⟨h1, ⟨v, h2⟩, h3⟩
  refine (callsIn_wide (n := m)).2 ((num_all W l n gn _ _ hYY hn (blk_below hgn hW)).mono ?_)
  rintro e w' ⟨h1, h2 | ⟨pre, d, post, h3, h4, v, h5⟩⟩
  · exact ⟨h1, .inl h2⟩
  · exact ⟨h1, .inr ⟨(v, d), ⟨pre, post, h3, h4⟩, h5⟩⟩
set_option maxRecDepth 100000 in
theorem numbers_calls (n : Nat) (w : World) : Calls Try.prog 67 #[.int .i64 n] w fun e w' => e = .returned (.func (.func 80) #[] #[.pointer (some ⟨w.heap.size, 0, none⟩)]) ∧ w' = w.alloc (.cells #[.int .i64 n] 3) := by
  go_enter Try.func67, Try.ntmps67
  go_wp2
  go_ret
  exact ⟨rfl, rfl⟩
end Go.Proofs.Ytdkncfmlehcjmaa.X
end
