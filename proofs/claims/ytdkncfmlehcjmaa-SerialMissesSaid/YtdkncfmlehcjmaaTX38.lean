-- Written by a program of this session (wip/tools/xprint.py) over the kit's print, for this claim.
import Derived.Test.YtdkncfmlehcjmaaTX0
import Derived.Test.YtdkncfmlehcjmaaTX37
namespace Go.Proofs.Ytdkncfmlehcjmaa.X
open Go.RowKit Go.Proofs.YtdkncfmlehcjmaaW.PrintWords Go.Proofs.YtdkncfmlehcjmaaW.PrintLast Go.Proofs.YtdkncfmlehcjmaaW.PrintMore
attribute [local go_sem] max2_int min2_int max_two min_two max_three min_three max_four min_four   -- for this text's walks alone
set_option linter.unusedVariables false
set_option linter.unusedSimpArgs false

/-! ### tickingref11_Digit: function 38 -/
def tickingref11_Digit.l0 : Nat → List (List Int) → Int → Int → Option (Int)
  | 0, _, _, _ => none
  | k + 1, x0, x5, x6 => if 0 ≤ x5 then (if x5 < (x0.length : Int) then (if 0 ≤ x6 then (if x6 < ((rd_L1 x0 x5).length : Int) then (if (rd (rd_L1 x0 x5) x6) = 0 then (some x6) else (tickingref11_Digit.l0 k x0 x5 (wrap64 (x6 + 1)))) else (none)) else (none)) else (none)) else (none)
def tickingref11_Digit.f (k : Nat) (l0 : List (List Int)) (l1 : List Int) : Option (Int) := (tickingref11_Trace.f k l0 l1).bind fun t462 => (tickingref11_Digit.l0 k l0 t462 0)
theorem tickingref11_Digit.mono_l : ∀ k, (∀ y0 y1 y2, LeO (tickingref11_Digit.l0 k y0 y1 y2) (tickingref11_Digit.l0 (k + 1) y0 y1 y2))
  | 0 => fun _ _ _ r h => by simp [tickingref11_Digit.l0] at h
  | k + 1 => by
    have ih0 := tickingref11_Digit.mono_l k
    · intro y0 y1 y2
      unfold tickingref11_Digit.l0
      repeat' first
      | (with_reducible exact ih0 _ _ _)
      | (with_reducible exact tickingref11_Trace.mono _ _ _)
      | (with_reducible exact LeO.refl _)
      | (with_reducible exact LeO.none _)
      | (with_reducible refine LeO.ite ?_ ?_)
      | (with_reducible refine LeO.bind ?_ (fun _ => ?_))
      | exact ih0 _ _ _
      | exact tickingref11_Trace.mono _ _ _
      | exact LeO.none _
      | refine LeO.ite ?_ ?_
      | refine LeO.bind ?_ (fun _ => ?_)
theorem tickingref11_Digit.mono : ∀ a0 a1 k, LeO (tickingref11_Digit.f k a0 a1) (tickingref11_Digit.f (k + 1) a0 a1) := by
  intro a0 a1 k
  have ih0 := tickingref11_Digit.mono_l k
  unfold tickingref11_Digit.f
  repeat' first
      | (with_reducible exact ih0 _ _ _)
      | (with_reducible exact tickingref11_Trace.mono _ _ _)
      | (with_reducible exact LeO.refl _)
      | (with_reducible exact LeO.none _)
      | (with_reducible refine LeO.ite ?_ ?_)
      | (with_reducible refine LeO.bind ?_ (fun _ => ?_))
      | exact ih0 _ _ _
      | exact tickingref11_Trace.mono _ _ _
      | exact LeO.none _
      | refine LeO.ite ?_ ?_
      | refine LeO.bind ?_ (fun _ => ?_)
set_option maxHeartbeats 8000000 in
set_option maxRecDepth 100000 in
theorem tickingref11_Digit.calls (k : Nat) (A0 : Option Addr) (c0 : Nat) (l0 : List (List Int)) (A1 : Option Addr) (c1 : Nat) (l1 : List Int) (r : Int) (w : World) (hr0 : Kd.C (Kd.slice 3 (Kd.int .i64)) w A0 l0.length l0) (hc0 : l0.length ≤ c0) (hr1 : Kd.C (Kd.int .i64) w A1 l1.length l1) (hc1 : l1.length ≤ c1) (h : tickingref11_Digit.f k l0 l1 = some r) :
    Calls Try.prog 38 #[.slice A0 l0.length c0, .slice A1 l1.length c1] w fun e w' => e = .returned (.int .i64 r) ∧ Drawn0 w w' := by
  have HR0 := Aside0.mk hr0
  have HC0 := Aside0.mk hc0
  clear hr0 hc0
  have HR1 := Aside0.mk hr1
  have HC1 := Aside0.mk hc1
  clear hr1 hc1
  have H : ((tickingref11_Trace.f k l0 l1).bind fun t462 => (tickingref11_Digit.l0 k l0 t462 0)) = some r := h
  clear h
  replace H := Option.bind_eq_some_iff.mp H
  obtain ⟨t462, A30, H⟩ := H
  replace H : (tickingref11_Digit.l0 k l0 t462 0) = some r := H
  have A3 := Aside0.mk A30
  clear A30
  have H' := Aside0.mk H
  clear H
  go_enter Try.func38, Try.ntmps38
  go_wp2_with (first | ((with_reducible refine gate_callee (f := 37) rfl ?_); refine goesL_ (some 9) rfl rfl Try.func37 (by kernel_rfl) rfl #[.slice A0 l0.length c0, .slice A1 l1.length c1] rfl (by (try simp only [List.map_toArray, List.map_cons, List.map_nil]); first | done | rfl | (simp only [List.length_drop, List.length_take]; rfl)) ?_; (with_reducible refine (tickingref11_Trace.calls k _ _ l0 _ _ l1 t462 _ ?side1 ?side2 ?side3 ?side4 A3.out).mono ?_); (case side1 => repeat (first | exact HR0.out | (with_reducible refine Kd.C_alloc ?_ _) | (with_reducible refine Kd.C_drewN ?_ _) | (with_reducible refine Kd.C_drew ?_))); (case side2 => exact HC0.out); (case side3 => repeat (first | exact HR1.out | (with_reducible refine Kd.C_alloc ?_ _) | (with_reducible refine Kd.C_drewN ?_ _) | (with_reducible refine Kd.C_drew ?_))); (case side4 => exact HC1.out); rintro e w' ⟨rfl, ⟨nd, rfl⟩⟩; refine ⟨_, rfl, ?_⟩))
  go_loopg [6] k (fun kq v6 w' => ∃ (x6_1 : Int), v6 = .int .i64 x6_1 ∧ Aside0 (tickingref11_Digit.l0 kq l0 t462 x6_1 = some r) ∧ Aside0 (kq ≤ k) ∧ Drawn0 w w')
  case atStart => exact ⟨(0), (by first | rfl | (simp; done) | (simp [*]; done)), H', ⟨Nat.le_refl _⟩, by repeat (first | exact Drawn0.refl _ | apply Drawn0.step)⟩
  case round =>
    clear H'
    try clear c1
    try clear p2
    try clear c3
    obtain ⟨x6_1, rfl, HA, HK1, ⟨m1, rfl⟩⟩ := hrel
    cases gk with
    | zero => exact absurd HA.out (by simp [tickingref11_Digit.l0])
    | succ k1 =>
      have H := HA.out
      clear HA
      simp only [tickingref11_Digit.l0] at H
      by_cases c4 : 0 ≤ t462
      · rw [if_pos c4] at H
        have c4b0 : decide (0 ≤ t462) = true := decide_eq_true c4
        clear c4
        by_cases c5 : t462 < (l0.length : Int)
        · rw [if_pos c5] at H
          have c5b0 : decide (t462 < (l0.length : Int)) = true := decide_eq_true c5
          clear c5
          by_cases c6 : 0 ≤ x6_1
          · rw [if_pos c6] at H
            have c6b0 : decide (0 ≤ x6_1) = true := decide_eq_true c6
            clear c6
            by_cases c7 : x6_1 < ((rd_L1 l0 t462).length : Int)
            · rw [if_pos c7] at H
              have c7b0 : decide (x6_1 < ((rd_L1 l0 t462).length : Int)) = true := decide_eq_true c7
              clear c7
              by_cases c8 : (rd (rd_L1 l0 t462) x6_1) = 0
              · rw [if_pos c8] at H
                have c8b0 : ((rd (rd_L1 l0 t462) x6_1) == 0) = true := beq_iff_eq.mpr c8
                have c8b1 : ((rd (rd_L1 l0 t462) x6_1) != 0) = false := bne_eq_false_iff_eq.mpr c8
                clear c8
                obtain rfl := Option.some.inj H
                have p463 : 0 ≤ (t462 : Int) := of_decide_eq_true (by first | (with_reducible assumption) | assumption)
                have q463 : t462 < (l0.length : Int) := of_decide_eq_true (by first | (with_reducible assumption) | assumption)
                obtain ⟨ad463, A463_0, c463_0, e463, hx463_0, hl463_0, hi463_0⟩ := at_L1 HR0.out t462 p463 q463
                cases e463
                have HR463_0 := Aside0.mk hi463_0
                have HC463_0 := Aside0.mk hl463_0
                clear hi463_0 hl463_0
                replace p463 := eq_true p463
                replace q463 := eq_true q463
                have p464 : 0 ≤ (x6_1 : Int) := of_decide_eq_true (by first | (with_reducible assumption) | assumption)
                have q464 : x6_1 < ((rd_L1 l0 t462).length : Int) := of_decide_eq_true (by first | (with_reducible assumption) | assumption)
                obtain ⟨ad464, e464, hx464_0⟩ := Kd.at_int HR463_0.out x6_1 p464 q464
                cases e464
                replace p464 := eq_true p464
                replace q464 := eq_true q464
                go_wp2
                go_ret
                exact ⟨by first | rfl | (simp; done) | (simp [*]; done), by repeat (first | exact Drawn0.refl _ | apply Drawn0.step)⟩
              · rw [if_neg c8] at H
                have c8b0 : ((rd (rd_L1 l0 t462) x6_1) == 0) = false := beq_eq_false_iff_ne.mpr c8
                have c8b1 : ((rd (rd_L1 l0 t462) x6_1) != 0) = true := bne_iff_ne.mpr c8
                have H' := Aside0.mk H
                clear H
                have p463 : 0 ≤ (t462 : Int) := of_decide_eq_true (by first | (with_reducible assumption) | assumption)
                have q463 : t462 < (l0.length : Int) := of_decide_eq_true (by first | (with_reducible assumption) | assumption)
                obtain ⟨ad463, A463_0, c463_0, e463, hx463_0, hl463_0, hi463_0⟩ := at_L1 HR0.out t462 p463 q463
                cases e463
                have HR463_0 := Aside0.mk hi463_0
                have HC463_0 := Aside0.mk hl463_0
                clear hi463_0 hl463_0
                replace p463 := eq_true p463
                replace q463 := eq_true q463
                have p464 : 0 ≤ (x6_1 : Int) := of_decide_eq_true (by first | (with_reducible assumption) | assumption)
                have q464 : x6_1 < ((rd_L1 l0 t462).length : Int) := of_decide_eq_true (by first | (with_reducible assumption) | assumption)
                obtain ⟨ad464, e464, hx464_0⟩ := Kd.at_int HR463_0.out x6_1 p464 q464
                cases e464
                replace p464 := eq_true p464
                replace q464 := eq_true q464
                go_wp2
                go_roundg k1
                case measure => have := HK1.out; omega
                case rel => exact ⟨(wrap64 (x6_1 + 1)), (by first | rfl | (simp; done) | (simp [*]; done)), H', ⟨by have := HK1.out; omega⟩, by repeat (first | exact Drawn0.refl _ | apply Drawn0.step)⟩
            · rw [if_neg c7] at H
              exact absurd H (by simp)
          · rw [if_neg c6] at H
            exact absurd H (by simp)
        · rw [if_neg c5] at H
          exact absurd H (by simp)
      · rw [if_neg c4] at H
        exact absurd H (by simp)

end Go.Proofs.Ytdkncfmlehcjmaa.X
