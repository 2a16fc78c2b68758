-- Written by a program of this session (wip/tools/xprint.py) over the kit's print, for this claim.
import Derived.Test.YtdkncfmlehcjmaaTX0
namespace Go.Proofs.Ytdkncfmlehcjmaa.X
open Go.RowKit Go.Proofs.YtdkncfmlehcjmaaW.PrintWords Go.Proofs.YtdkncfmlehcjmaaW.PrintLast Go.Proofs.YtdkncfmlehcjmaaW.PrintMore
attribute [local go_sem] max2_int min2_int max_two min_two max_three min_three max_four min_four   -- for this text's walks alone
set_option linter.unusedVariables false
set_option linter.unusedSimpArgs false

/-! ### tickingref11_Neutral: function 46 -/
mutual
def tickingref11_Neutral.l0 : Nat → List (List Int) → Int → Option (Int × Bool)
  | 0, _, _ => none
  | k + 1, x0, x4 => if x4 < (x0.length : Int) then (tickingref11_Neutral.l1 k x0 x4 true 0) else (some (0, false))
def tickingref11_Neutral.l1 : Nat → List (List Int) → Int → Bool → Int → Option (Int × Bool)
  | 0, _, _, _, _ => none
  | k + 1, x0, x4, x5, x6 => if x6 < (x0.length : Int) then (if x5 = true then (if 0 ≤ x4 then (if x4 < (x0.length : Int) then (if 0 ≤ x6 then (if x6 < ((rd_L1 x0 x4).length : Int) then (if (rd (rd_L1 x0 x4) x6) = x6 then (if x4 < ((rd_L1 x0 x6).length : Int) then (tickingref11_Neutral.l1 k x0 x4 ((rd (rd_L1 x0 x6) x4) == x6) (wrap64 (x6 + 1))) else (none)) else (tickingref11_Neutral.l1 k x0 x4 false (wrap64 (x6 + 1)))) else (none)) else (none)) else (none)) else (none)) else (tickingref11_Neutral.l1 k x0 x4 false (wrap64 (x6 + 1)))) else (if x5 = true then (some (x4, true)) else (tickingref11_Neutral.l0 k x0 (wrap64 (x4 + 1))))
end
def tickingref11_Neutral.f (k : Nat) (l0 : List (List Int)) : Option (Int × Bool) := tickingref11_Neutral.l0 k l0 0
theorem tickingref11_Neutral.mono_l : ∀ k, (∀ y0 y1, LeO (tickingref11_Neutral.l0 k y0 y1) (tickingref11_Neutral.l0 (k + 1) y0 y1)) ∧ (∀ y0 y1 y2 y3, LeO (tickingref11_Neutral.l1 k y0 y1 y2 y3) (tickingref11_Neutral.l1 (k + 1) y0 y1 y2 y3))
  | 0 => ⟨fun _ _ r h => by simp [tickingref11_Neutral.l0] at h, fun _ _ _ _ r h => by simp [tickingref11_Neutral.l1] at h⟩
  | k + 1 => by
    obtain ⟨ih0, ih1⟩ := tickingref11_Neutral.mono_l k
    refine ⟨?_, ?_⟩
    · intro y0 y1
      unfold tickingref11_Neutral.l0
      repeat' first
      | (with_reducible exact ih0 _ _)
      | (with_reducible exact ih1 _ _ _ _)
      | (with_reducible exact LeO.refl _)
      | (with_reducible exact LeO.none _)
      | (with_reducible refine LeO.ite ?_ ?_)
      | (with_reducible refine LeO.bind ?_ (fun _ => ?_))
      | exact ih0 _ _
      | exact ih1 _ _ _ _
      | exact LeO.none _
      | refine LeO.ite ?_ ?_
      | refine LeO.bind ?_ (fun _ => ?_)
    · intro y0 y1 y2 y3
      unfold tickingref11_Neutral.l1
      repeat' first
      | (with_reducible exact ih0 _ _)
      | (with_reducible exact ih1 _ _ _ _)
      | (with_reducible exact LeO.refl _)
      | (with_reducible exact LeO.none _)
      | (with_reducible refine LeO.ite ?_ ?_)
      | (with_reducible refine LeO.bind ?_ (fun _ => ?_))
      | exact ih0 _ _
      | exact ih1 _ _ _ _
      | exact LeO.none _
      | refine LeO.ite ?_ ?_
      | refine LeO.bind ?_ (fun _ => ?_)
theorem tickingref11_Neutral.mono : ∀ a0 k, LeO (tickingref11_Neutral.f k a0) (tickingref11_Neutral.f (k + 1) a0) := by
  intro a0 k
  obtain ⟨ih0, ih1⟩ := tickingref11_Neutral.mono_l k
  unfold tickingref11_Neutral.f
  repeat' first
      | (with_reducible exact ih0 _ _)
      | (with_reducible exact ih1 _ _ _ _)
      | (with_reducible exact LeO.refl _)
      | (with_reducible exact LeO.none _)
      | (with_reducible refine LeO.ite ?_ ?_)
      | (with_reducible refine LeO.bind ?_ (fun _ => ?_))
      | exact ih0 _ _
      | exact ih1 _ _ _ _
      | exact LeO.none _
      | refine LeO.ite ?_ ?_
      | refine LeO.bind ?_ (fun _ => ?_)
set_option maxHeartbeats 8000000 in
set_option maxRecDepth 100000 in
theorem tickingref11_Neutral.calls (k : Nat) (A0 : Option Addr) (c0 : Nat) (l0 : List (List Int)) (r1 : Int) (r2 : Bool) (w : World) (hr0 : Kd.C (Kd.slice 3 (Kd.int .i64)) w A0 l0.length l0) (hc0 : l0.length ≤ c0) (h : tickingref11_Neutral.f k l0 = some (r1, r2)) :
    Calls Try.prog 46 #[.slice A0 l0.length c0] w fun e w' => e = .returned (.tuple #[.int .i64 r1, .bool r2]) ∧ Drawn0 w w' := by
  have HR0 := Aside0.mk hr0
  have HC0 := Aside0.mk hc0
  clear hr0 hc0
  have H : (tickingref11_Neutral.l0 k l0 0) = some (r1, r2) := h
  clear h
  have H' := Aside0.mk H
  clear H
  go_enter Try.func46, Try.ntmps46
  go_wp2
  go_loopg [4] k (fun kq v4 w' => ∃ (x4_1 : Int), v4 = .int .i64 x4_1 ∧ Aside0 (tickingref11_Neutral.l0 kq l0 x4_1 = some (r1, r2)) ∧ Aside0 (kq ≤ k) ∧ Drawn0 w w')
  case atStart => exact ⟨(0), (by first | rfl | (simp; done) | (simp [*]; done)), H', ⟨Nat.le_refl _⟩, by repeat (first | exact Drawn0.refl _ | apply Drawn0.step)⟩
  case round =>
    clear H'
    obtain ⟨x4_1, rfl, HA, HK1, ⟨m1, rfl⟩⟩ := hrel
    cases gk with
    | zero => exact absurd HA.out (by simp [tickingref11_Neutral.l0])
    | succ k1 =>
      have H := HA.out
      clear HA
      simp only [tickingref11_Neutral.l0] at H
      by_cases c2 : x4_1 < (l0.length : Int)
      · rw [if_pos c2] at H
        have c2b0 : decide (x4_1 < (l0.length : Int)) = true := decide_eq_true c2
        clear c2
        have H' := Aside0.mk H
        clear H
        go_wp2
        go_loopg [5, 6] k1 (fun kq v5 v6 w' => ∃ (x5_2 : Bool) (x6_2 : Int), v5 = .bool x5_2 ∧ v6 = .int .i64 x6_2 ∧ Aside0 (tickingref11_Neutral.l1 kq l0 x4_1 x5_2 x6_2 = some (r1, r2)) ∧ Aside0 (kq ≤ k1) ∧ Drawn0 w w')
        case atStart => exact ⟨(true), (0), (by first | rfl | (simp; done) | (simp [*]; done)), (by first | rfl | (simp; done) | (simp [*]; done)), H', ⟨Nat.le_refl _⟩, by repeat (first | exact Drawn0.refl _ | apply Drawn0.step)⟩
        case round =>
          clear H'
          try clear c2
          try clear c2b0
          try clear p2
          obtain ⟨x5_2, x6_2, rfl, rfl, HA, HK2, ⟨m2, rfl⟩⟩ := hrel
          cases gk with
          | zero => exact absurd HA.out (by simp [tickingref11_Neutral.l1])
          | succ k2 =>
            have H := HA.out
            clear HA
            simp only [tickingref11_Neutral.l1] at H
            by_cases c3 : x6_2 < (l0.length : Int)
            · rw [if_pos c3] at H
              have c3b0 : decide (x6_2 < (l0.length : Int)) = true := decide_eq_true c3
              clear c3
              by_cases c4 : x5_2 = true
              · subst c4
                have H1 : (if 0 ≤ x4_1 then (if x4_1 < (l0.length : Int) then (if 0 ≤ x6_2 then (if x6_2 < ((rd_L1 l0 x4_1).length : Int) then (if (rd (rd_L1 l0 x4_1) x6_2) = x6_2 then (if x4_1 < ((rd_L1 l0 x6_2).length : Int) then (tickingref11_Neutral.l1 k2 l0 x4_1 ((rd (rd_L1 l0 x6_2) x4_1) == x6_2) (wrap64 (x6_2 + 1))) else (none)) else (tickingref11_Neutral.l1 k2 l0 x4_1 false (wrap64 (x6_2 + 1)))) else (none)) else (none)) else (none)) else (none)) = some (r1, r2) := by rw [if_pos rfl] at H; exact H
                clear H
                have H := H1
                clear H1
                by_cases c5 : 0 ≤ x4_1
                · rw [if_pos c5] at H
                  have c5b0 : decide (0 ≤ x4_1) = true := decide_eq_true c5
                  clear c5
                  by_cases c6 : x4_1 < (l0.length : Int)
                  · rw [if_pos c6] at H
                    have c6b0 : decide (x4_1 < (l0.length : Int)) = true := decide_eq_true c6
                    clear c6
                    by_cases c7 : 0 ≤ x6_2
                    · rw [if_pos c7] at H
                      have c7b0 : decide (0 ≤ x6_2) = true := decide_eq_true c7
                      clear c7
                      by_cases c8 : x6_2 < ((rd_L1 l0 x4_1).length : Int)
                      · rw [if_pos c8] at H
                        have c8b0 : decide (x6_2 < ((rd_L1 l0 x4_1).length : Int)) = true := decide_eq_true c8
                        clear c8
                        by_cases c9 : (rd (rd_L1 l0 x4_1) x6_2) = x6_2
                        · rw [if_pos c9] at H
                          have c9b0 : ((rd (rd_L1 l0 x4_1) x6_2) == x6_2) = true := beq_iff_eq.mpr c9
                          have c9b1 : ((rd (rd_L1 l0 x4_1) x6_2) != x6_2) = false := bne_eq_false_iff_eq.mpr c9
                          clear c9
                          by_cases c10 : x4_1 < ((rd_L1 l0 x6_2).length : Int)
                          · rw [if_pos c10] at H
                            have c10b0 : decide (x4_1 < ((rd_L1 l0 x6_2).length : Int)) = true := decide_eq_true c10
                            clear c10
                            have H' := Aside0.mk H
                            clear H
                            have p555 : 0 ≤ (x4_1 : Int) := of_decide_eq_true (by first | (with_reducible assumption) | assumption)
                            have q555 : x4_1 < (l0.length : Int) := of_decide_eq_true (by first | (with_reducible assumption) | assumption)
                            obtain ⟨ad555, A555_0, c555_0, e555, hx555_0, hl555_0, hi555_0⟩ := at_L1 HR0.out x4_1 p555 q555
                            cases e555
                            have HR555_0 := Aside0.mk hi555_0
                            have HC555_0 := Aside0.mk hl555_0
                            clear hi555_0 hl555_0
                            replace p555 := eq_true p555
                            replace q555 := eq_true q555
                            have p556 : 0 ≤ (x6_2 : Int) := of_decide_eq_true (by first | (with_reducible assumption) | assumption)
                            have q556 : x6_2 < ((rd_L1 l0 x4_1).length : Int) := of_decide_eq_true (by first | (with_reducible assumption) | assumption)
                            obtain ⟨ad556, e556, hx556_0⟩ := Kd.at_int HR555_0.out x6_2 p556 q556
                            cases e556
                            replace p556 := eq_true p556
                            replace q556 := eq_true q556
                            have p557 : 0 ≤ (x6_2 : Int) := of_decide_eq_true (by first | (with_reducible assumption) | assumption)
                            have q557 : x6_2 < (l0.length : Int) := of_decide_eq_true (by first | (with_reducible assumption) | assumption)
                            obtain ⟨ad557, A557_0, c557_0, e557, hx557_0, hl557_0, hi557_0⟩ := at_L1 HR0.out x6_2 p557 q557
                            obtain rfl : ad555 = ad557 := (by injection e557)
                            have HR557_0 := Aside0.mk hi557_0
                            have HC557_0 := Aside0.mk hl557_0
                            clear hi557_0 hl557_0
                            replace p557 := eq_true p557
                            replace q557 := eq_true q557
                            have p558 : 0 ≤ (x4_1 : Int) := of_decide_eq_true (by first | (with_reducible assumption) | assumption)
                            have q558 : x4_1 < ((rd_L1 l0 x6_2).length : Int) := of_decide_eq_true (by first | (with_reducible assumption) | assumption)
                            obtain ⟨ad558, e558, hx558_0⟩ := Kd.at_int HR557_0.out x4_1 p558 q558
                            cases e558
                            replace p558 := eq_true p558
                            replace q558 := eq_true q558
                            go_wp2
                            go_roundg k2
                            case measure => have := HK1.out; have := HK2.out; omega
                            case rel => exact ⟨(((rd (rd_L1 l0 x6_2) x4_1) == x6_2)), (wrap64 (x6_2 + 1)), (by first | rfl | (simp; done) | (simp [*]; done)), (by first | rfl | (simp; done) | (simp [*]; done)), H', ⟨by have := HK1.out; have := HK2.out; omega⟩, by repeat (first | exact Drawn0.refl _ | apply Drawn0.step)⟩
                          · rw [if_neg c10] at H
                            exact absurd H (by simp)
                        · rw [if_neg c9] at H
                          have c9b0 : ((rd (rd_L1 l0 x4_1) x6_2) == x6_2) = false := beq_eq_false_iff_ne.mpr c9
                          have c9b1 : ((rd (rd_L1 l0 x4_1) x6_2) != x6_2) = true := bne_iff_ne.mpr c9
                          have H' := Aside0.mk H
                          clear H
                          have p555 : 0 ≤ (x4_1 : Int) := of_decide_eq_true (by first | (with_reducible assumption) | assumption)
                          have q555 : x4_1 < (l0.length : Int) := of_decide_eq_true (by first | (with_reducible assumption) | assumption)
                          obtain ⟨ad555, A555_0, c555_0, e555, hx555_0, hl555_0, hi555_0⟩ := at_L1 HR0.out x4_1 p555 q555
                          cases e555
                          have HR555_0 := Aside0.mk hi555_0
                          have HC555_0 := Aside0.mk hl555_0
                          clear hi555_0 hl555_0
                          replace p555 := eq_true p555
                          replace q555 := eq_true q555
                          have p556 : 0 ≤ (x6_2 : Int) := of_decide_eq_true (by first | (with_reducible assumption) | assumption)
                          have q556 : x6_2 < ((rd_L1 l0 x4_1).length : Int) := of_decide_eq_true (by first | (with_reducible assumption) | assumption)
                          obtain ⟨ad556, e556, hx556_0⟩ := Kd.at_int HR555_0.out x6_2 p556 q556
                          cases e556
                          replace p556 := eq_true p556
                          replace q556 := eq_true q556
                          go_wp2
                          go_roundg k2
                          case measure => have := HK1.out; have := HK2.out; omega
                          case rel => exact ⟨(false), (wrap64 (x6_2 + 1)), (by first | rfl | (simp; done) | (simp [*]; done)), (by first | rfl | (simp; done) | (simp [*]; done)), H', ⟨by have := HK1.out; have := HK2.out; omega⟩, by repeat (first | exact Drawn0.refl _ | apply Drawn0.step)⟩
                      · rw [if_neg c8] at H
                        exact absurd H (by simp)
                    · rw [if_neg c7] at H
                      exact absurd H (by simp)
                  · rw [if_neg c6] at H
                    exact absurd H (by simp)
                · rw [if_neg c5] at H
                  exact absurd H (by simp)
              · replace c4 := Bool.eq_false_iff.mpr c4
                subst c4
                have H1 : (tickingref11_Neutral.l1 k2 l0 x4_1 false (wrap64 (x6_2 + 1))) = some (r1, r2) := by rw [if_neg (show ¬ (false = true) by decide)] at H; exact H
                clear H
                have H := H1
                clear H1
                have H' := Aside0.mk H
                clear H
                go_wp2
                go_roundg k2
                case measure => have := HK1.out; have := HK2.out; omega
                case rel => exact ⟨(false), (wrap64 (x6_2 + 1)), (by first | rfl | (simp; done) | (simp [*]; done)), (by first | rfl | (simp; done) | (simp [*]; done)), H', ⟨by have := HK1.out; have := HK2.out; omega⟩, by repeat (first | exact Drawn0.refl _ | apply Drawn0.step)⟩
            · rw [if_neg c3] at H
              have c3b0 : decide (x6_2 < (l0.length : Int)) = false := decide_eq_false c3
              clear c3
              by_cases c11 : x5_2 = true
              · subst c11
                have H1 : (some (x4_1, true)) = some (r1, r2) := by rw [if_pos rfl] at H; exact H
                clear H
                have H := H1
                clear H1
                simp only [Option.some.injEq, Prod.mk.injEq] at H
                obtain ⟨rfl, rfl⟩ := H
                go_wp2
                go_ret2
                exact ⟨by first | rfl | (simp; done) | (simp [*]; done), by repeat (first | exact Drawn0.refl _ | apply Drawn0.step)⟩
              · replace c11 := Bool.eq_false_iff.mpr c11
                subst c11
                have H1 : (tickingref11_Neutral.l0 k2 l0 (wrap64 (x4_1 + 1))) = some (r1, r2) := by rw [if_neg (show ¬ (false = true) by decide)] at H; exact H
                clear H
                have H := H1
                clear H1
                have H' := Aside0.mk H
                clear H
                go_wp2
                go_roundg k2
                case measure => have := HK1.out; have := HK2.out; omega
                case rel => exact ⟨(wrap64 (x4_1 + 1)), (by first | rfl | (simp; done) | (simp [*]; done)), H', ⟨by have := HK1.out; have := HK2.out; omega⟩, by repeat (first | exact Drawn0.refl _ | apply Drawn0.step)⟩
      · rw [if_neg c2] at H
        have c2b0 : decide (x4_1 < (l0.length : Int)) = false := decide_eq_false c2
        clear c2
        simp only [Option.some.injEq, Prod.mk.injEq] at H
        obtain ⟨rfl, rfl⟩ := H
        go_wp2
        go_ret2
        exact ⟨by first | rfl | (simp; done) | (simp [*]; done), by repeat (first | exact Drawn0.refl _ | apply Drawn0.step)⟩

end Go.Proofs.Ytdkncfmlehcjmaa.X
