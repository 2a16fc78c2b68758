-- Written by a program of this session (wip/tools/xprint.py) over the kit's print, for this claim.
import Derived.Test.YtdkncfmlehcjmaaTX0
namespace Go.Proofs.Ytdkncfmlehcjmaa.X
open Go.RowKit Go.Proofs.YtdkncfmlehcjmaaW.PrintWords Go.Proofs.YtdkncfmlehcjmaaW.PrintLast Go.Proofs.YtdkncfmlehcjmaaW.PrintMore
attribute [local go_sem] max2_int min2_int max_two min_two max_three min_three max_four min_four   -- for this text's walks alone
set_option linter.unusedVariables false
set_option linter.unusedSimpArgs false

/-! ### tickingref11_Table: function 35 -/
mutual
def tickingref11_Table.j0 : Nat → List (List Int) → Int → Bool → Option (Bool)
  | 0, _, _, _ => none
  | k + 1, x0, x3, x15 => if x15 = true then (some false) else (tickingref11_Table.l0 k x0 x3 0)
def tickingref11_Table.l0 : Nat → List (List Int) → Int → Int → Option (Bool)
  | 0, _, _, _ => none
  | k + 1, x0, x3, x4 => if x4 < x3 then (if 0 ≤ x4 then (if x4 < (x0.length : Int) then (if ((rd_L1 x0 x4).length : Int) = x3 then (tickingref11_Table.l0 k x0 x3 (wrap64 (x4 + 1))) else (some false)) else (none)) else (none)) else (tickingref11_Table.l1 k x0 x3 0)
def tickingref11_Table.l1 : Nat → List (List Int) → Int → Int → Option (Bool)
  | 0, _, _, _ => none
  | k + 1, x0, x3, x5 => if x5 < x3 then (tickingref11_Table.l2 k x0 x3 x5 0) else (some true)
def tickingref11_Table.l2 : Nat → List (List Int) → Int → Int → Int → Option (Bool)
  | 0, _, _, _, _ => none
  | k + 1, x0, x3, x5, x6 => if x6 < x3 then (if 0 ≤ x5 then (if x5 < (x0.length : Int) then (if 0 ≤ x6 then (if x6 < ((rd_L1 x0 x5).length : Int) then (if (rd (rd_L1 x0 x5) x6) < 0 then (tickingref11_Table.j4 k x0 x3 x5 x6 true) else (tickingref11_Table.j4 k x0 x3 x5 x6 (decide ((rd (rd_L1 x0 x5) x6) ≥ x3)))) else (none)) else (none)) else (none)) else (none)) else (tickingref11_Table.l1 k x0 x3 (wrap64 (x5 + 1)))
def tickingref11_Table.j4 : Nat → List (List Int) → Int → Int → Int → Bool → Option (Bool)
  | 0, _, _, _, _, _ => none
  | k + 1, x0, x3, x5, x6, x56 => if x56 = true then (some false) else (tickingref11_Table.l3 k x0 x3 x5 x6 0)
def tickingref11_Table.l3 : Nat → List (List Int) → Int → Int → Int → Int → Option (Bool)
  | 0, _, _, _, _, _ => none
  | k + 1, x0, x3, x5, x6, x7 => if x7 < x6 then (if 0 ≤ x5 then (if x5 < (x0.length : Int) then (if 0 ≤ x7 then (if x7 < ((rd_L1 x0 x5).length : Int) then (if 0 ≤ x6 then (if x6 < ((rd_L1 x0 x5).length : Int) then (if (rd (rd_L1 x0 x5) x7) = (rd (rd_L1 x0 x5) x6) then (some false) else (if x7 < (x0.length : Int) then (if x5 < ((rd_L1 x0 x7).length : Int) then (if x6 < (x0.length : Int) then (if x5 < ((rd_L1 x0 x6).length : Int) then (if (rd (rd_L1 x0 x7) x5) = (rd (rd_L1 x0 x6) x5) then (some false) else (tickingref11_Table.l3 k x0 x3 x5 x6 (wrap64 (x7 + 1)))) else (none)) else (none)) else (none)) else (none))) else (none)) else (none)) else (none)) else (none)) else (none)) else (none)) else (tickingref11_Table.l2 k x0 x3 x5 (wrap64 (x6 + 1)))
end
def tickingref11_Table.f (k : Nat) (l0 : List (List Int)) : Option (Bool) := if (l0.length : Int) < 2 then (tickingref11_Table.j0 k l0 (l0.length : Int) true) else (tickingref11_Table.j0 k l0 (l0.length : Int) (decide ((l0.length : Int) > 12)))
theorem tickingref11_Table.mono_l : ∀ k, (∀ y0 y1 y2, LeO (tickingref11_Table.j0 k y0 y1 y2) (tickingref11_Table.j0 (k + 1) y0 y1 y2)) ∧ (∀ y0 y1 y2, LeO (tickingref11_Table.l0 k y0 y1 y2) (tickingref11_Table.l0 (k + 1) y0 y1 y2)) ∧ (∀ y0 y1 y2, LeO (tickingref11_Table.l1 k y0 y1 y2) (tickingref11_Table.l1 (k + 1) y0 y1 y2)) ∧ (∀ y0 y1 y2 y3, LeO (tickingref11_Table.l2 k y0 y1 y2 y3) (tickingref11_Table.l2 (k + 1) y0 y1 y2 y3)) ∧ (∀ y0 y1 y2 y3 y4, LeO (tickingref11_Table.j4 k y0 y1 y2 y3 y4) (tickingref11_Table.j4 (k + 1) y0 y1 y2 y3 y4)) ∧ (∀ y0 y1 y2 y3 y4, LeO (tickingref11_Table.l3 k y0 y1 y2 y3 y4) (tickingref11_Table.l3 (k + 1) y0 y1 y2 y3 y4))
  | 0 => ⟨fun _ _ _ r h => by simp [tickingref11_Table.j0] at h, fun _ _ _ r h => by simp [tickingref11_Table.l0] at h, fun _ _ _ r h => by simp [tickingref11_Table.l1] at h, fun _ _ _ _ r h => by simp [tickingref11_Table.l2] at h, fun _ _ _ _ _ r h => by simp [tickingref11_Table.j4] at h, fun _ _ _ _ _ r h => by simp [tickingref11_Table.l3] at h⟩
  | k + 1 => by
    obtain ⟨ih0, ih1, ih2, ih3, ih4, ih5⟩ := tickingref11_Table.mono_l k
    refine ⟨?_, ?_, ?_, ?_, ?_, ?_⟩
    · intro y0 y1 y2
      unfold tickingref11_Table.j0
      repeat' first
      | (with_reducible exact ih0 _ _ _)
      | (with_reducible exact ih1 _ _ _)
      | (with_reducible exact ih2 _ _ _)
      | (with_reducible exact ih3 _ _ _ _)
      | (with_reducible exact ih4 _ _ _ _ _)
      | (with_reducible exact ih5 _ _ _ _ _)
      | (with_reducible exact LeO.refl _)
      | (with_reducible exact LeO.none _)
      | (with_reducible refine LeO.ite ?_ ?_)
      | (with_reducible refine LeO.bind ?_ (fun _ => ?_))
      | exact ih0 _ _ _
      | exact ih1 _ _ _
      | exact ih2 _ _ _
      | exact ih3 _ _ _ _
      | exact ih4 _ _ _ _ _
      | exact ih5 _ _ _ _ _
      | exact LeO.none _
      | refine LeO.ite ?_ ?_
      | refine LeO.bind ?_ (fun _ => ?_)
    · intro y0 y1 y2
      unfold tickingref11_Table.l0
      repeat' first
      | (with_reducible exact ih0 _ _ _)
      | (with_reducible exact ih1 _ _ _)
      | (with_reducible exact ih2 _ _ _)
      | (with_reducible exact ih3 _ _ _ _)
      | (with_reducible exact ih4 _ _ _ _ _)
      | (with_reducible exact ih5 _ _ _ _ _)
      | (with_reducible exact LeO.refl _)
      | (with_reducible exact LeO.none _)
      | (with_reducible refine LeO.ite ?_ ?_)
      | (with_reducible refine LeO.bind ?_ (fun _ => ?_))
      | exact ih0 _ _ _
      | exact ih1 _ _ _
      | exact ih2 _ _ _
      | exact ih3 _ _ _ _
      | exact ih4 _ _ _ _ _
      | exact ih5 _ _ _ _ _
      | exact LeO.none _
      | refine LeO.ite ?_ ?_
      | refine LeO.bind ?_ (fun _ => ?_)
    · intro y0 y1 y2
      unfold tickingref11_Table.l1
      repeat' first
      | (with_reducible exact ih0 _ _ _)
      | (with_reducible exact ih1 _ _ _)
      | (with_reducible exact ih2 _ _ _)
      | (with_reducible exact ih3 _ _ _ _)
      | (with_reducible exact ih4 _ _ _ _ _)
      | (with_reducible exact ih5 _ _ _ _ _)
      | (with_reducible exact LeO.refl _)
      | (with_reducible exact LeO.none _)
      | (with_reducible refine LeO.ite ?_ ?_)
      | (with_reducible refine LeO.bind ?_ (fun _ => ?_))
      | exact ih0 _ _ _
      | exact ih1 _ _ _
      | exact ih2 _ _ _
      | exact ih3 _ _ _ _
      | exact ih4 _ _ _ _ _
      | exact ih5 _ _ _ _ _
      | exact LeO.none _
      | refine LeO.ite ?_ ?_
      | refine LeO.bind ?_ (fun _ => ?_)
    · intro y0 y1 y2 y3
      unfold tickingref11_Table.l2
      repeat' first
      | (with_reducible exact ih0 _ _ _)
      | (with_reducible exact ih1 _ _ _)
      | (with_reducible exact ih2 _ _ _)
      | (with_reducible exact ih3 _ _ _ _)
      | (with_reducible exact ih4 _ _ _ _ _)
      | (with_reducible exact ih5 _ _ _ _ _)
      | (with_reducible exact LeO.refl _)
      | (with_reducible exact LeO.none _)
      | (with_reducible refine LeO.ite ?_ ?_)
      | (with_reducible refine LeO.bind ?_ (fun _ => ?_))
      | exact ih0 _ _ _
      | exact ih1 _ _ _
      | exact ih2 _ _ _
      | exact ih3 _ _ _ _
      | exact ih4 _ _ _ _ _
      | exact ih5 _ _ _ _ _
      | exact LeO.none _
      | refine LeO.ite ?_ ?_
      | refine LeO.bind ?_ (fun _ => ?_)
    · intro y0 y1 y2 y3 y4
      unfold tickingref11_Table.j4
      repeat' first
      | (with_reducible exact ih0 _ _ _)
      | (with_reducible exact ih1 _ _ _)
      | (with_reducible exact ih2 _ _ _)
      | (with_reducible exact ih3 _ _ _ _)
      | (with_reducible exact ih4 _ _ _ _ _)
      | (with_reducible exact ih5 _ _ _ _ _)
      | (with_reducible exact LeO.refl _)
      | (with_reducible exact LeO.none _)
      | (with_reducible refine LeO.ite ?_ ?_)
      | (with_reducible refine LeO.bind ?_ (fun _ => ?_))
      | exact ih0 _ _ _
      | exact ih1 _ _ _
      | exact ih2 _ _ _
      | exact ih3 _ _ _ _
      | exact ih4 _ _ _ _ _
      | exact ih5 _ _ _ _ _
      | exact LeO.none _
      | refine LeO.ite ?_ ?_
      | refine LeO.bind ?_ (fun _ => ?_)
    · intro y0 y1 y2 y3 y4
      unfold tickingref11_Table.l3
      repeat' first
      | (with_reducible exact ih0 _ _ _)
      | (with_reducible exact ih1 _ _ _)
      | (with_reducible exact ih2 _ _ _)
      | (with_reducible exact ih3 _ _ _ _)
      | (with_reducible exact ih4 _ _ _ _ _)
      | (with_reducible exact ih5 _ _ _ _ _)
      | (with_reducible exact LeO.refl _)
      | (with_reducible exact LeO.none _)
      | (with_reducible refine LeO.ite ?_ ?_)
      | (with_reducible refine LeO.bind ?_ (fun _ => ?_))
      | exact ih0 _ _ _
      | exact ih1 _ _ _
      | exact ih2 _ _ _
      | exact ih3 _ _ _ _
      | exact ih4 _ _ _ _ _
      | exact ih5 _ _ _ _ _
      | exact LeO.none _
      | refine LeO.ite ?_ ?_
      | refine LeO.bind ?_ (fun _ => ?_)
theorem tickingref11_Table.mono : ∀ a0 k, LeO (tickingref11_Table.f k a0) (tickingref11_Table.f (k + 1) a0) := by
  intro a0 k
  obtain ⟨ih0, ih1, ih2, ih3, ih4, ih5⟩ := tickingref11_Table.mono_l k
  unfold tickingref11_Table.f
  repeat' first
      | (with_reducible exact ih0 _ _ _)
      | (with_reducible exact ih1 _ _ _)
      | (with_reducible exact ih2 _ _ _)
      | (with_reducible exact ih3 _ _ _ _)
      | (with_reducible exact ih4 _ _ _ _ _)
      | (with_reducible exact ih5 _ _ _ _ _)
      | (with_reducible exact LeO.refl _)
      | (with_reducible exact LeO.none _)
      | (with_reducible refine LeO.ite ?_ ?_)
      | (with_reducible refine LeO.bind ?_ (fun _ => ?_))
      | exact ih0 _ _ _
      | exact ih1 _ _ _
      | exact ih2 _ _ _
      | exact ih3 _ _ _ _
      | exact ih4 _ _ _ _ _
      | exact ih5 _ _ _ _ _
      | exact LeO.none _
      | refine LeO.ite ?_ ?_
      | refine LeO.bind ?_ (fun _ => ?_)
set_option maxHeartbeats 8000000 in
set_option maxRecDepth 100000 in
theorem tickingref11_Table.calls (k : Nat) (A0 : Option Addr) (c0 : Nat) (l0 : List (List Int)) (r : Bool) (w : World) (hr0 : Kd.C (Kd.slice 3 (Kd.int .i64)) w A0 l0.length l0) (hc0 : l0.length ≤ c0) (h : tickingref11_Table.f k l0 = some r) :
    Calls Try.prog 35 #[.slice A0 l0.length c0] w fun e w' => e = .returned (.bool r) ∧ Drawn0 w w' := by
  have HR0 := Aside0.mk hr0
  have HC0 := Aside0.mk hc0
  clear hr0 hc0
  have H : (if (l0.length : Int) < 2 then (tickingref11_Table.j0 k l0 (l0.length : Int) true) else (tickingref11_Table.j0 k l0 (l0.length : Int) (decide ((l0.length : Int) > 12)))) = some r := h
  clear h
  have HC2 := Aside0.mk H
  clear H
  go_enter Try.func35, Try.ntmps35
  go_upto_region 2 with (fail)
  repeat (go_quiet (fail); go_upto_region 2 with (fail))
  go_cut [15] (fun v15 wc => ∃ (kq : Nat) (x15_1 : Bool), v15 = .bool x15_1 ∧ Aside0 (tickingref11_Table.j0 kq l0 (l0.length : Int) x15_1 = some r) ∧ Aside0 (kq ≤ k) ∧ Drawn0 w wc)
  case first =>
    have H := HC2.out
    clear HC2
    by_cases c3 : (l0.length : Int) < 2
    · rw [if_pos c3] at H
      have c3b0 : decide ((l0.length : Int) < 2) = true := decide_eq_true c3
      have c3b1 : decide (l0.length < 2) = true := decide_eq_true (by omega)
      clear c3
      (first | rw [c3b0] | (simp only [i64_w, i32_w]; rw [c3b0]) | skip)
      have H' := Aside0.mk H
      clear H
      go_wp2
      repeat (go_quiet (fail); try go_wp2)
      go_meet
      case rel => exact ⟨_, (true), (by first | rfl | (simp; done) | (simp [*]; done)), H', ⟨by first | omega | exact Nat.le_refl _⟩, by repeat (first | exact Drawn0.refl _ | apply Drawn0.step)⟩
    · rw [if_neg c3] at H
      have c3b0 : decide ((l0.length : Int) < 2) = false := decide_eq_false c3
      have c3b1 : decide (l0.length < 2) = false := decide_eq_false (by omega)
      clear c3
      (first | rw [c3b0] | (simp only [i64_w, i32_w]; rw [c3b0]) | skip)
      have H' := Aside0.mk H
      clear H
      go_wp2
      repeat (go_quiet (fail); try go_wp2)
      go_meet
      case rel => exact ⟨_, (decide ((l0.length : Int) > 12)), (by first | rfl | (simp; done) | (simp [*]; done)), H', ⟨by first | omega | exact Nat.le_refl _⟩, by repeat (first | exact Drawn0.refl _ | apply Drawn0.step)⟩
  case rest =>
    clear HC2
    try clear p2
    try clear c3
    try clear c3b0
    try clear c3b1
    obtain ⟨kq, x15_1, rfl, HA, HJ1, ⟨mc1, rfl⟩⟩ := hcut
    cases kq with
    | zero => exact absurd HA.out (by simp [tickingref11_Table.j0])
    | succ kj1 =>
      have H := HA.out
      clear HA
      simp only [tickingref11_Table.j0] at H
      by_cases c4 : x15_1 = true
      · subst c4
        have H1 : (some false) = some r := by rw [if_pos rfl] at H; exact H
        clear H
        have H := H1
        clear H1
        obtain rfl := Option.some.inj H
        go_wp2
        repeat (go_quiet (fail); try go_wp2)
        go_ret
        exact ⟨by first | rfl | (simp; done) | (simp [*]; done), by repeat (first | exact Drawn0.refl _ | apply Drawn0.step)⟩
      · replace c4 := Bool.eq_false_iff.mpr c4
        subst c4
        have H1 : (tickingref11_Table.l0 kj1 l0 (l0.length : Int) 0) = some r := by rw [if_neg (show ¬ (false = true) by decide)] at H; exact H
        clear H
        have H := H1
        clear H1
        have H' := Aside0.mk H
        clear H
        go_wp2
        repeat (go_quiet (fail); try go_wp2)
        go_loopg [4] kj1 (fun kq v4 w' => ∃ (x4_2 : Int), v4 = .int .i64 x4_2 ∧ Aside0 (tickingref11_Table.l0 kq l0 (l0.length : Int) x4_2 = some r) ∧ Aside0 (kq ≤ kj1) ∧ Drawn0 w w')
        case atStart => exact ⟨(0), (by first | rfl | (simp; done) | (simp [*]; done)), H', ⟨Nat.le_refl _⟩, by repeat (first | exact Drawn0.refl _ | apply Drawn0.step)⟩
        case round =>
          clear H'
          try clear c1
          try clear p2
          try clear c3
          try clear c3b0
          try clear c3b1
          try clear c4
          try clear p2
          obtain ⟨x4_2, rfl, HA, HK2, ⟨m2, rfl⟩⟩ := hrel
          cases gk with
          | zero => exact absurd HA.out (by simp [tickingref11_Table.l0])
          | succ k2 =>
            have H := HA.out
            clear HA
            simp only [tickingref11_Table.l0] at H
            by_cases c5 : x4_2 < (l0.length : Int)
            · rw [if_pos c5] at H
              have c5b0 : decide (x4_2 < (l0.length : Int)) = true := decide_eq_true c5
              clear c5
              by_cases c6 : 0 ≤ x4_2
              · rw [if_pos c6] at H
                have c6b0 : decide (0 ≤ x4_2) = true := decide_eq_true c6
                clear c6
                by_cases c7 : x4_2 < (l0.length : Int)
                · rw [if_pos c7] at H
                  have c7b0 : decide (x4_2 < (l0.length : Int)) = true := decide_eq_true c7
                  clear c7
                  by_cases c8 : ((rd_L1 l0 x4_2).length : Int) = (l0.length : Int)
                  · rw [if_pos c8] at H
                    have c8b0 : (((rd_L1 l0 x4_2).length : Int) == (l0.length : Int)) = true := beq_iff_eq.mpr c8
                    have c8b1 : (((rd_L1 l0 x4_2).length : Int) != (l0.length : Int)) = false := bne_eq_false_iff_eq.mpr c8
                    have c8b2 : ((rd_L1 l0 x4_2).length == l0.length) = true := by first | simpa using c8 | (simp at c8 ⊢; omega)
                    clear c8
                    have H' := Aside0.mk H
                    clear H
                    have p108 : 0 ≤ (x4_2 : Int) := of_decide_eq_true (by first | (with_reducible assumption) | assumption)
                    have q108 : x4_2 < (l0.length : Int) := of_decide_eq_true (by first | (with_reducible assumption) | assumption)
                    obtain ⟨ad108, A108_0, c108_0, e108, hx108_0, hl108_0, hi108_0⟩ := at_L1 HR0.out x4_2 p108 q108
                    cases e108
                    have HR108_0 := Aside0.mk hi108_0
                    have HC108_0 := Aside0.mk hl108_0
                    clear hi108_0 hl108_0
                    replace p108 := eq_true p108
                    replace q108 := eq_true q108
                    go_wp2
                    repeat (go_quiet (fail); try go_wp2)
                    go_roundg k2
                    case measure => have := HJ1.out; have := HK2.out; omega
                    case rel => exact ⟨(wrap64 (x4_2 + 1)), (by first | rfl | (simp; done) | (simp [*]; done)), H', ⟨by have := HJ1.out; have := HK2.out; omega⟩, by repeat (first | exact Drawn0.refl _ | apply Drawn0.step)⟩
                  · rw [if_neg c8] at H
                    have c8b0 : (((rd_L1 l0 x4_2).length : Int) == (l0.length : Int)) = false := beq_eq_false_iff_ne.mpr c8
                    have c8b1 : (((rd_L1 l0 x4_2).length : Int) != (l0.length : Int)) = true := bne_iff_ne.mpr c8
                    have c8b2 : ((rd_L1 l0 x4_2).length == l0.length) = false := by first | simpa using c8 | (simp at c8 ⊢; omega)
                    obtain rfl := Option.some.inj H
                    have p108 : 0 ≤ (x4_2 : Int) := of_decide_eq_true (by first | (with_reducible assumption) | assumption)
                    have q108 : x4_2 < (l0.length : Int) := of_decide_eq_true (by first | (with_reducible assumption) | assumption)
                    obtain ⟨ad108, A108_0, c108_0, e108, hx108_0, hl108_0, hi108_0⟩ := at_L1 HR0.out x4_2 p108 q108
                    cases e108
                    have HR108_0 := Aside0.mk hi108_0
                    have HC108_0 := Aside0.mk hl108_0
                    clear hi108_0 hl108_0
                    replace p108 := eq_true p108
                    replace q108 := eq_true q108
                    go_wp2
                    repeat (go_quiet (fail); try go_wp2)
                    go_ret
                    exact ⟨by first | rfl | (simp; done) | (simp [*]; done), by repeat (first | exact Drawn0.refl _ | apply Drawn0.step)⟩
                · rw [if_neg c7] at H
                  exact absurd H (by simp)
              · rw [if_neg c6] at H
                exact absurd H (by simp)
            · rw [if_neg c5] at H
              have c5b0 : decide (x4_2 < (l0.length : Int)) = false := decide_eq_false c5
              clear c5
              have H' := Aside0.mk H
              clear H
              go_wp2
              repeat (go_quiet (fail); try go_wp2)
              go_loopg [5] k2 (fun kq v5 w' => ∃ (x5_3 : Int), v5 = .int .i64 x5_3 ∧ Aside0 (tickingref11_Table.l1 kq l0 (l0.length : Int) x5_3 = some r) ∧ Aside0 (kq ≤ k2) ∧ Drawn0 w w')
              case atStart => exact ⟨(0), (by first | rfl | (simp; done) | (simp [*]; done)), H', ⟨Nat.le_refl _⟩, by repeat (first | exact Drawn0.refl _ | apply Drawn0.step)⟩
              case round =>
                clear H'
                try clear c1
                try clear p1
                try clear q1
                try clear hx1
                try clear p2
                try clear c3
                try clear c3b0
                try clear c3b1
                try clear c4
                try clear c5
                try clear c5b0
                try clear c6
                try clear c6b0
                try clear p6
                try clear c7
                try clear c7b0
                try clear c8
                try clear c8b0
                try clear c8b1
                try clear c8b2
                try clear hx108_0
                try clear p108
                try clear p2
                try clear q108
                obtain ⟨x5_3, rfl, HA, HK3, ⟨m3, rfl⟩⟩ := hrel
                cases gk with
                | zero => exact absurd HA.out (by simp [tickingref11_Table.l1])
                | succ k3 =>
                  have H := HA.out
                  clear HA
                  simp only [tickingref11_Table.l1] at H
                  by_cases c9 : x5_3 < (l0.length : Int)
                  · rw [if_pos c9] at H
                    have c9b0 : decide (x5_3 < (l0.length : Int)) = true := decide_eq_true c9
                    clear c9
                    have H' := Aside0.mk H
                    clear H
                    go_wp2
                    repeat (go_quiet (fail); try go_wp2)
                    go_loopg [6] k3 (fun kq v6 w' => ∃ (x6_4 : Int), v6 = .int .i64 x6_4 ∧ Aside0 (tickingref11_Table.l2 kq l0 (l0.length : Int) x5_3 x6_4 = some r) ∧ Aside0 (kq ≤ k3) ∧ Drawn0 w w')
                    case atStart => exact ⟨(0), (by first | rfl | (simp; done) | (simp [*]; done)), H', ⟨Nat.le_refl _⟩, by repeat (first | exact Drawn0.refl _ | apply Drawn0.step)⟩
                    case round =>
                      clear H'
                      try clear c1
                      try clear p1
                      try clear q1
                      try clear hx1
                      try clear p2
                      try clear c3
                      try clear c3b0
                      try clear c3b1
                      try clear c4
                      try clear c5
                      try clear c5b0
                      try clear c6
                      try clear c6b0
                      try clear p6
                      try clear c7
                      try clear c7b0
                      try clear c8
                      try clear c8b0
                      try clear c8b1
                      try clear c8b2
                      try clear c9
                      try clear c9b0
                      try clear hx108_0
                      try clear p1
                      try clear p108
                      try clear p2
                      try clear p6
                      try clear q1
                      try clear q108
                      obtain ⟨x6_4, rfl, HA, HK4, ⟨m4, rfl⟩⟩ := hrel
                      cases gk with
                      | zero => exact absurd HA.out (by simp [tickingref11_Table.l2])
                      | succ k4 =>
                        have H := HA.out
                        clear HA
                        simp only [tickingref11_Table.l2] at H
                        by_cases c10 : x6_4 < (l0.length : Int)
                        · rw [if_pos c10] at H
                          have c10b0 : decide (x6_4 < (l0.length : Int)) = true := decide_eq_true c10
                          clear c10
                          have HC11 := Aside0.mk H
                          clear H
                          go_upto_region 15 with (fail)
                          repeat (go_quiet (fail); go_upto_region 15 with (fail))
                          go_cut [56] (fun v56 wc => ∃ (kq : Nat) (x56_10 : Bool), v56 = .bool x56_10 ∧ Aside0 (tickingref11_Table.j4 kq l0 (l0.length : Int) x5_3 x6_4 x56_10 = some r) ∧ Aside0 (kq ≤ k4) ∧ Drawn0 w wc)
                          case first =>
                            have H := HC11.out
                            clear HC11
                            by_cases c12 : 0 ≤ x5_3
                            · rw [if_pos c12] at H
                              have c12b0 : decide (0 ≤ x5_3) = true := decide_eq_true c12
                              clear c12
                              (first | rw [c12b0] | (simp only [i64_w, i32_w]; rw [c12b0]) | skip)
                              by_cases c13 : x5_3 < (l0.length : Int)
                              · rw [if_pos c13] at H
                                have c13b0 : decide (x5_3 < (l0.length : Int)) = true := decide_eq_true c13
                                clear c13
                                by_cases c14 : 0 ≤ x6_4
                                · rw [if_pos c14] at H
                                  have c14b0 : decide (0 ≤ x6_4) = true := decide_eq_true c14
                                  clear c14
                                  by_cases c15 : x6_4 < ((rd_L1 l0 x5_3).length : Int)
                                  · rw [if_pos c15] at H
                                    have c15b0 : decide (x6_4 < ((rd_L1 l0 x5_3).length : Int)) = true := decide_eq_true c15
                                    clear c15
                                    by_cases c16 : (rd (rd_L1 l0 x5_3) x6_4) < 0
                                    · rw [if_pos c16] at H
                                      have c16b0 : decide ((rd (rd_L1 l0 x5_3) x6_4) < 0) = true := decide_eq_true c16
                                      clear c16
                                      have H' := Aside0.mk H
                                      clear H
                                      have p109 : 0 ≤ (x5_3 : Int) := of_decide_eq_true (by first | (with_reducible assumption) | assumption)
                                      have q109 : x5_3 < (l0.length : Int) := of_decide_eq_true (by first | (with_reducible assumption) | assumption)
                                      obtain ⟨ad109, A109_0, c109_0, e109, hx109_0, hl109_0, hi109_0⟩ := at_L1 HR0.out x5_3 p109 q109
                                      cases e109
                                      have HR109_0 := Aside0.mk hi109_0
                                      have HC109_0 := Aside0.mk hl109_0
                                      clear hi109_0 hl109_0
                                      replace p109 := eq_true p109
                                      replace q109 := eq_true q109
                                      have p110 : 0 ≤ (x6_4 : Int) := of_decide_eq_true (by first | (with_reducible assumption) | assumption)
                                      have q110 : x6_4 < ((rd_L1 l0 x5_3).length : Int) := of_decide_eq_true (by first | (with_reducible assumption) | assumption)
                                      obtain ⟨ad110, e110, hx110_0⟩ := Kd.at_int HR109_0.out x6_4 p110 q110
                                      cases e110
                                      replace p110 := eq_true p110
                                      replace q110 := eq_true q110
                                      go_wp2
                                      repeat (go_quiet (fail); try go_wp2)
                                      go_meet
                                      case rel => exact ⟨_, (true), (by first | rfl | (simp; done) | (simp [*]; done)), H', ⟨by have := HJ1.out; have := HK2.out; have := HK3.out; have := HK4.out; first | omega | exact Nat.le_refl _⟩, by repeat (first | exact Drawn0.refl _ | apply Drawn0.step)⟩
                                    · rw [if_neg c16] at H
                                      have c16b0 : decide ((rd (rd_L1 l0 x5_3) x6_4) < 0) = false := decide_eq_false c16
                                      clear c16
                                      have H' := Aside0.mk H
                                      clear H
                                      have p109 : 0 ≤ (x5_3 : Int) := of_decide_eq_true (by first | (with_reducible assumption) | assumption)
                                      have q109 : x5_3 < (l0.length : Int) := of_decide_eq_true (by first | (with_reducible assumption) | assumption)
                                      obtain ⟨ad109, A109_0, c109_0, e109, hx109_0, hl109_0, hi109_0⟩ := at_L1 HR0.out x5_3 p109 q109
                                      cases e109
                                      have HR109_0 := Aside0.mk hi109_0
                                      have HC109_0 := Aside0.mk hl109_0
                                      clear hi109_0 hl109_0
                                      replace p109 := eq_true p109
                                      replace q109 := eq_true q109
                                      have p110 : 0 ≤ (x6_4 : Int) := of_decide_eq_true (by first | (with_reducible assumption) | assumption)
                                      have q110 : x6_4 < ((rd_L1 l0 x5_3).length : Int) := of_decide_eq_true (by first | (with_reducible assumption) | assumption)
                                      obtain ⟨ad110, e110, hx110_0⟩ := Kd.at_int HR109_0.out x6_4 p110 q110
                                      cases e110
                                      replace p110 := eq_true p110
                                      replace q110 := eq_true q110
                                      have p111 : 0 ≤ (x5_3 : Int) := of_decide_eq_true (by first | (with_reducible assumption) | assumption)
                                      have q111 : x5_3 < (l0.length : Int) := of_decide_eq_true (by first | (with_reducible assumption) | assumption)
                                      obtain ⟨ad111, A111_0, c111_0, e111, hx111_0, hl111_0, hi111_0⟩ := at_L1 HR0.out x5_3 p111 q111
                                      obtain rfl : ad109 = ad111 := (by injection e111)
                                      have HR111_0 := Aside0.mk hi111_0
                                      have HC111_0 := Aside0.mk hl111_0
                                      clear hi111_0 hl111_0
                                      replace p111 := eq_true p111
                                      replace q111 := eq_true q111
                                      have ea_ := Option.some.inj (hx109_0.symm.trans hx111_0)
                                      injection ea_ with ea_ en_ ec_
                                      subst ea_
                                      subst ec_
                                      clear en_
                                      have p112 : 0 ≤ (x6_4 : Int) := of_decide_eq_true (by first | (with_reducible assumption) | assumption)
                                      have q112 : x6_4 < ((rd_L1 l0 x5_3).length : Int) := of_decide_eq_true (by first | (with_reducible assumption) | assumption)
                                      obtain ⟨ad112, e112, hx112_0⟩ := Kd.at_int HR111_0.out x6_4 p112 q112
                                      cases e112
                                      replace p112 := eq_true p112
                                      replace q112 := eq_true q112
                                      go_wp2
                                      repeat (go_quiet (fail); try go_wp2)
                                      go_meet
                                      case rel => exact ⟨_, (decide ((rd (rd_L1 l0 x5_3) x6_4) ≥ (l0.length : Int))), (by first | rfl | (simp; done) | (simp [*]; done)), H', ⟨by have := HJ1.out; have := HK2.out; have := HK3.out; have := HK4.out; first | omega | exact Nat.le_refl _⟩, by repeat (first | exact Drawn0.refl _ | apply Drawn0.step)⟩
                                  · rw [if_neg c15] at H
                                    exact absurd H (by simp)
                                · rw [if_neg c14] at H
                                  exact absurd H (by simp)
                              · rw [if_neg c13] at H
                                exact absurd H (by simp)
                            · rw [if_neg c12] at H
                              exact absurd H (by simp)
                          case rest =>
                            clear HC11
                            try clear c1
                            try clear p1
                            try clear q1
                            try clear hx1
                            try clear p2
                            try clear c3
                            try clear c3b0
                            try clear c3b1
                            try clear c4
                            try clear c5
                            try clear c5b0
                            try clear c6
                            try clear c6b0
                            try clear p6
                            try clear c7
                            try clear c7b0
                            try clear c8
                            try clear c8b0
                            try clear c8b1
                            try clear c8b2
                            try clear c9
                            try clear c9b0
                            try clear c10
                            try clear c10b0
                            try clear p10
                            try clear q10
                            try clear hx10
                            try clear c11
                            try clear p11
                            try clear q11
                            try clear hx11
                            try clear c12
                            try clear c12b0
                            try clear c13
                            try clear c13b0
                            try clear c14
                            try clear c14b0
                            try clear c15
                            try clear c15b0
                            try clear c16
                            try clear c16b0
                            try clear hx108_0
                            try clear hx109_0
                            try clear hx110_0
                            try clear hx111_0
                            try clear hx112_0
                            try clear p1
                            try clear p108
                            try clear p109
                            try clear p110
                            try clear p111
                            try clear p112
                            try clear p2
                            try clear p6
                            try clear q1
                            try clear q108
                            try clear q109
                            try clear q110
                            try clear q111
                            try clear q112
                            obtain ⟨kq, x56_10, rfl, HA, HJ10, ⟨mc10, rfl⟩⟩ := hcut
                            cases kq with
                            | zero => exact absurd HA.out (by simp [tickingref11_Table.j4])
                            | succ kj10 =>
                              have H := HA.out
                              clear HA
                              simp only [tickingref11_Table.j4] at H
                              by_cases c17 : x56_10 = true
                              · subst c17
                                have H1 : (some false) = some r := by rw [if_pos rfl] at H; exact H
                                clear H
                                have H := H1
                                clear H1
                                obtain rfl := Option.some.inj H
                                go_wp2
                                repeat (go_quiet (fail); try go_wp2)
                                go_ret
                                exact ⟨by first | rfl | (simp; done) | (simp [*]; done), by repeat (first | exact Drawn0.refl _ | apply Drawn0.step)⟩
                              · replace c17 := Bool.eq_false_iff.mpr c17
                                subst c17
                                have H1 : (tickingref11_Table.l3 kj10 l0 (l0.length : Int) x5_3 x6_4 0) = some r := by rw [if_neg (show ¬ (false = true) by decide)] at H; exact H
                                clear H
                                have H := H1
                                clear H1
                                have H' := Aside0.mk H
                                clear H
                                go_wp2
                                repeat (go_quiet (fail); try go_wp2)
                                go_loopg [7] kj10 (fun kq v7 w' => ∃ (x7_6 : Int), v7 = .int .i64 x7_6 ∧ Aside0 (tickingref11_Table.l3 kq l0 (l0.length : Int) x5_3 x6_4 x7_6 = some r) ∧ Aside0 (kq ≤ kj10) ∧ Drawn0 w w')
                                case atStart => exact ⟨(0), (by first | rfl | (simp; done) | (simp [*]; done)), H', ⟨Nat.le_refl _⟩, by repeat (first | exact Drawn0.refl _ | apply Drawn0.step)⟩
                                case round =>
                                  clear H'
                                  try clear c1
                                  try clear p1
                                  try clear q1
                                  try clear hx1
                                  try clear p2
                                  try clear c3
                                  try clear c3b0
                                  try clear c3b1
                                  try clear c4
                                  try clear c5
                                  try clear c5b0
                                  try clear c6
                                  try clear c6b0
                                  try clear p6
                                  try clear c7
                                  try clear c7b0
                                  try clear c8
                                  try clear c8b0
                                  try clear c8b1
                                  try clear c8b2
                                  try clear c9
                                  try clear c9b0
                                  try clear c10
                                  try clear c10b0
                                  try clear p10
                                  try clear q10
                                  try clear hx10
                                  try clear c11
                                  try clear p11
                                  try clear q11
                                  try clear hx11
                                  try clear c12
                                  try clear c12b0
                                  try clear c13
                                  try clear c13b0
                                  try clear c14
                                  try clear c14b0
                                  try clear c15
                                  try clear c15b0
                                  try clear c16
                                  try clear c16b0
                                  try clear c17
                                  try clear hx108_0
                                  try clear hx109_0
                                  try clear hx110_0
                                  try clear hx111_0
                                  try clear hx112_0
                                  try clear p1
                                  try clear p10
                                  try clear p108
                                  try clear p109
                                  try clear p11
                                  try clear p110
                                  try clear p111
                                  try clear p112
                                  try clear p2
                                  try clear p6
                                  try clear q1
                                  try clear q10
                                  try clear q108
                                  try clear q109
                                  try clear q11
                                  try clear q110
                                  try clear q111
                                  try clear q112
                                  obtain ⟨x7_6, rfl, HA, HK6, ⟨m6, rfl⟩⟩ := hrel
                                  cases gk with
                                  | zero => exact absurd HA.out (by simp [tickingref11_Table.l3])
                                  | succ k6 =>
                                    have H := HA.out
                                    clear HA
                                    simp only [tickingref11_Table.l3] at H
                                    by_cases c18 : x7_6 < x6_4
                                    · rw [if_pos c18] at H
                                      have c18b0 : decide (x7_6 < x6_4) = true := decide_eq_true c18
                                      clear c18
                                      by_cases c19 : 0 ≤ x5_3
                                      · rw [if_pos c19] at H
                                        have c19b0 : decide (0 ≤ x5_3) = true := decide_eq_true c19
                                        clear c19
                                        by_cases c20 : x5_3 < (l0.length : Int)
                                        · rw [if_pos c20] at H
                                          have c20b0 : decide (x5_3 < (l0.length : Int)) = true := decide_eq_true c20
                                          clear c20
                                          by_cases c21 : 0 ≤ x7_6
                                          · rw [if_pos c21] at H
                                            have c21b0 : decide (0 ≤ x7_6) = true := decide_eq_true c21
                                            clear c21
                                            by_cases c22 : x7_6 < ((rd_L1 l0 x5_3).length : Int)
                                            · rw [if_pos c22] at H
                                              have c22b0 : decide (x7_6 < ((rd_L1 l0 x5_3).length : Int)) = true := decide_eq_true c22
                                              clear c22
                                              by_cases c23 : 0 ≤ x6_4
                                              · rw [if_pos c23] at H
                                                have c23b0 : decide (0 ≤ x6_4) = true := decide_eq_true c23
                                                clear c23
                                                by_cases c24 : x6_4 < ((rd_L1 l0 x5_3).length : Int)
                                                · rw [if_pos c24] at H
                                                  have c24b0 : decide (x6_4 < ((rd_L1 l0 x5_3).length : Int)) = true := decide_eq_true c24
                                                  clear c24
                                                  by_cases c25 : (rd (rd_L1 l0 x5_3) x7_6) = (rd (rd_L1 l0 x5_3) x6_4)
                                                  · rw [if_pos c25] at H
                                                    have c25b0 : ((rd (rd_L1 l0 x5_3) x7_6) == (rd (rd_L1 l0 x5_3) x6_4)) = true := beq_iff_eq.mpr c25
                                                    have c25b1 : ((rd (rd_L1 l0 x5_3) x7_6) != (rd (rd_L1 l0 x5_3) x6_4)) = false := bne_eq_false_iff_eq.mpr c25
                                                    clear c25
                                                    obtain rfl := Option.some.inj H
                                                    have p113 : 0 ≤ (x5_3 : Int) := of_decide_eq_true (by first | (with_reducible assumption) | assumption)
                                                    have q113 : x5_3 < (l0.length : Int) := of_decide_eq_true (by first | (with_reducible assumption) | assumption)
                                                    obtain ⟨ad113, A113_0, c113_0, e113, hx113_0, hl113_0, hi113_0⟩ := at_L1 HR0.out x5_3 p113 q113
                                                    cases e113
                                                    have HR113_0 := Aside0.mk hi113_0
                                                    have HC113_0 := Aside0.mk hl113_0
                                                    clear hi113_0 hl113_0
                                                    replace p113 := eq_true p113
                                                    replace q113 := eq_true q113
                                                    have p114 : 0 ≤ (x7_6 : Int) := of_decide_eq_true (by first | (with_reducible assumption) | assumption)
                                                    have q114 : x7_6 < ((rd_L1 l0 x5_3).length : Int) := of_decide_eq_true (by first | (with_reducible assumption) | assumption)
                                                    obtain ⟨ad114, e114, hx114_0⟩ := Kd.at_int HR113_0.out x7_6 p114 q114
                                                    cases e114
                                                    replace p114 := eq_true p114
                                                    replace q114 := eq_true q114
                                                    have p115 : 0 ≤ (x5_3 : Int) := of_decide_eq_true (by first | (with_reducible assumption) | assumption)
                                                    have q115 : x5_3 < (l0.length : Int) := of_decide_eq_true (by first | (with_reducible assumption) | assumption)
                                                    obtain ⟨ad115, A115_0, c115_0, e115, hx115_0, hl115_0, hi115_0⟩ := at_L1 HR0.out x5_3 p115 q115
                                                    obtain rfl : ad113 = ad115 := (by injection e115)
                                                    have HR115_0 := Aside0.mk hi115_0
                                                    have HC115_0 := Aside0.mk hl115_0
                                                    clear hi115_0 hl115_0
                                                    replace p115 := eq_true p115
                                                    replace q115 := eq_true q115
                                                    have ea_ := Option.some.inj (hx113_0.symm.trans hx115_0)
                                                    injection ea_ with ea_ en_ ec_
                                                    subst ea_
                                                    subst ec_
                                                    clear en_
                                                    have p116 : 0 ≤ (x6_4 : Int) := of_decide_eq_true (by first | (with_reducible assumption) | assumption)
                                                    have q116 : x6_4 < ((rd_L1 l0 x5_3).length : Int) := of_decide_eq_true (by first | (with_reducible assumption) | assumption)
                                                    obtain ⟨ad116, e116, hx116_0⟩ := Kd.at_int HR115_0.out x6_4 p116 q116
                                                    cases e116
                                                    replace p116 := eq_true p116
                                                    replace q116 := eq_true q116
                                                    go_wp2
                                                    repeat (go_quiet (fail); try go_wp2)
                                                    go_ret
                                                    exact ⟨by first | rfl | (simp; done) | (simp [*]; done), by repeat (first | exact Drawn0.refl _ | apply Drawn0.step)⟩
                                                  · rw [if_neg c25] at H
                                                    have c25b0 : ((rd (rd_L1 l0 x5_3) x7_6) == (rd (rd_L1 l0 x5_3) x6_4)) = false := beq_eq_false_iff_ne.mpr c25
                                                    have c25b1 : ((rd (rd_L1 l0 x5_3) x7_6) != (rd (rd_L1 l0 x5_3) x6_4)) = true := bne_iff_ne.mpr c25
                                                    by_cases c26 : x7_6 < (l0.length : Int)
                                                    · rw [if_pos c26] at H
                                                      have c26b0 : decide (x7_6 < (l0.length : Int)) = true := decide_eq_true c26
                                                      clear c26
                                                      by_cases c27 : x5_3 < ((rd_L1 l0 x7_6).length : Int)
                                                      · rw [if_pos c27] at H
                                                        have c27b0 : decide (x5_3 < ((rd_L1 l0 x7_6).length : Int)) = true := decide_eq_true c27
                                                        clear c27
                                                        by_cases c28 : x6_4 < (l0.length : Int)
                                                        · rw [if_pos c28] at H
                                                          have c28b0 : decide (x6_4 < (l0.length : Int)) = true := decide_eq_true c28
                                                          clear c28
                                                          by_cases c29 : x5_3 < ((rd_L1 l0 x6_4).length : Int)
                                                          · rw [if_pos c29] at H
                                                            have c29b0 : decide (x5_3 < ((rd_L1 l0 x6_4).length : Int)) = true := decide_eq_true c29
                                                            clear c29
                                                            by_cases c30 : (rd (rd_L1 l0 x7_6) x5_3) = (rd (rd_L1 l0 x6_4) x5_3)
                                                            · rw [if_pos c30] at H
                                                              have c30b0 : ((rd (rd_L1 l0 x7_6) x5_3) == (rd (rd_L1 l0 x6_4) x5_3)) = true := beq_iff_eq.mpr c30
                                                              have c30b1 : ((rd (rd_L1 l0 x7_6) x5_3) != (rd (rd_L1 l0 x6_4) x5_3)) = false := bne_eq_false_iff_eq.mpr c30
                                                              clear c30
                                                              obtain rfl := Option.some.inj H
                                                              have p113 : 0 ≤ (x5_3 : Int) := of_decide_eq_true (by first | (with_reducible assumption) | assumption)
                                                              have q113 : x5_3 < (l0.length : Int) := of_decide_eq_true (by first | (with_reducible assumption) | assumption)
                                                              obtain ⟨ad113, A113_0, c113_0, e113, hx113_0, hl113_0, hi113_0⟩ := at_L1 HR0.out x5_3 p113 q113
                                                              cases e113
                                                              have HR113_0 := Aside0.mk hi113_0
                                                              have HC113_0 := Aside0.mk hl113_0
                                                              clear hi113_0 hl113_0
                                                              replace p113 := eq_true p113
                                                              replace q113 := eq_true q113
                                                              have p114 : 0 ≤ (x7_6 : Int) := of_decide_eq_true (by first | (with_reducible assumption) | assumption)
                                                              have q114 : x7_6 < ((rd_L1 l0 x5_3).length : Int) := of_decide_eq_true (by first | (with_reducible assumption) | assumption)
                                                              obtain ⟨ad114, e114, hx114_0⟩ := Kd.at_int HR113_0.out x7_6 p114 q114
                                                              cases e114
                                                              replace p114 := eq_true p114
                                                              replace q114 := eq_true q114
                                                              have p115 : 0 ≤ (x5_3 : Int) := of_decide_eq_true (by first | (with_reducible assumption) | assumption)
                                                              have q115 : x5_3 < (l0.length : Int) := of_decide_eq_true (by first | (with_reducible assumption) | assumption)
                                                              obtain ⟨ad115, A115_0, c115_0, e115, hx115_0, hl115_0, hi115_0⟩ := at_L1 HR0.out x5_3 p115 q115
                                                              obtain rfl : ad113 = ad115 := (by injection e115)
                                                              have HR115_0 := Aside0.mk hi115_0
                                                              have HC115_0 := Aside0.mk hl115_0
                                                              clear hi115_0 hl115_0
                                                              replace p115 := eq_true p115
                                                              replace q115 := eq_true q115
                                                              have ea_ := Option.some.inj (hx113_0.symm.trans hx115_0)
                                                              injection ea_ with ea_ en_ ec_
                                                              subst ea_
                                                              subst ec_
                                                              clear en_
                                                              have p116 : 0 ≤ (x6_4 : Int) := of_decide_eq_true (by first | (with_reducible assumption) | assumption)
                                                              have q116 : x6_4 < ((rd_L1 l0 x5_3).length : Int) := of_decide_eq_true (by first | (with_reducible assumption) | assumption)
                                                              obtain ⟨ad116, e116, hx116_0⟩ := Kd.at_int HR115_0.out x6_4 p116 q116
                                                              cases e116
                                                              replace p116 := eq_true p116
                                                              replace q116 := eq_true q116
                                                              have p117 : 0 ≤ (x7_6 : Int) := of_decide_eq_true (by first | (with_reducible assumption) | assumption)
                                                              have q117 : x7_6 < (l0.length : Int) := of_decide_eq_true (by first | (with_reducible assumption) | assumption)
                                                              obtain ⟨ad117, A117_0, c117_0, e117, hx117_0, hl117_0, hi117_0⟩ := at_L1 HR0.out x7_6 p117 q117
                                                              obtain rfl : ad113 = ad117 := (by injection e117)
                                                              have HR117_0 := Aside0.mk hi117_0
                                                              have HC117_0 := Aside0.mk hl117_0
                                                              clear hi117_0 hl117_0
                                                              replace p117 := eq_true p117
                                                              replace q117 := eq_true q117
                                                              have p118 : 0 ≤ (x5_3 : Int) := of_decide_eq_true (by first | (with_reducible assumption) | assumption)
                                                              have q118 : x5_3 < ((rd_L1 l0 x7_6).length : Int) := of_decide_eq_true (by first | (with_reducible assumption) | assumption)
                                                              obtain ⟨ad118, e118, hx118_0⟩ := Kd.at_int HR117_0.out x5_3 p118 q118
                                                              cases e118
                                                              replace p118 := eq_true p118
                                                              replace q118 := eq_true q118
                                                              have p119 : 0 ≤ (x6_4 : Int) := of_decide_eq_true (by first | (with_reducible assumption) | assumption)
                                                              have q119 : x6_4 < (l0.length : Int) := of_decide_eq_true (by first | (with_reducible assumption) | assumption)
                                                              obtain ⟨ad119, A119_0, c119_0, e119, hx119_0, hl119_0, hi119_0⟩ := at_L1 HR0.out x6_4 p119 q119
                                                              obtain rfl : ad113 = ad119 := (by injection e119)
                                                              have HR119_0 := Aside0.mk hi119_0
                                                              have HC119_0 := Aside0.mk hl119_0
                                                              clear hi119_0 hl119_0
                                                              replace p119 := eq_true p119
                                                              replace q119 := eq_true q119
                                                              have p120 : 0 ≤ (x5_3 : Int) := of_decide_eq_true (by first | (with_reducible assumption) | assumption)
                                                              have q120 : x5_3 < ((rd_L1 l0 x6_4).length : Int) := of_decide_eq_true (by first | (with_reducible assumption) | assumption)
                                                              obtain ⟨ad120, e120, hx120_0⟩ := Kd.at_int HR119_0.out x5_3 p120 q120
                                                              cases e120
                                                              replace p120 := eq_true p120
                                                              replace q120 := eq_true q120
                                                              go_wp2
                                                              repeat (go_quiet (fail); try go_wp2)
                                                              go_ret
                                                              exact ⟨by first | rfl | (simp; done) | (simp [*]; done), by repeat (first | exact Drawn0.refl _ | apply Drawn0.step)⟩
                                                            · rw [if_neg c30] at H
                                                              have c30b0 : ((rd (rd_L1 l0 x7_6) x5_3) == (rd (rd_L1 l0 x6_4) x5_3)) = false := beq_eq_false_iff_ne.mpr c30
                                                              have c30b1 : ((rd (rd_L1 l0 x7_6) x5_3) != (rd (rd_L1 l0 x6_4) x5_3)) = true := bne_iff_ne.mpr c30
                                                              have H' := Aside0.mk H
                                                              clear H
                                                              have p113 : 0 ≤ (x5_3 : Int) := of_decide_eq_true (by first | (with_reducible assumption) | assumption)
                                                              have q113 : x5_3 < (l0.length : Int) := of_decide_eq_true (by first | (with_reducible assumption) | assumption)
                                                              obtain ⟨ad113, A113_0, c113_0, e113, hx113_0, hl113_0, hi113_0⟩ := at_L1 HR0.out x5_3 p113 q113
                                                              cases e113
                                                              have HR113_0 := Aside0.mk hi113_0
                                                              have HC113_0 := Aside0.mk hl113_0
                                                              clear hi113_0 hl113_0
                                                              replace p113 := eq_true p113
                                                              replace q113 := eq_true q113
                                                              have p114 : 0 ≤ (x7_6 : Int) := of_decide_eq_true (by first | (with_reducible assumption) | assumption)
                                                              have q114 : x7_6 < ((rd_L1 l0 x5_3).length : Int) := of_decide_eq_true (by first | (with_reducible assumption) | assumption)
                                                              obtain ⟨ad114, e114, hx114_0⟩ := Kd.at_int HR113_0.out x7_6 p114 q114
                                                              cases e114
                                                              replace p114 := eq_true p114
                                                              replace q114 := eq_true q114
                                                              have p115 : 0 ≤ (x5_3 : Int) := of_decide_eq_true (by first | (with_reducible assumption) | assumption)
                                                              have q115 : x5_3 < (l0.length : Int) := of_decide_eq_true (by first | (with_reducible assumption) | assumption)
                                                              obtain ⟨ad115, A115_0, c115_0, e115, hx115_0, hl115_0, hi115_0⟩ := at_L1 HR0.out x5_3 p115 q115
                                                              obtain rfl : ad113 = ad115 := (by injection e115)
                                                              have HR115_0 := Aside0.mk hi115_0
                                                              have HC115_0 := Aside0.mk hl115_0
                                                              clear hi115_0 hl115_0
                                                              replace p115 := eq_true p115
                                                              replace q115 := eq_true q115
                                                              have ea_ := Option.some.inj (hx113_0.symm.trans hx115_0)
                                                              injection ea_ with ea_ en_ ec_
                                                              subst ea_
                                                              subst ec_
                                                              clear en_
                                                              have p116 : 0 ≤ (x6_4 : Int) := of_decide_eq_true (by first | (with_reducible assumption) | assumption)
                                                              have q116 : x6_4 < ((rd_L1 l0 x5_3).length : Int) := of_decide_eq_true (by first | (with_reducible assumption) | assumption)
                                                              obtain ⟨ad116, e116, hx116_0⟩ := Kd.at_int HR115_0.out x6_4 p116 q116
                                                              cases e116
                                                              replace p116 := eq_true p116
                                                              replace q116 := eq_true q116
                                                              have p117 : 0 ≤ (x7_6 : Int) := of_decide_eq_true (by first | (with_reducible assumption) | assumption)
                                                              have q117 : x7_6 < (l0.length : Int) := of_decide_eq_true (by first | (with_reducible assumption) | assumption)
                                                              obtain ⟨ad117, A117_0, c117_0, e117, hx117_0, hl117_0, hi117_0⟩ := at_L1 HR0.out x7_6 p117 q117
                                                              obtain rfl : ad113 = ad117 := (by injection e117)
                                                              have HR117_0 := Aside0.mk hi117_0
                                                              have HC117_0 := Aside0.mk hl117_0
                                                              clear hi117_0 hl117_0
                                                              replace p117 := eq_true p117
                                                              replace q117 := eq_true q117
                                                              have p118 : 0 ≤ (x5_3 : Int) := of_decide_eq_true (by first | (with_reducible assumption) | assumption)
                                                              have q118 : x5_3 < ((rd_L1 l0 x7_6).length : Int) := of_decide_eq_true (by first | (with_reducible assumption) | assumption)
                                                              obtain ⟨ad118, e118, hx118_0⟩ := Kd.at_int HR117_0.out x5_3 p118 q118
                                                              cases e118
                                                              replace p118 := eq_true p118
                                                              replace q118 := eq_true q118
                                                              have p119 : 0 ≤ (x6_4 : Int) := of_decide_eq_true (by first | (with_reducible assumption) | assumption)
                                                              have q119 : x6_4 < (l0.length : Int) := of_decide_eq_true (by first | (with_reducible assumption) | assumption)
                                                              obtain ⟨ad119, A119_0, c119_0, e119, hx119_0, hl119_0, hi119_0⟩ := at_L1 HR0.out x6_4 p119 q119
                                                              obtain rfl : ad113 = ad119 := (by injection e119)
                                                              have HR119_0 := Aside0.mk hi119_0
                                                              have HC119_0 := Aside0.mk hl119_0
                                                              clear hi119_0 hl119_0
                                                              replace p119 := eq_true p119
                                                              replace q119 := eq_true q119
                                                              have p120 : 0 ≤ (x5_3 : Int) := of_decide_eq_true (by first | (with_reducible assumption) | assumption)
                                                              have q120 : x5_3 < ((rd_L1 l0 x6_4).length : Int) := of_decide_eq_true (by first | (with_reducible assumption) | assumption)
                                                              obtain ⟨ad120, e120, hx120_0⟩ := Kd.at_int HR119_0.out x5_3 p120 q120
                                                              cases e120
                                                              replace p120 := eq_true p120
                                                              replace q120 := eq_true q120
                                                              go_wp2
                                                              repeat (go_quiet (fail); try go_wp2)
                                                              go_roundg k6
                                                              case measure => have := HJ1.out; have := HK2.out; have := HK3.out; have := HK4.out; have := HJ10.out; have := HK6.out; omega
                                                              case rel => exact ⟨(wrap64 (x7_6 + 1)), (by first | rfl | (simp; done) | (simp [*]; done)), H', ⟨by have := HJ1.out; have := HK2.out; have := HK3.out; have := HK4.out; have := HJ10.out; have := HK6.out; omega⟩, by repeat (first | exact Drawn0.refl _ | apply Drawn0.step)⟩
                                                          · rw [if_neg c29] at H
                                                            exact absurd H (by simp)
                                                        · rw [if_neg c28] at H
                                                          exact absurd H (by simp)
                                                      · rw [if_neg c27] at H
                                                        exact absurd H (by simp)
                                                    · rw [if_neg c26] at H
                                                      exact absurd H (by simp)
                                                · rw [if_neg c24] at H
                                                  exact absurd H (by simp)
                                              · rw [if_neg c23] at H
                                                exact absurd H (by simp)
                                            · rw [if_neg c22] at H
                                              exact absurd H (by simp)
                                          · rw [if_neg c21] at H
                                            exact absurd H (by simp)
                                        · rw [if_neg c20] at H
                                          exact absurd H (by simp)
                                      · rw [if_neg c19] at H
                                        exact absurd H (by simp)
                                    · rw [if_neg c18] at H
                                      have c18b0 : decide (x7_6 < x6_4) = false := decide_eq_false c18
                                      clear c18
                                      have H' := Aside0.mk H
                                      clear H
                                      go_wp2
                                      repeat (go_quiet (fail); try go_wp2)
                                      go_roundg k6
                                      case measure => have := HJ1.out; have := HK2.out; have := HK3.out; have := HK4.out; have := HJ10.out; have := HK6.out; omega
                                      case rel => exact ⟨(wrap64 (x6_4 + 1)), (by first | rfl | (simp; done) | (simp [*]; done)), H', ⟨by have := HJ1.out; have := HK2.out; have := HK3.out; have := HK4.out; have := HJ10.out; have := HK6.out; omega⟩, by repeat (first | exact Drawn0.refl _ | apply Drawn0.step)⟩
                        · rw [if_neg c10] at H
                          have c10b0 : decide (x6_4 < (l0.length : Int)) = false := decide_eq_false c10
                          clear c10
                          have H' := Aside0.mk H
                          clear H
                          go_wp2
                          repeat (go_quiet (fail); try go_wp2)
                          go_roundg k4
                          case measure => have := HJ1.out; have := HK2.out; have := HK3.out; have := HK4.out; omega
                          case rel => exact ⟨(wrap64 (x5_3 + 1)), (by first | rfl | (simp; done) | (simp [*]; done)), H', ⟨by have := HJ1.out; have := HK2.out; have := HK3.out; have := HK4.out; omega⟩, by repeat (first | exact Drawn0.refl _ | apply Drawn0.step)⟩
                  · rw [if_neg c9] at H
                    have c9b0 : decide (x5_3 < (l0.length : Int)) = false := decide_eq_false c9
                    clear c9
                    obtain rfl := Option.some.inj H
                    go_wp2
                    repeat (go_quiet (fail); try go_wp2)
                    go_ret
                    exact ⟨by first | rfl | (simp; done) | (simp [*]; done), by repeat (first | exact Drawn0.refl _ | apply Drawn0.step)⟩

end Go.Proofs.Ytdkncfmlehcjmaa.X
