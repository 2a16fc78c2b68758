/- Texts behind SerialKinds, part 21: contracts of the program's functions and the plain words for them. -/
import Derived.Lib.SliceRun
import Derived.Test.YtdkncfmlehcjmaaTpar
import Derived.Test.YtdkncfmlehcjmaaTpat
section
/- What the printed functions of layer 11 come to, in plain words: greatest common divisors, units, linear tables. -/
set_option linter.unusedVariables false
set_option linter.unusedSimpArgs false
namespace Go.Proofs.Ytdkncfmlehcjmaa.X
open Go.RowKit Go.Proofs.YtdkncfmlehcjmaaW.PrintWords

theorem w64 {x : Int} (h0 : -9223372036854775808 ≤ x) (h1 : x ≤ 9223372036854775807) : wrap64 x = x := by unfold wrap64; omega
theorem rd_nat (l : List Int) (i : Nat) (h : i < l.length) : rd l (i : Int) = l[i] := by
  simp [rd, List.getD_eq_getElem?_getD, List.getElem?_eq_getElem h]
theorem rdL_nat (t : List (List Int)) (i : Nat) (h : i < t.length) : rd_L1 t (i : Int) = t[i] := by
  simp [rd_L1, List.getD_eq_getElem?_getD, List.getElem?_eq_getElem h]
theorem Ev.some_ {α : Type} {g : Nat → Option α} {r : α} (h : ∀ k, g k = some r) : Ev g r := ⟨0, fun k _ => h k⟩
theorem ev_ints_l (a : List Int) (ha : a.length ≤ 1000000000) (d : Nat) : ∀ (b : List Int) (i : Nat), a.length = b.length → i + d = a.length → a.take i = b.take i → Ev (fun k => tickinglaw11_ints.l0 k a b i) (decide (a = b)) := by
  induction d with
  | zero =>
    intro b i hl hi ht
    have : a = b := by rw [List.take_of_length_le (by omega), List.take_of_length_le (by omega)] at ht; exact ht
    refine Ev.step (f := fun _ => some (decide (a = b))) (fun k => ?_) (Ev.now _)
    simp only [tickinglaw11_ints.l0]; rw [if_neg (by omega)]; simp [this]
  | succ d ih =>
    intro b i hl hi ht
    have e1 : rd a (i : Int) = a[i] := rd_nat a i (by omega)
    have e2 : rd b (i : Int) = b[i] := rd_nat b i (by omega)
    by_cases h : a[i] = b[i]'(by omega)
    · refine Ev.step (fun k => ?_) (ih b (i + 1) hl (by omega) (by rw [List.take_succ_eq_append_getElem (by omega), List.take_succ_eq_append_getElem (by omega), ht, h]))
      simp only [tickinglaw11_ints.l0]; rw [if_pos (by omega), if_pos (by omega), if_pos (by omega), if_pos (by rw [e1, e2]; exact h), w64 (by omega) (by omega)]; rfl
    · have : ¬ a = b := fun e => h (by subst e; rfl)
      refine Ev.step (f := fun _ => some (decide (a = b))) (fun k => ?_) (Ev.now _)
      simp only [tickinglaw11_ints.l0]; rw [if_pos (by omega), if_pos (by omega), if_pos (by omega), if_neg (by rw [e1, e2]; exact h)]; simp [this]
theorem ev_ints (a b : List Int) (ha : a.length ≤ 1000000000) : Ev (fun k => tickinglaw11_ints.f k a b) (decide (a = b)) := by
  by_cases h : a.length = b.length
  · exact Ev.congr (fun k => by unfold tickinglaw11_ints.f; rw [if_pos (by omega)]; rfl) (ev_ints_l a ha a.length b 0 h (by omega) rfl)
  · have : ¬ a = b := fun e => h (by rw [e])
    exact Ev.some_ fun k => by unfold tickinglaw11_ints.f; rw [if_neg (by omega)]; simp [this]
set_option maxRecDepth 100000 in
theorem awake_k : tickinglaw11_awake.f 400 = some true := by decide +kernel
theorem ev_awake : Ev (fun k => tickinglaw11_awake.f k) true := Ev.of (tickinglaw11_awake.mono) awake_k
end Go.Proofs.Ytdkncfmlehcjmaa.X
end

section
namespace Go.Proofs.Ytdkncfmlehcjmaa.X
open Go.RowKit Go.Proofs.YtdkncfmlehcjmaaW.PrintWords Go.Proofs.YtdkncfmlehcjmaaW.PrintLast Go.Proofs.YtdkncfmlehcjmaaW.PrintMore
attribute [local go_sem] max2_int min2_int max_two min_two max_three min_three max_four min_four   -- for this text's walks alone
set_option linter.unusedVariables false
set_option linter.unusedSimpArgs false

mutual
def tickingref11_Table.j0 : Nat → List (List Int) → Int → Bool → Option (Bool)
 | 0, _, _, _ => none
 | k + 1, x0, x3, x15 => if x15 = true then (some false) else (tickingref11_Table.l0 k x0 x3 0)
def tickingref11_Table.l0 : Nat → List (List Int) → Int → Int → Option (Bool)
 | 0, _, _, _ => none
 | k + 1, x0, x3, x4 => if x4 < x3 then (if 0 ≤ x4 then (if x4 < (x0.length : Int) then (if ((rd_L1 x0 x4).length : Int) = x3 then (tickingref11_Table.l0 k x0 x3 (wrap64 (x4 + 1))) else (some false)) else (none)) else (none)) else (tickingref11_Table.l1 k x0 x3 0)
def tickingref11_Table.l1 : Nat → List (List Int) → Int → Int → Option (Bool)
 | 0, _, _, _ => none
 | k + 1, x0, x3, x5 => if x5 < x3 then (tickingref11_Table.l2 k x0 x3 x5 0) else (some true)
def tickingref11_Table.l2 : Nat → List (List Int) → Int → Int → Int → Option (Bool)
 | 0, _, _, _, _ => none
 | k + 1, x0, x3, x5, x6 => if x6 < x3 then (if 0 ≤ x5 then (if x5 < (x0.length : Int) then (if 0 ≤ x6 then (if x6 < ((rd_L1 x0 x5).length : Int) then (if (rd (rd_L1 x0 x5) x6) < 0 then (tickingref11_Table.j4 k x0 x3 x5 x6 true) else (tickingref11_Table.j4 k x0 x3 x5 x6 (decide ((rd (rd_L1 x0 x5) x6) ≥ x3)))) else (none)) else (none)) else (none)) else (none)) else (tickingref11_Table.l1 k x0 x3 (wrap64 (x5 + 1)))
def tickingref11_Table.j4 : Nat → List (List Int) → Int → Int → Int → Bool → Option (Bool)
 | 0, _, _, _, _, _ => none
 | k + 1, x0, x3, x5, x6, x56 => if x56 = true then (some false) else (tickingref11_Table.l3 k x0 x3 x5 x6 0)
def tickingref11_Table.l3 : Nat → List (List Int) → Int → Int → Int → Int → Option (Bool)
 | 0, _, _, _, _, _ => none
 | k + 1, x0, x3, x5, x6, x7 => if x7 < x6 then (if 0 ≤ x5 then (if x5 < (x0.length : Int) then (if 0 ≤ x7 then (if x7 < ((rd_L1 x0 x5).length : Int) then (if 0 ≤ x6 then (if x6 < ((rd_L1 x0 x5).length : Int) then (if (rd (rd_L1 x0 x5) x7) = (rd (rd_L1 x0 x5) x6) then (some false) else (if x7 < (x0.length : Int) then (if x5 < ((rd_L1 x0 x7).length : Int) then (if x6 < (x0.length : Int) then (if x5 < ((rd_L1 x0 x6).length : Int) then (if (rd (rd_L1 x0 x7) x5) = (rd (rd_L1 x0 x6) x5) then (some false) else (tickingref11_Table.l3 k x0 x3 x5 x6 (wrap64 (x7 + 1)))) else (none)) else (none)) else (none)) else (none))) else (none)) else (none)) else (none)) else (none)) else (none)) else (none)) else (tickingref11_Table.l2 k x0 x3 x5 (wrap64 (x6 + 1)))
end
def tickingref11_Table.f (k : Nat) (l0 : List (List Int)) : Option (Bool) := if (l0.length : Int) < 2 then (tickingref11_Table.j0 k l0 (l0.length : Int) true) else (tickingref11_Table.j0 k l0 (l0.length : Int) (decide ((l0.length : Int) > 12)))
set_option maxHeartbeats 8000000 in
set_option maxRecDepth 100000 in
theorem tickingref11_Table.calls (k : Nat) (A0 : Option Addr) (c0 : Nat) (l0 : List (List Int)) (r : Bool) (w : World) (hr0 : Kd.C (Kd.slice 3 (Kd.int .i64)) w A0 l0.length l0) (hc0 : l0.length ≤ c0) (h : tickingref11_Table.f k l0 = some r) :
  Calls Try.prog 35 #[.slice A0 l0.length c0] w fun e w' => e = .returned (.bool r) ∧ Drawn0 w w' := by
 have HR0 := Aside0.mk hr0
 have HC0 := Aside0.mk hc0
 clear hr0 hc0
 have H : (if (l0.length : Int) < 2 then (tickingref11_Table.j0 k l0 (l0.length : Int) true) else (tickingref11_Table.j0 k l0 (l0.length : Int) (decide ((l0.length : Int) > 12)))) = some r := h
 clear h
 have HC2 := Aside0.mk H
 clear H
 go_enter Try.func35, Try.ntmps35
 go_upto_region 2 with (fail)
 repeat (go_quiet (fail); go_upto_region 2 with (fail))
 go_cut [15] (fun v15 wc => ∃ (kq : Nat) (x15_1 : Bool), v15 = .bool x15_1 ∧ Aside0 (tickingref11_Table.j0 kq l0 (l0.length : Int) x15_1 = some r) ∧ Aside0 (kq ≤ k) ∧ Drawn0 w wc)
 case first =>
  have H := HC2.out
  clear HC2
  by_cases c3 : (l0.length : Int) < 2
  ·rw [if_pos c3] at H
   have c3b0 : decide ((l0.length : Int) < 2) = true := decide_eq_true c3
   have c3b1 : decide (l0.length < 2) = true := decide_eq_true (by omega)
   clear c3
   (first | rw [c3b0] | (simp only [i64_w, i32_w]; rw [c3b0]) | skip)
   have H' := Aside0.mk H
   clear H
   go_wp2
   repeat (go_quiet (fail); try go_wp2)
   go_meet
   case rel => exact ⟨_, (true), (by first | rfl | (simp; done) | (simp [*]; done)), H', ⟨by first | omega | exact Nat.le_refl _⟩, by repeat (first | exact Drawn0.refl _ | apply Drawn0.step)⟩
  ·rw [if_neg c3] at H
   have c3b0 : decide ((l0.length : Int) < 2) = false := decide_eq_false c3
   have c3b1 : decide (l0.length < 2) = false := decide_eq_false (by omega)
   clear c3
   (first | rw [c3b0] | (simp only [i64_w, i32_w]; rw [c3b0]) | skip)
   have H' := Aside0.mk H
   clear H
   go_wp2
   repeat (go_quiet (fail); try go_wp2)
   go_meet
   case rel => exact ⟨_, (decide ((l0.length : Int) > 12)), (by first | rfl | (simp; done) | (simp [*]; done)), H', ⟨by first | omega | exact Nat.le_refl _⟩, by repeat (first | exact Drawn0.refl _ | apply Drawn0.step)⟩
 case rest =>
  clear HC2
  try clear p2
  try clear c3
  try clear c3b0
  try clear c3b1
  obtain ⟨kq, x15_1, rfl, HA, HJ1, ⟨mc1, rfl⟩⟩ := hcut
  cases kq with
  | zero => exact absurd HA.out (by simp [tickingref11_Table.j0])
  | succ kj1 =>
   have H := HA.out
   clear HA
   simp only [tickingref11_Table.j0] at H
   by_cases c4 : x15_1 = true
   ·subst c4
    have H1 : (some false) = some r := by rw [if_pos rfl] at H; exact H
    clear H
    have H := H1
    clear H1
    obtain rfl := Option.some.inj H
    go_wp2
    repeat (go_quiet (fail); try go_wp2)
    go_ret
    exact ⟨by first | rfl | (simp; done) | (simp [*]; done), by repeat (first | exact Drawn0.refl _ | apply Drawn0.step)⟩
   ·replace c4 := Bool.eq_false_iff.mpr c4
    subst c4
    have H1 : (tickingref11_Table.l0 kj1 l0 (l0.length : Int) 0) = some r := by rw [if_neg (show ¬ (false = true) by decide)] at H; exact H
    clear H
    have H := H1
    clear H1
    have H' := Aside0.mk H
    clear H
    go_wp2
    repeat (go_quiet (fail); try go_wp2)
    go_loopg [4] kj1 (fun kq v4 w' => ∃ (x4_2 : Int), v4 = .int .i64 x4_2 ∧ Aside0 (tickingref11_Table.l0 kq l0 (l0.length : Int) x4_2 = some r) ∧ Aside0 (kq ≤ kj1) ∧ Drawn0 w w')
    case atStart => exact ⟨(0), (by first | rfl | (simp; done) | (simp [*]; done)), H', ⟨Nat.le_refl _⟩, by repeat (first | exact Drawn0.refl _ | apply Drawn0.step)⟩
    case round =>
     clear H'
     try clear c1
     try clear p2
     try clear c3
     try clear c3b0
     try clear c3b1
     try clear c4
     try clear p2
     obtain ⟨x4_2, rfl, HA, HK2, ⟨m2, rfl⟩⟩ := hrel
     cases gk with
     | zero => exact absurd HA.out (by simp [tickingref11_Table.l0])
     | succ k2 =>
      have H := HA.out
      clear HA
      simp only [tickingref11_Table.l0] at H
      by_cases c5 : x4_2 < (l0.length : Int)
      ·rw [if_pos c5] at H
       have c5b0 : decide (x4_2 < (l0.length : Int)) = true := decide_eq_true c5
       clear c5
       by_cases c6 : 0 ≤ x4_2
       ·rw [if_pos c6] at H
        have c6b0 : decide (0 ≤ x4_2) = true := decide_eq_true c6
        clear c6
        by_cases c7 : x4_2 < (l0.length : Int)
        ·rw [if_pos c7] at H
         have c7b0 : decide (x4_2 < (l0.length : Int)) = true := decide_eq_true c7
         clear c7
         by_cases c8 : ((rd_L1 l0 x4_2).length : Int) = (l0.length : Int)
         ·rw [if_pos c8] at H
          have c8b0 : (((rd_L1 l0 x4_2).length : Int) == (l0.length : Int)) = true := beq_iff_eq.mpr c8
          have c8b1 : (((rd_L1 l0 x4_2).length : Int) != (l0.length : Int)) = false := bne_eq_false_iff_eq.mpr c8
          have c8b2 : ((rd_L1 l0 x4_2).length == l0.length) = true := by first | simpa using c8 | (simp at c8 ⊢; omega)
          clear c8
          have H' := Aside0.mk H
          clear H
          have p108 : 0 ≤ (x4_2 : Int) := of_decide_eq_true (by first | (with_reducible assumption) | assumption)
          have q108 : x4_2 < (l0.length : Int) := of_decide_eq_true (by first | (with_reducible assumption) | assumption)
          obtain ⟨ad108, A108_0, c108_0, e108, hx108_0, hl108_0, hi108_0⟩ := at_L1 HR0.out x4_2 p108 q108
          cases e108
          have HR108_0 := Aside0.mk hi108_0
          have HC108_0 := Aside0.mk hl108_0
          clear hi108_0 hl108_0
          replace p108 := eq_true p108
          replace q108 := eq_true q108
          go_wp2
          repeat (go_quiet (fail); try go_wp2)
          go_roundg k2
          case measure => have := HJ1.out; have := HK2.out; omega
          case rel => exact ⟨(wrap64 (x4_2 + 1)), (by first | rfl | (simp; done) | (simp [*]; done)), H', ⟨by have := HJ1.out; have := HK2.out; omega⟩, by repeat (first | exact Drawn0.refl _ | apply Drawn0.step)⟩
         ·rw [if_neg c8] at H
          have c8b0 : (((rd_L1 l0 x4_2).length : Int) == (l0.length : Int)) = false := beq_eq_false_iff_ne.mpr c8
          have c8b1 : (((rd_L1 l0 x4_2).length : Int) != (l0.length : Int)) = true := bne_iff_ne.mpr c8
          have c8b2 : ((rd_L1 l0 x4_2).length == l0.length) = false := by first | simpa using c8 | (simp at c8 ⊢; omega)
          obtain rfl := Option.some.inj H
          have p108 : 0 ≤ (x4_2 : Int) := of_decide_eq_true (by first | (with_reducible assumption) | assumption)
          have q108 : x4_2 < (l0.length : Int) := of_decide_eq_true (by first | (with_reducible assumption) | assumption)
          obtain ⟨ad108, A108_0, c108_0, e108, hx108_0, hl108_0, hi108_0⟩ := at_L1 HR0.out x4_2 p108 q108
          cases e108
          have HR108_0 := Aside0.mk hi108_0
          have HC108_0 := Aside0.mk hl108_0
          clear hi108_0 hl108_0
          replace p108 := eq_true p108
          replace q108 := eq_true q108
          go_wp2
          repeat (go_quiet (fail); try go_wp2)
          go_ret
          exact ⟨by first | rfl | (simp; done) | (simp [*]; done), by repeat (first | exact Drawn0.refl _ | apply Drawn0.step)⟩
        ·rw [if_neg c7] at H
         exact absurd H (by simp)
       ·rw [if_neg c6] at H
        exact absurd H (by simp)
      ·rw [if_neg c5] at H
       have c5b0 : decide (x4_2 < (l0.length : Int)) = false := decide_eq_false c5
       clear c5
       have H' := Aside0.mk H
       clear H
       go_wp2
       repeat (go_quiet (fail); try go_wp2)
       go_loopg [5] k2 (fun kq v5 w' => ∃ (x5_3 : Int), v5 = .int .i64 x5_3 ∧ Aside0 (tickingref11_Table.l1 kq l0 (l0.length : Int) x5_3 = some r) ∧ Aside0 (kq ≤ k2) ∧ Drawn0 w w')
       case atStart => exact ⟨(0), (by first | rfl | (simp; done) | (simp [*]; done)), H', ⟨Nat.le_refl _⟩, by repeat (first | exact Drawn0.refl _ | apply Drawn0.step)⟩
       case round =>
        clear H'
        try clear c1
        try clear p1
        try clear q1
        try clear hx1
        try clear p2
        try clear c3
        try clear c3b0
        try clear c3b1
        try clear c4
        try clear c5
        try clear c5b0
        try clear c6
        try clear c6b0
        try clear p6
        try clear c7
        try clear c7b0
        try clear c8
        try clear c8b0
        try clear c8b1
        try clear c8b2
        try clear hx108_0
        try clear p108
        try clear p2
        try clear q108
        obtain ⟨x5_3, rfl, HA, HK3, ⟨m3, rfl⟩⟩ := hrel
        cases gk with
        | zero => exact absurd HA.out (by simp [tickingref11_Table.l1])
        | succ k3 =>
         have H := HA.out
         clear HA
         simp only [tickingref11_Table.l1] at H
         by_cases c9 : x5_3 < (l0.length : Int)
         ·rw [if_pos c9] at H
          have c9b0 : decide (x5_3 < (l0.length : Int)) = true := decide_eq_true c9
          clear c9
          have H' := Aside0.mk H
          clear H
          go_wp2
          repeat (go_quiet (fail); try go_wp2)
          go_loopg [6] k3 (fun kq v6 w' => ∃ (x6_4 : Int), v6 = .int .i64 x6_4 ∧ Aside0 (tickingref11_Table.l2 kq l0 (l0.length : Int) x5_3 x6_4 = some r) ∧ Aside0 (kq ≤ k3) ∧ Drawn0 w w')
          case atStart => exact ⟨(0), (by first | rfl | (simp; done) | (simp [*]; done)), H', ⟨Nat.le_refl _⟩, by repeat (first | exact Drawn0.refl _ | apply Drawn0.step)⟩
          case round =>
           clear H'
           try clear c1
           try clear p1
           try clear q1
           try clear hx1
           try clear p2
           try clear c3
           try clear c3b0
           try clear c3b1
           try clear c4
           try clear c5
           try clear c5b0
           try clear c6
           try clear c6b0
           try clear p6
           try clear c7
           try clear c7b0
           try clear c8
           try clear c8b0
           try clear c8b1
           try clear c8b2
           try clear c9
           try clear c9b0
           try clear hx108_0
           try clear p1
           try clear p108
           try clear p2
           try clear p6
           try clear q1
           try clear q108
           obtain ⟨x6_4, rfl, HA, HK4, ⟨m4, rfl⟩⟩ := hrel
           cases gk with
           | zero => exact absurd HA.out (by simp [tickingref11_Table.l2])
           | succ k4 =>
            have H := HA.out
            clear HA
            simp only [tickingref11_Table.l2] at H
            by_cases c10 : x6_4 < (l0.length : Int)
            ·rw [if_pos c10] at H
             have c10b0 : decide (x6_4 < (l0.length : Int)) = true := decide_eq_true c10
             clear c10
             have HC11 := Aside0.mk H
             clear H
             go_upto_region 15 with (fail)
             repeat (go_quiet (fail); go_upto_region 15 with (fail))
             go_cut [56] (fun v56 wc => ∃ (kq : Nat) (x56_10 : Bool), v56 = .bool x56_10 ∧ Aside0 (tickingref11_Table.j4 kq l0 (l0.length : Int) x5_3 x6_4 x56_10 = some r) ∧ Aside0 (kq ≤ k4) ∧ Drawn0 w wc)
             case first =>
              have H := HC11.out
              clear HC11
              by_cases c12 : 0 ≤ x5_3
              ·rw [if_pos c12] at H
               have c12b0 : decide (0 ≤ x5_3) = true := decide_eq_true c12
               clear c12
               (first | rw [c12b0] | (simp only [i64_w, i32_w]; rw [c12b0]) | skip)
               by_cases c13 : x5_3 < (l0.length : Int)
               ·rw [if_pos c13] at H
                have c13b0 : decide (x5_3 < (l0.length : Int)) = true := decide_eq_true c13
                clear c13
                by_cases c14 : 0 ≤ x6_4
                ·rw [if_pos c14] at H
                 have c14b0 : decide (0 ≤ x6_4) = true := decide_eq_true c14
                 clear c14
                 by_cases c15 : x6_4 < ((rd_L1 l0 x5_3).length : Int)
                 ·rw [if_pos c15] at H
                  have c15b0 : decide (x6_4 < ((rd_L1 l0 x5_3).length : Int)) = true := decide_eq_true c15
                  clear c15
                  by_cases c16 : (rd (rd_L1 l0 x5_3) x6_4) < 0
                  ·rw [if_pos c16] at H
                   have c16b0 : decide ((rd (rd_L1 l0 x5_3) x6_4) < 0) = true := decide_eq_true c16
                   clear c16
                   have H' := Aside0.mk H
                   clear H
                   have p109 : 0 ≤ (x5_3 : Int) := of_decide_eq_true (by first | (with_reducible assumption) | assumption)
                   have q109 : x5_3 < (l0.length : Int) := of_decide_eq_true (by first | (with_reducible assumption) | assumption)
                   obtain ⟨ad109, A109_0, c109_0, e109, hx109_0, hl109_0, hi109_0⟩ := at_L1 HR0.out x5_3 p109 q109
                   cases e109
                   have HR109_0 := Aside0.mk hi109_0
                   have HC109_0 := Aside0.mk hl109_0
                   clear hi109_0 hl109_0
                   replace p109 := eq_true p109
                   replace q109 := eq_true q109
                   have p110 : 0 ≤ (x6_4 : Int) := of_decide_eq_true (by first | (with_reducible assumption) | assumption)
                   have q110 : x6_4 < ((rd_L1 l0 x5_3).length : Int) := of_decide_eq_true (by first | (with_reducible assumption) | assumption)
                   obtain ⟨ad110, e110, hx110_0⟩ := Kd.at_int HR109_0.out x6_4 p110 q110
                   cases e110
                   replace p110 := eq_true p110
                   replace q110 := eq_true q110
                   go_wp2
                   repeat (go_quiet (fail); try go_wp2)
                   go_meet
                   case rel => exact ⟨_, (true), (by first | rfl | (simp; done) | (simp [*]; done)), H', ⟨by have := HJ1.out; have := HK2.out; have := HK3.out; have := HK4.out; first | omega | exact Nat.le_refl _⟩, by repeat (first | exact Drawn0.refl _ | apply Drawn0.step)⟩
                  ·rw [if_neg c16] at H
                   have c16b0 : decide ((rd (rd_L1 l0 x5_3) x6_4) < 0) = false := decide_eq_false c16
                   clear c16
                   have H' := Aside0.mk H
                   clear H
                   have p109 : 0 ≤ (x5_3 : Int) := of_decide_eq_true (by first | (with_reducible assumption) | assumption)
                   have q109 : x5_3 < (l0.length : Int) := of_decide_eq_true (by first | (with_reducible assumption) | assumption)
                   obtain ⟨ad109, A109_0, c109_0, e109, hx109_0, hl109_0, hi109_0⟩ := at_L1 HR0.out x5_3 p109 q109
                   cases e109
                   have HR109_0 := Aside0.mk hi109_0
                   have HC109_0 := Aside0.mk hl109_0
                   clear hi109_0 hl109_0
                   replace p109 := eq_true p109
                   replace q109 := eq_true q109
                   have p110 : 0 ≤ (x6_4 : Int) := of_decide_eq_true (by first | (with_reducible assumption) | assumption)
                   have q110 : x6_4 < ((rd_L1 l0 x5_3).length : Int) := of_decide_eq_true (by first | (with_reducible assumption) | assumption)
                   obtain ⟨ad110, e110, hx110_0⟩ := Kd.at_int HR109_0.out x6_4 p110 q110
                   cases e110
                   replace p110 := eq_true p110
                   replace q110 := eq_true q110
                   have p111 : 0 ≤ (x5_3 : Int) := of_decide_eq_true (by first | (with_reducible assumption) | assumption)
                   have q111 : x5_3 < (l0.length : Int) := of_decide_eq_true (by first | (with_reducible assumption) | assumption)
                   obtain ⟨ad111, A111_0, c111_0, e111, hx111_0, hl111_0, hi111_0⟩ := at_L1 HR0.out x5_3 p111 q111
                   obtain rfl : ad109 = ad111 := (by injection e111)
                   have HR111_0 := Aside0.mk hi111_0
                   have HC111_0 := Aside0.mk hl111_0
                   clear hi111_0 hl111_0
                   replace p111 := eq_true p111
                   replace q111 := eq_true q111
                   have ea_ := Option.some.inj (hx109_0.symm.trans hx111_0)
                   injection ea_ with ea_ en_ ec_
                   subst ea_
                   subst ec_
                   clear en_
                   have p112 : 0 ≤ (x6_4 : Int) := of_decide_eq_true (by first | (with_reducible assumption) | assumption)
                   have q112 : x6_4 < ((rd_L1 l0 x5_3).length : Int) := of_decide_eq_true (by first | (with_reducible assumption) | assumption)
                   obtain ⟨ad112, e112, hx112_0⟩ := Kd.at_int HR111_0.out x6_4 p112 q112
                   cases e112
                   replace p112 := eq_true p112
                   replace q112 := eq_true q112
                   go_wp2
                   repeat (go_quiet (fail); try go_wp2)
                   go_meet
                   case rel => exact ⟨_, (decide ((rd (rd_L1 l0 x5_3) x6_4) ≥ (l0.length : Int))), (by first | rfl | (simp; done) | (simp [*]; done)), H', ⟨by have := HJ1.out; have := HK2.out; have := HK3.out; have := HK4.out; first | omega | exact Nat.le_refl _⟩, by repeat (first | exact Drawn0.refl _ | apply Drawn0.step)⟩
                 ·rw [if_neg c15] at H
                  exact absurd H (by simp)
                ·rw [if_neg c14] at H
                 exact absurd H (by simp)
               ·rw [if_neg c13] at H
                exact absurd H (by simp)
              ·rw [if_neg c12] at H
               exact absurd H (by simp)
             case rest =>
              clear HC11
              try clear c1
              try clear p1
              try clear q1
              try clear hx1
              try clear p2
              try clear c3
              try clear c3b0
              try clear c3b1
              try clear c4
              try clear c5
              try clear c5b0
              try clear c6
              try clear c6b0
              try clear p6
              try clear c7
              try clear c7b0
              try clear c8
              try clear c8b0
              try clear c8b1
              try clear c8b2
              try clear c9
              try clear c9b0
              try clear c10
              try clear c10b0
              try clear p10
              try clear q10
              try clear hx10
              try clear c11
              try clear p11
              try clear q11
              try clear hx11
              try clear c12
              try clear c12b0
              try clear c13
              try clear c13b0
              try clear c14
              try clear c14b0
              try clear c15
              try clear c15b0
              try clear c16
              try clear c16b0
              try clear hx108_0
              try clear hx109_0
              try clear hx110_0
              try clear hx111_0
              try clear hx112_0
              try clear p1
              try clear p108
              try clear p109
              try clear p110
              try clear p111
              try clear p112
              try clear p2
              try clear p6
              try clear q1
              try clear q108
              try clear q109
              try clear q110
              try clear q111
              try clear q112
              obtain ⟨kq, x56_10, rfl, HA, HJ10, ⟨mc10, rfl⟩⟩ := hcut
              cases kq with
              | zero => exact absurd HA.out (by simp [tickingref11_Table.j4])
              | succ kj10 =>
               have H := HA.out
               clear HA
               simp only [tickingref11_Table.j4] at H
               by_cases c17 : x56_10 = true
               ·subst c17
                have H1 : (some false) = some r := by rw [if_pos rfl] at H; exact H
                clear H
                have H := H1
                clear H1
                obtain rfl := Option.some.inj H
                go_wp2
                repeat (go_quiet (fail); try go_wp2)
                go_ret
                exact ⟨by first | rfl | (simp; done) | (simp [*]; done), by repeat (first | exact Drawn0.refl _ | apply Drawn0.step)⟩
               ·replace c17 := Bool.eq_false_iff.mpr c17
                subst c17
                have H1 : (tickingref11_Table.l3 kj10 l0 (l0.length : Int) x5_3 x6_4 0) = some r := by rw [if_neg (show ¬ (false = true) by decide)] at H; exact H
                clear H
                have H := H1
                clear H1
                have H' := Aside0.mk H
                clear H
                go_wp2
                repeat (go_quiet (fail); try go_wp2)
                go_loopg [7] kj10 (fun kq v7 w' => ∃ (x7_6 : Int), v7 = .int .i64 x7_6 ∧ Aside0 (tickingref11_Table.l3 kq l0 (l0.length : Int) x5_3 x6_4 x7_6 = some r) ∧ Aside0 (kq ≤ kj10) ∧ Drawn0 w w')
                case atStart => exact ⟨(0), (by first | rfl | (simp; done) | (simp [*]; done)), H', ⟨Nat.le_refl _⟩, by repeat (first | exact Drawn0.refl _ | apply Drawn0.step)⟩
                case round =>
                 clear H'
                 try clear c1
                 try clear p1
                 try clear q1
                 try clear hx1
                 try clear p2
                 try clear c3
                 try clear c3b0
                 try clear c3b1
                 try clear c4
                 try clear c5
                 try clear c5b0
                 try clear c6
                 try clear c6b0
                 try clear p6
                 try clear c7
                 try clear c7b0
                 try clear c8
                 try clear c8b0
                 try clear c8b1
                 try clear c8b2
                 try clear c9
                 try clear c9b0
                 try clear c10
                 try clear c10b0
                 try clear p10
                 try clear q10
                 try clear hx10
                 try clear c11
                 try clear p11
                 try clear q11
                 try clear hx11
                 try clear c12
                 try clear c12b0
                 try clear c13
                 try clear c13b0
                 try clear c14
                 try clear c14b0
                 try clear c15
                 try clear c15b0
                 try clear c16
                 try clear c16b0
                 try clear c17
                 try clear hx108_0
                 try clear hx109_0
                 try clear hx110_0
                 try clear hx111_0
                 try clear hx112_0
                 try clear p1
                 try clear p10
                 try clear p108
                 try clear p109
                 try clear p11
                 try clear p110
                 try clear p111
                 try clear p112
                 try clear p2
                 try clear p6
                 try clear q1
                 try clear q10
                 try clear q108
                 try clear q109
                 try clear q11
                 try clear q110
                 try clear q111
                 try clear q112
                 obtain ⟨x7_6, rfl, HA, HK6, ⟨m6, rfl⟩⟩ := hrel
                 cases gk with
                 | zero => exact absurd HA.out (by simp [tickingref11_Table.l3])
                 | succ k6 =>
                  have H := HA.out
                  clear HA
                  simp only [tickingref11_Table.l3] at H
                  by_cases c18 : x7_6 < x6_4
                  ·rw [if_pos c18] at H
                   have c18b0 : decide (x7_6 < x6_4) = true := decide_eq_true c18
                   clear c18
                   by_cases c19 : 0 ≤ x5_3
                   ·rw [if_pos c19] at H
                    have c19b0 : decide (0 ≤ x5_3) = true := decide_eq_true c19
                    clear c19
                    by_cases c20 : x5_3 < (l0.length : Int)
                    ·rw [if_pos c20] at H
                     have c20b0 : decide (x5_3 < (l0.length : Int)) = true := decide_eq_true c20
                     clear c20
                     by_cases c21 : 0 ≤ x7_6
                     ·rw [if_pos c21] at H
                      have c21b0 : decide (0 ≤ x7_6) = true := decide_eq_true c21
                      clear c21
                      by_cases c22 : x7_6 < ((rd_L1 l0 x5_3).length : Int)
                      ·rw [if_pos c22] at H
                       have c22b0 : decide (x7_6 < ((rd_L1 l0 x5_3).length : Int)) = true := decide_eq_true c22
                       clear c22
                       by_cases c23 : 0 ≤ x6_4
                       ·rw [if_pos c23] at H
                        have c23b0 : decide (0 ≤ x6_4) = true := decide_eq_true c23
                        clear c23
                        by_cases c24 : x6_4 < ((rd_L1 l0 x5_3).length : Int)
                        ·rw [if_pos c24] at H
                         have c24b0 : decide (x6_4 < ((rd_L1 l0 x5_3).length : Int)) = true := decide_eq_true c24
                         clear c24
                         by_cases c25 : (rd (rd_L1 l0 x5_3) x7_6) = (rd (rd_L1 l0 x5_3) x6_4)
                         ·rw [if_pos c25] at H
                          have c25b0 : ((rd (rd_L1 l0 x5_3) x7_6) == (rd (rd_L1 l0 x5_3) x6_4)) = true := beq_iff_eq.mpr c25
                          have c25b1 : ((rd (rd_L1 l0 x5_3) x7_6) != (rd (rd_L1 l0 x5_3) x6_4)) = false := bne_eq_false_iff_eq.mpr c25
                          clear c25
                          obtain rfl := Option.some.inj H
                          have p113 : 0 ≤ (x5_3 : Int) := of_decide_eq_true (by first | (with_reducible assumption) | assumption)
                          have q113 : x5_3 < (l0.length : Int) := of_decide_eq_true (by first | (with_reducible assumption) | assumption)
                          obtain ⟨ad113, A113_0, c113_0, e113, hx113_0, hl113_0, hi113_0⟩ := at_L1 HR0.out x5_3 p113 q113
                          cases e113
                          have HR113_0 := Aside0.mk hi113_0
                          have HC113_0 := Aside0.mk hl113_0
                          clear hi113_0 hl113_0
                          replace p113 := eq_true p113
                          replace q113 := eq_true q113
                          have p114 : 0 ≤ (x7_6 : Int) := of_decide_eq_true (by first | (with_reducible assumption) | assumption)
                          have q114 : x7_6 < ((rd_L1 l0 x5_3).length : Int) := of_decide_eq_true (by first | (with_reducible assumption) | assumption)
                          obtain ⟨ad114, e114, hx114_0⟩ := Kd.at_int HR113_0.out x7_6 p114 q114
                          cases e114
                          replace p114 := eq_true p114
                          replace q114 := eq_true q114
                          have p115 : 0 ≤ (x5_3 : Int) := of_decide_eq_true (by first | (with_reducible assumption) | assumption)
                          have q115 : x5_3 < (l0.length : Int) := of_decide_eq_true (by first | (with_reducible assumption) | assumption)
                          obtain ⟨ad115, A115_0, c115_0, e115, hx115_0, hl115_0, hi115_0⟩ := at_L1 HR0.out x5_3 p115 q115
                          obtain rfl : ad113 = ad115 := (by injection e115)
                          have HR115_0 := Aside0.mk hi115_0
                          have HC115_0 := Aside0.mk hl115_0
                          clear hi115_0 hl115_0
                          replace p115 := eq_true p115
                          replace q115 := eq_true q115
                          have ea_ := Option.some.inj (hx113_0.symm.trans hx115_0)
                          injection ea_ with ea_ en_ ec_
                          subst ea_
                          subst ec_
                          clear en_
                          have p116 : 0 ≤ (x6_4 : Int) := of_decide_eq_true (by first | (with_reducible assumption) | assumption)
                          have q116 : x6_4 < ((rd_L1 l0 x5_3).length : Int) := of_decide_eq_true (by first | (with_reducible assumption) | assumption)
                          obtain ⟨ad116, e116, hx116_0⟩ := Kd.at_int HR115_0.out x6_4 p116 q116
                          cases e116
                          replace p116 := eq_true p116
                          replace q116 := eq_true q116
                          go_wp2
                          repeat (go_quiet (fail); try go_wp2)
                          go_ret
                          exact ⟨by first | rfl | (simp; done) | (simp [*]; done), by repeat (first | exact Drawn0.refl _ | apply Drawn0.step)⟩
                         ·rw [if_neg c25] at H
                          have c25b0 : ((rd (rd_L1 l0 x5_3) x7_6) == (rd (rd_L1 l0 x5_3) x6_4)) = false := beq_eq_false_iff_ne.mpr c25
                          have c25b1 : ((rd (rd_L1 l0 x5_3) x7_6) != (rd (rd_L1 l0 x5_3) x6_4)) = true := bne_iff_ne.mpr c25
                          by_cases c26 : x7_6 < (l0.length : Int)
                          ·rw [if_pos c26] at H
                           have c26b0 : decide (x7_6 < (l0.length : Int)) = true := decide_eq_true c26
                           clear c26
                           by_cases c27 : x5_3 < ((rd_L1 l0 x7_6).length : Int)
                           ·rw [if_pos c27] at H
                            have c27b0 : decide (x5_3 < ((rd_L1 l0 x7_6).length : Int)) = true := decide_eq_true c27
                            clear c27
                            by_cases c28 : x6_4 < (l0.length : Int)
                            ·rw [if_pos c28] at H
                             have c28b0 : decide (x6_4 < (l0.length : Int)) = true := decide_eq_true c28
                             clear c28
                             by_cases c29 : x5_3 < ((rd_L1 l0 x6_4).length : Int)
                             ·rw [if_pos c29] at H
                              have c29b0 : decide (x5_3 < ((rd_L1 l0 x6_4).length : Int)) = true := decide_eq_true c29
                              clear c29
                              by_cases c30 : (rd (rd_L1 l0 x7_6) x5_3) = (rd (rd_L1 l0 x6_4) x5_3)
                              ·rw [if_pos c30] at H
                               have c30b0 : ((rd (rd_L1 l0 x7_6) x5_3) == (rd (rd_L1 l0 x6_4) x5_3)) = true := beq_iff_eq.mpr c30
                               have c30b1 : ((rd (rd_L1 l0 x7_6) x5_3) != (rd (rd_L1 l0 x6_4) x5_3)) = false := bne_eq_false_iff_eq.mpr c30
                               clear c30
                               obtain rfl := Option.some.inj H
                               have p113 : 0 ≤ (x5_3 : Int) := of_decide_eq_true (by first | (with_reducible assumption) | assumption)
                               have q113 : x5_3 < (l0.length : Int) := of_decide_eq_true (by first | (with_reducible assumption) | assumption)
                               obtain ⟨ad113, A113_0, c113_0, e113, hx113_0, hl113_0, hi113_0⟩ := at_L1 HR0.out x5_3 p113 q113
                               cases e113
                               have HR113_0 := Aside0.mk hi113_0
                               have HC113_0 := Aside0.mk hl113_0
                               clear hi113_0 hl113_0
                               replace p113 := eq_true p113
                               replace q113 := eq_true q113
                               have p114 : 0 ≤ (x7_6 : Int) := of_decide_eq_true (by first | (with_reducible assumption) | assumption)
                               have q114 : x7_6 < ((rd_L1 l0 x5_3).length : Int) := of_decide_eq_true (by first | (with_reducible assumption) | assumption)
                               obtain ⟨ad114, e114, hx114_0⟩ := Kd.at_int HR113_0.out x7_6 p114 q114
                               cases e114
                               replace p114 := eq_true p114
                               replace q114 := eq_true q114
                               have p115 : 0 ≤ (x5_3 : Int) := of_decide_eq_true (by first | (with_reducible assumption) | assumption)
                               have q115 : x5_3 < (l0.length : Int) := of_decide_eq_true (by first | (with_reducible assumption) | assumption)
                               obtain ⟨ad115, A115_0, c115_0, e115, hx115_0, hl115_0, hi115_0⟩ := at_L1 HR0.out x5_3 p115 q115
                               obtain rfl : ad113 = ad115 := (by injection e115)
                               have HR115_0 := Aside0.mk hi115_0
                               have HC115_0 := Aside0.mk hl115_0
                               clear hi115_0 hl115_0
                               replace p115 := eq_true p115
                               replace q115 := eq_true q115
                               have ea_ := Option.some.inj (hx113_0.symm.trans hx115_0)
                               injection ea_ with ea_ en_ ec_
                               subst ea_
                               subst ec_
                               clear en_
                               have p116 : 0 ≤ (x6_4 : Int) := of_decide_eq_true (by first | (with_reducible assumption) | assumption)
                               have q116 : x6_4 < ((rd_L1 l0 x5_3).length : Int) := of_decide_eq_true (by first | (with_reducible assumption) | assumption)
                               obtain ⟨ad116, e116, hx116_0⟩ := Kd.at_int HR115_0.out x6_4 p116 q116
                               cases e116
                               replace p116 := eq_true p116
                               replace q116 := eq_true q116
                               have p117 : 0 ≤ (x7_6 : Int) := of_decide_eq_true (by first | (with_reducible assumption) | assumption)
                               have q117 : x7_6 < (l0.length : Int) := of_decide_eq_true (by first | (with_reducible assumption) | assumption)
                               obtain ⟨ad117, A117_0, c117_0, e117, hx117_0, hl117_0, hi117_0⟩ := at_L1 HR0.out x7_6 p117 q117
                               obtain rfl : ad113 = ad117 := (by injection e117)
                               have HR117_0 := Aside0.mk hi117_0
                               have HC117_0 := Aside0.mk hl117_0
                               clear hi117_0 hl117_0
                               replace p117 := eq_true p117
                               replace q117 := eq_true q117
                               have p118 : 0 ≤ (x5_3 : Int) := of_decide_eq_true (by first | (with_reducible assumption) | assumption)
                               have q118 : x5_3 < ((rd_L1 l0 x7_6).length : Int) := of_decide_eq_true (by first | (with_reducible assumption) | assumption)
                               obtain ⟨ad118, e118, hx118_0⟩ := Kd.at_int HR117_0.out x5_3 p118 q118
                               cases e118
                               replace p118 := eq_true p118
                               replace q118 := eq_true q118
                               have p119 : 0 ≤ (x6_4 : Int) := of_decide_eq_true (by first | (with_reducible assumption) | assumption)
                               have q119 : x6_4 < (l0.length : Int) := of_decide_eq_true (by first | (with_reducible assumption) | assumption)
                               obtain ⟨ad119, A119_0, c119_0, e119, hx119_0, hl119_0, hi119_0⟩ := at_L1 HR0.out x6_4 p119 q119
                               obtain rfl : ad113 = ad119 := (by injection e119)
                               have HR119_0 := Aside0.mk hi119_0
                               have HC119_0 := Aside0.mk hl119_0
                               clear hi119_0 hl119_0
                               replace p119 := eq_true p119
                               replace q119 := eq_true q119
                               have p120 : 0 ≤ (x5_3 : Int) := of_decide_eq_true (by first | (with_reducible assumption) | assumption)
                               have q120 : x5_3 < ((rd_L1 l0 x6_4).length : Int) := of_decide_eq_true (by first | (with_reducible assumption) | assumption)
                               obtain ⟨ad120, e120, hx120_0⟩ := Kd.at_int HR119_0.out x5_3 p120 q120
                               cases e120
                               replace p120 := eq_true p120
                               replace q120 := eq_true q120
                               go_wp2
                               repeat (go_quiet (fail); try go_wp2)
                               go_ret
                               exact ⟨by first | rfl | (simp; done) | (simp [*]; done), by repeat (first | exact Drawn0.refl _ | apply Drawn0.step)⟩
                              ·rw [if_neg c30] at H
                               have c30b0 : ((rd (rd_L1 l0 x7_6) x5_3) == (rd (rd_L1 l0 x6_4) x5_3)) = false := beq_eq_false_iff_ne.mpr c30
                               have c30b1 : ((rd (rd_L1 l0 x7_6) x5_3) != (rd (rd_L1 l0 x6_4) x5_3)) = true := bne_iff_ne.mpr c30
                               have H' := Aside0.mk H
                               clear H
                               have p113 : 0 ≤ (x5_3 : Int) := of_decide_eq_true (by first | (with_reducible assumption) | assumption)
                               have q113 : x5_3 < (l0.length : Int) := of_decide_eq_true (by first | (with_reducible assumption) | assumption)
                               obtain ⟨ad113, A113_0, c113_0, e113, hx113_0, hl113_0, hi113_0⟩ := at_L1 HR0.out x5_3 p113 q113
                               cases e113
                               have HR113_0 := Aside0.mk hi113_0
                               have HC113_0 := Aside0.mk hl113_0
                               clear hi113_0 hl113_0
                               replace p113 := eq_true p113
                               replace q113 := eq_true q113
                               have p114 : 0 ≤ (x7_6 : Int) := of_decide_eq_true (by first | (with_reducible assumption) | assumption)
                               have q114 : x7_6 < ((rd_L1 l0 x5_3).length : Int) := of_decide_eq_true (by first | (with_reducible assumption) | assumption)
                               obtain ⟨ad114, e114, hx114_0⟩ := Kd.at_int HR113_0.out x7_6 p114 q114
                               cases e114
                               replace p114 := eq_true p114
                               replace q114 := eq_true q114
                               have p115 : 0 ≤ (x5_3 : Int) := of_decide_eq_true (by first | (with_reducible assumption) | assumption)
                               have q115 : x5_3 < (l0.length : Int) := of_decide_eq_true (by first | (with_reducible assumption) | assumption)
                               obtain ⟨ad115, A115_0, c115_0, e115, hx115_0, hl115_0, hi115_0⟩ := at_L1 HR0.out x5_3 p115 q115
                               obtain rfl : ad113 = ad115 := (by injection e115)
                               have HR115_0 := Aside0.mk hi115_0
                               have HC115_0 := Aside0.mk hl115_0
                               clear hi115_0 hl115_0
                               replace p115 := eq_true p115
                               replace q115 := eq_true q115
                               have ea_ := Option.some.inj (hx113_0.symm.trans hx115_0)
                               injection ea_ with ea_ en_ ec_
                               subst ea_
                               subst ec_
                               clear en_
                               have p116 : 0 ≤ (x6_4 : Int) := of_decide_eq_true (by first | (with_reducible assumption) | assumption)
                               have q116 : x6_4 < ((rd_L1 l0 x5_3).length : Int) := of_decide_eq_true (by first | (with_reducible assumption) | assumption)
                               obtain ⟨ad116, e116, hx116_0⟩ := Kd.at_int HR115_0.out x6_4 p116 q116
                               cases e116
                               replace p116 := eq_true p116
                               replace q116 := eq_true q116
                               have p117 : 0 ≤ (x7_6 : Int) := of_decide_eq_true (by first | (with_reducible assumption) | assumption)
                               have q117 : x7_6 < (l0.length : Int) := of_decide_eq_true (by first | (with_reducible assumption) | assumption)
                               obtain ⟨ad117, A117_0, c117_0, e117, hx117_0, hl117_0, hi117_0⟩ := at_L1 HR0.out x7_6 p117 q117
                               obtain rfl : ad113 = ad117 := (by injection e117)
                               have HR117_0 := Aside0.mk hi117_0
                               have HC117_0 := Aside0.mk hl117_0
                               clear hi117_0 hl117_0
                               replace p117 := eq_true p117
                               replace q117 := eq_true q117
                               have p118 : 0 ≤ (x5_3 : Int) := of_decide_eq_true (by first | (with_reducible assumption) | assumption)
                               have q118 : x5_3 < ((rd_L1 l0 x7_6).length : Int) := of_decide_eq_true (by first | (with_reducible assumption) | assumption)
                               obtain ⟨ad118, e118, hx118_0⟩ := Kd.at_int HR117_0.out x5_3 p118 q118
                               cases e118
                               replace p118 := eq_true p118
                               replace q118 := eq_true q118
                               have p119 : 0 ≤ (x6_4 : Int) := of_decide_eq_true (by first | (with_reducible assumption) | assumption)
                               have q119 : x6_4 < (l0.length : Int) := of_decide_eq_true (by first | (with_reducible assumption) | assumption)
                               obtain ⟨ad119, A119_0, c119_0, e119, hx119_0, hl119_0, hi119_0⟩ := at_L1 HR0.out x6_4 p119 q119
                               obtain rfl : ad113 = ad119 := (by injection e119)
                               have HR119_0 := Aside0.mk hi119_0
                               have HC119_0 := Aside0.mk hl119_0
                               clear hi119_0 hl119_0
                               replace p119 := eq_true p119
                               replace q119 := eq_true q119
                               have p120 : 0 ≤ (x5_3 : Int) := of_decide_eq_true (by first | (with_reducible assumption) | assumption)
                               have q120 : x5_3 < ((rd_L1 l0 x6_4).length : Int) := of_decide_eq_true (by first | (with_reducible assumption) | assumption)
                               obtain ⟨ad120, e120, hx120_0⟩ := Kd.at_int HR119_0.out x5_3 p120 q120
                               cases e120
                               replace p120 := eq_true p120
                               replace q120 := eq_true q120
                               go_wp2
                               repeat (go_quiet (fail); try go_wp2)
                               go_roundg k6
                               case measure => have := HJ1.out; have := HK2.out; have := HK3.out; have := HK4.out; have := HJ10.out; have := HK6.out; omega
                               case rel => exact ⟨(wrap64 (x7_6 + 1)), (by first | rfl | (simp; done) | (simp [*]; done)), H', ⟨by have := HJ1.out; have := HK2.out; have := HK3.out; have := HK4.out; have := HJ10.out; have := HK6.out; omega⟩, by repeat (first | exact Drawn0.refl _ | apply Drawn0.step)⟩
                             ·rw [if_neg c29] at H
                              exact absurd H (by simp)
                            ·rw [if_neg c28] at H
                             exact absurd H (by simp)
                           ·rw [if_neg c27] at H
                            exact absurd H (by simp)
                          ·rw [if_neg c26] at H
                           exact absurd H (by simp)
                        ·rw [if_neg c24] at H
                         exact absurd H (by simp)
                       ·rw [if_neg c23] at H
                        exact absurd H (by simp)
                      ·rw [if_neg c22] at H
                       exact absurd H (by simp)
                     ·rw [if_neg c21] at H
                      exact absurd H (by simp)
                    ·rw [if_neg c20] at H
                     exact absurd H (by simp)
                   ·rw [if_neg c19] at H
                    exact absurd H (by simp)
                  ·rw [if_neg c18] at H
                   have c18b0 : decide (x7_6 < x6_4) = false := decide_eq_false c18
                   clear c18
                   have H' := Aside0.mk H
                   clear H
                   go_wp2
                   repeat (go_quiet (fail); try go_wp2)
                   go_roundg k6
                   case measure => have := HJ1.out; have := HK2.out; have := HK3.out; have := HK4.out; have := HJ10.out; have := HK6.out; omega
                   case rel => exact ⟨(wrap64 (x6_4 + 1)), (by first | rfl | (simp; done) | (simp [*]; done)), H', ⟨by have := HJ1.out; have := HK2.out; have := HK3.out; have := HK4.out; have := HJ10.out; have := HK6.out; omega⟩, by repeat (first | exact Drawn0.refl _ | apply Drawn0.step)⟩
            ·rw [if_neg c10] at H
             have c10b0 : decide (x6_4 < (l0.length : Int)) = false := decide_eq_false c10
             clear c10
             have H' := Aside0.mk H
             clear H
             go_wp2
             repeat (go_quiet (fail); try go_wp2)
             go_roundg k4
             case measure => have := HJ1.out; have := HK2.out; have := HK3.out; have := HK4.out; omega
             case rel => exact ⟨(wrap64 (x5_3 + 1)), (by first | rfl | (simp; done) | (simp [*]; done)), H', ⟨by have := HJ1.out; have := HK2.out; have := HK3.out; have := HK4.out; omega⟩, by repeat (first | exact Drawn0.refl _ | apply Drawn0.step)⟩
         ·rw [if_neg c9] at H
          have c9b0 : decide (x5_3 < (l0.length : Int)) = false := decide_eq_false c9
          clear c9
          obtain rfl := Option.some.inj H
          go_wp2
          repeat (go_quiet (fail); try go_wp2)
          go_ret
          exact ⟨by first | rfl | (simp; done) | (simp [*]; done), by repeat (first | exact Drawn0.refl _ | apply Drawn0.step)⟩

end Go.Proofs.Ytdkncfmlehcjmaa.X
end

section
namespace Go.Proofs.Ytdkncfmlehcjmaa.X
open Go.RowKit Go.Proofs.YtdkncfmlehcjmaaW.PrintWords Go.Proofs.YtdkncfmlehcjmaaW.PrintLast Go.Proofs.YtdkncfmlehcjmaaW.PrintMore
attribute [local go_sem] max2_int min2_int max_two min_two max_three min_three max_four min_four   -- for this text's walks alone
set_option linter.unusedVariables false
set_option linter.unusedSimpArgs false

def tickingref11_Digits.l0 : Nat → List Int → Int → Int → Int → Option (Bool)
 | 0, _, _, _, _ => none
 | k + 1, x0, x1, x2, x7 => if x7 < (x0.length : Int) then (if 0 ≤ x7 then (if (rd x0 x7) < 0 then (some false) else (if (rd x0 x7) ≥ x2 then (some false) else (tickingref11_Digits.l0 k x0 x1 x2 (wrap64 (x7 + 1))))) else (none)) else (some (decide ((x0.length : Int) ≤ x1)))
def tickingref11_Digits.f (k : Nat) (l0 : List Int) (a1 : Int) (a2 : Int) : Option (Bool) := tickingref11_Digits.l0 k l0 a1 a2 0
end Go.Proofs.Ytdkncfmlehcjmaa.X
end

section
/- More of layer 11 in plain words: tables, digits, traces, the digit that makes a number sound. -/
set_option linter.unusedVariables false
set_option linter.unusedSimpArgs false
namespace Go.Proofs.Ytdkncfmlehcjmaa.X
open Go.RowKit Go.Proofs.YtdkncfmlehcjmaaW.PrintWords

def tabOf (t : List (List Int)) : List (List Int) := (t.take 13).map fun r => r.take 25
theorem ev_table_l (t : List (List Int)) (d : Nat) : ∀ i, i + d = t.length → Ev (fun k => tickinglaw11_table.l0 k t ((t.take (min i 13)).map fun r => r.take 25) (min i 13 : Nat)) (tabOf t) := by
  induction d with
  | zero =>
    intro i hi
    refine Ev.step (f := fun _ => some (tabOf t)) (fun k => ?_) (Ev.now _)
    simp only [tickinglaw11_table.l0]
    by_cases h : i < 13
    · rw [show min i 13 = i by omega, if_neg (by omega)]
      unfold tabOf; rw [List.take_of_length_le (by omega), List.take_of_length_le (by omega)]
    · rw [show min i 13 = 13 by omega]
      by_cases h2 : t.length = 13
      · rw [if_neg (by omega)]; rfl
      · rw [if_pos (by omega), if_neg (by omega)]; rfl
  | succ d ih =>
    intro i hi
    by_cases h : i < 13
    · have h1 := ih (i + 1) (by omega)
      rw [show min (i + 1) 13 = i + 1 by omega] at h1
      rw [show min i 13 = i by omega]
      refine Ev.step (fun k => ?_) h1
      simp only [tickinglaw11_table.l0]
      rw [if_pos (by omega), if_pos (by omega), if_pos (by omega), rdL_nat t i (by omega)]
      simp only [tickinglaw11_list.f, Option.bind_some]
      have hc : ((t.take i).map fun r => r.take 25).length < 5864062014805 := by rw [List.length_map, List.length_take]; omega
      rw [if_pos hc, w64 (by omega) (by omega), List.take_succ_eq_append_getElem (show i < t.length by omega), List.map_append]; rfl
    · have h1 := ih (i + 1) (by omega)
      rw [show min (i + 1) 13 = 13 by omega] at h1
      rw [show min i 13 = 13 by omega]
      exact h1
theorem ev_table (t : List (List Int)) : Ev (fun k => tickinglaw11_table.f k t) (tabOf t) := by
  have := ev_table_l t t.length 0 (by omega)
  simp only [Nat.zero_le, Nat.min_eq_left, List.take_zero, List.map_nil] at this
  exact this
def digs (l : List Int) (n : Int) : Bool := l.all fun d => decide (0 ≤ d) && decide (d < n)
theorem digs_take (l : List Int) (n : Int) (i : Nat) (h : i < l.length) (hb : ¬ (0 ≤ l[i] ∧ l[i] < n)) : digs l n = false := by
  unfold digs; rw [List.all_eq_false]; exact ⟨l[i], List.getElem_mem h, by simpa using hb⟩
theorem digs_at {l : List Int} {n : Int} (h : digs l n = true) (i : Nat) (hi : i < l.length) : 0 ≤ l[i] ∧ l[i] < n := by
  unfold digs at h; rw [List.all_eq_true] at h; simpa using h _ (List.getElem_mem hi)
theorem ev_Digits_l (l : List Int) (most n : Int) (hl : l.length ≤ 1000000000) (d : Nat) : ∀ i, i + d = l.length → (∀ j (h : j < l.length), j < i → 0 ≤ l[j] ∧ l[j] < n) → Ev (fun k => tickingref11_Digits.l0 k l most n i) (digs l n && decide ((l.length : Int) ≤ most)) := by
  induction d with
  | zero =>
    intro i hi hok
    have : digs l n = true := by
      unfold digs; rw [List.all_eq_true]
      intro x hx
      obtain ⟨j, hj, rfl⟩ := List.getElem_of_mem hx
      simpa using hok j hj (by omega)
    rw [this, Bool.true_and]
    refine Ev.step (f := fun _ => some (decide ((l.length : Int) ≤ most))) (fun k => ?_) (Ev.now _)
    simp only [tickingref11_Digits.l0]; rw [if_neg (by omega)]
  | succ d ih =>
    intro i hi hok
    have e := rd_nat l i (by omega)
    by_cases h : 0 ≤ l[i]'(by omega) ∧ l[i]'(by omega) < n
    · refine Ev.step (fun k => ?_) (ih (i + 1) (by omega) (fun j hj h' => by
        by_cases e2 : j = i
        · subst e2; exact h
        · exact hok j hj (by omega)))
      simp only [tickingref11_Digits.l0]
      rw [if_pos (by omega), if_pos (by omega), e, if_neg (by omega), if_neg (by omega), w64 (by omega) (by omega)]; rfl
    · rw [digs_take l n i (by omega) h, Bool.false_and]
      refine Ev.step (f := fun _ => some false) (fun k => ?_) (Ev.now _)
      simp only [tickingref11_Digits.l0]
      rw [if_pos (by omega), if_pos (by omega), e]
      by_cases h0 : l[i]'(by omega) < 0
      · rw [if_pos h0]
      · rw [if_neg h0, if_pos (by omega)]
theorem ev_Digits (l : List Int) (most n : Int) (hl : l.length ≤ 1000000000) : Ev (fun k => tickingref11_Digits.f k l most n) (digs l n && decide ((l.length : Int) ≤ most)) :=
  ev_Digits_l l most n hl l.length 0 (by omega) (by intro j _ h; omega)
theorem isNum_eq (l : List Int) (n most : Int) (h0 : -9223372036854775807 ≤ n) (h1 : n ≤ 9223372036854775807) : isNum l n most = (digs l n && decide ((l.length : Int) ≤ most)) := by
  unfold isNum digs
  rw [Bool.and_comm]
  congr 1
  congr 1
  funext d
  unfold digOk
  rw [w64 (by omega) (by omega)]
  congr 1
  simp only [decide_eq_decide]
  omega

theorem range_pairwise {R : Nat → Nat → Prop} (n : Nat) : (List.range n).Pairwise R ↔ ∀ i j, i < j → j < n → R i j := by
  rw [List.pairwise_iff_getElem]
  constructor
  · intro h i j hij hj
    have := h i j (by simp; omega) (by simp; omega) hij
    simpa using this
  · intro h i j hi hj hij
    simp at hi hj
    simpa using h i j hij hj
/-- In each list and at each position no number comes twice. -/
def Latin (t : List (List Int)) : Prop := ∀ i, i < t.length → ∀ j, j < t.length → ∀ k, k < j → rd2 t i k ≠ rd2 t i j ∧ rd2 t k i ≠ rd2 t j i
theorem latin_R (t : List (List Int)) : (seenR t t.length 0).Nodup ↔ ∀ i, i < t.length → ∀ j, j < t.length → ∀ k, k < j → rd2 t i k ≠ rd2 t i j := by
  simp only [seenR, List.range_zero, List.map_nil, List.append_nil, List.Nodup, List.pairwise_flatMap, List.pairwise_map, range_pairwise, List.mem_range, List.mem_map]
  constructor
  · intro h i hi j hj k hk e
    exact h.1 i hi k j hk hj (by rw [e])
  · intro h
    refine ⟨fun i hi k j hk hj e => h i hi j hj k hk (by simpa using e), ?_⟩
    intro i j hij hj x hx y hy e
    obtain ⟨p, _, rfl⟩ := hx
    obtain ⟨q, _, rfl⟩ := hy
    simp at e
    omega
theorem latin_C (t : List (List Int)) : (seenC t t.length 0).Nodup ↔ ∀ i, i < t.length → ∀ j, j < t.length → ∀ k, k < j → rd2 t k i ≠ rd2 t j i := by
  simp only [seenC, List.range_zero, List.map_nil, List.append_nil, List.Nodup, List.pairwise_flatMap, List.pairwise_map, range_pairwise, List.mem_range, List.mem_map]
  constructor
  · intro h i hi j hj k hk e
    exact h.2 k j hk hj _ ⟨i, hi, rfl⟩ _ ⟨i, hi, rfl⟩ (by rw [e])
  · intro h
    refine ⟨fun i hi k j hk hj e => by simp at e; omega, ?_⟩
    intro k j hk hj x hx y hy e
    obtain ⟨p, hp, rfl⟩ := hx
    obtain ⟨q, hq, rfl⟩ := hy
    simp at e
    obtain ⟨e1, e2⟩ := e
    have : p = q := by omega
    subst this
    exact h p hp j hj k hk e2
theorem tabOk_iff (t : List (List Int)) : TabOk t ↔ 2 ≤ t.length ∧ t.length ≤ 12 ∧ (∀ a, a < t.length → rowOk t a) ∧ Latin t := by
  unfold TabOk
  rw [latin_R, latin_C]
  unfold Latin
  constructor
  · rintro ⟨h1, h2, h3, h4, h5⟩
    exact ⟨h1, h2, h3, fun i hi j hj k hk => ⟨h4 i hi j hj k hk, h5 i hi j hj k hk⟩⟩
  · rintro ⟨h1, h2, h3, h4⟩
    exact ⟨h1, h2, h3, fun i hi j hj k hk => (h4 i hi j hj k hk).1, fun i hi j hj k hk => (h4 i hi j hj k hk).2⟩

section
variable {t : List (List Int)} (h1 : 2 ≤ t.length) (h2 : t.length ≤ 12)
theorem rd2_rd (a b : Nat) : rd (rd_L1 t (a : Int)) (b : Int) = rd2 t a b := rfl
/-- What has been looked at so far stands no word against a table. -/
def okTo (t : List (List Int)) (i j : Nat) : Prop := ∀ a b, (a < i ∧ b < t.length ∨ a = i ∧ b < j) → (0 ≤ rd2 t a b ∧ rd2 t a b ≤ (t.length : Int) - 1) ∧ ∀ k, k < b → rd2 t a k ≠ rd2 t a b ∧ rd2 t k a ≠ rd2 t b a
theorem isTab_false_of (h : ¬ TabOk t) : isTab t = false := decide_eq_false h
include h1 h2 in
theorem isTab_true_of (hlen : ∀ a, a < t.length → (rd_L1 t (a : Int)).length = t.length) (hok : okTo t t.length 0) : isTab t = true := by
  refine decide_eq_true ((tabOk_iff t).2 ⟨h1, h2, fun a ha => ⟨hlen a ha, fun b hb => (hok a b (.inl ⟨ha, hb⟩)).1⟩, fun i hi j hj k hk => (hok i j (.inl ⟨hi, hj⟩)).2 k hk⟩)
include h1 h2 in
theorem ev_Table_3 (hlen : ∀ a, a < t.length → (rd_L1 t (a : Int)).length = t.length) (i j : Nat) (hi : i < t.length) (hj : j < t.length)
    (hn : (∀ k, k < j → rd2 t i k ≠ rd2 t i j ∧ rd2 t k i ≠ rd2 t j i) → Ev (fun k => tickingref11_Table.l2 k t t.length i ((j + 1 : Nat) : Int)) (isTab t)) (d : Nat) : ∀ k : Nat, k + d = j → (∀ k', k' < k → rd2 t i k' ≠ rd2 t i j ∧ rd2 t k' i ≠ rd2 t j i) → Ev (fun q => tickingref11_Table.l3 q t t.length i j k) (isTab t) := by
  induction d with
  | zero =>
    intro k hk hok
    obtain rfl : k = j := by omega
    refine Ev.step (fun q => ?_) (hn hok)
    simp only [tickingref11_Table.l3]; rw [if_neg (by omega), w64 (by omega) (by omega)]; rfl
  | succ d ih =>
    intro k hk hok
    have hli := hlen i hi
    have hlk := hlen k (by omega)
    have hlj := hlen j hj
    by_cases e1 : rd2 t i k = rd2 t i j
    · have hf : isTab t = false := isTab_false_of (fun h => (((tabOk_iff t).1 h).2.2.2 i hi j hj k (by omega)).1 e1)
      rw [hf]
      refine Ev.step (f := fun _ => some false) (fun q => ?_) (Ev.now _)
      simp only [tickingref11_Table.l3]
      rw [if_pos (by omega), if_pos (by omega), if_pos (by omega), if_pos (by omega), if_pos (by omega), if_pos (by omega), if_pos (by omega), if_pos (show rd (rd_L1 t (i : Int)) (k : Int) = rd (rd_L1 t (i : Int)) (j : Int) from e1)]
    · by_cases e2 : rd2 t k i = rd2 t j i
      · have hf : isTab t = false := isTab_false_of (fun h => (((tabOk_iff t).1 h).2.2.2 i hi j hj k (by omega)).2 e2)
        rw [hf]
        refine Ev.step (f := fun _ => some false) (fun q => ?_) (Ev.now _)
        simp only [tickingref11_Table.l3]
        rw [if_pos (by omega), if_pos (by omega), if_pos (by omega), if_pos (by omega), if_pos (by omega), if_pos (by omega), if_pos (by omega), if_neg (show ¬ rd (rd_L1 t (i : Int)) (k : Int) = rd (rd_L1 t (i : Int)) (j : Int) from e1), if_pos (by omega), if_pos (by omega), if_pos (by omega), if_pos (by omega), if_pos (show rd (rd_L1 t (k : Int)) (i : Int) = rd (rd_L1 t (j : Int)) (i : Int) from e2)]
      · refine Ev.step (fun q => ?_) (ih (k + 1) (by omega) (fun k' hk' => by
          by_cases e : k' = k
          · subst e; exact ⟨e1, e2⟩
          · exact hok k' (by omega)))
        simp only [tickingref11_Table.l3]
        rw [if_pos (by omega), if_pos (by omega), if_pos (by omega), if_pos (by omega), if_pos (by omega), if_pos (by omega), if_pos (by omega), if_neg (show ¬ rd (rd_L1 t (i : Int)) (k : Int) = rd (rd_L1 t (i : Int)) (j : Int) from e1), if_pos (by omega), if_pos (by omega), if_pos (by omega), if_pos (by omega), if_neg (show ¬ rd (rd_L1 t (k : Int)) (i : Int) = rd (rd_L1 t (j : Int)) (i : Int) from e2), w64 (by omega) (by omega)]; rfl
include h1 h2 in
theorem ev_Table_2 (hlen : ∀ a, a < t.length → (rd_L1 t (a : Int)).length = t.length) (i : Nat) (hi : i < t.length) (hn : okTo t (i + 1) 0 → Ev (fun k => tickingref11_Table.l1 k t t.length ((i + 1 : Nat) : Int)) (isTab t)) (d : Nat) : ∀ j : Nat, j + d = t.length → okTo t i j → Ev (fun k => tickingref11_Table.l2 k t t.length i j) (isTab t) := by
  induction d with
  | zero =>
    intro j hj hok
    refine Ev.step (fun q => ?_) (hn (fun a b hab => hok a b (by omega)))
    simp only [tickingref11_Table.l2]; rw [if_neg (by omega), w64 (by omega) (by omega)]; rfl
  | succ d ih =>
    intro j hj hok
    have hli := hlen i hi
    by_cases hb : 0 ≤ rd2 t i j ∧ rd2 t i j ≤ (t.length : Int) - 1
    · have h3 := ev_Table_3 h1 h2 hlen i j hi (by omega) (fun hl => ih (j + 1) (by omega) (fun a b hab => by
        by_cases e : a = i ∧ b = j
        · obtain ⟨rfl, rfl⟩ := e; exact ⟨hb, hl⟩
        · exact hok a b (by omega))) j 0 (by omega) (by intro k' hk'; omega)
      refine Ev.step (f := fun q => tickingref11_Table.j4 q t t.length i j false) (fun q => ?_) (Ev.step (fun q => ?_) h3)
      · simp only [tickingref11_Table.l2]
        rw [if_pos (by omega), if_pos (by omega), if_pos (by omega), if_pos (by omega), if_pos (by omega), if_neg (show ¬ rd (rd_L1 t (i : Int)) (j : Int) < 0 by rw [rd2_rd]; omega), decide_eq_false (show ¬ rd (rd_L1 t (i : Int)) (j : Int) ≥ (t.length : Int) by rw [rd2_rd]; omega)]
      · simp [tickingref11_Table.j4]
    · have hf : isTab t = false := isTab_false_of (fun h => hb ((((tabOk_iff t).1 h).2.2.1 i hi).2 j (by omega)))
      rw [hf]
      refine Ev.step (f := fun q => tickingref11_Table.j4 q t t.length i j true) (fun q => ?_) (Ev.step (f := fun _ => some false) (fun q => ?_) (Ev.now _))
      · simp only [tickingref11_Table.l2]
        rw [if_pos (by omega), if_pos (by omega), if_pos (by omega), if_pos (by omega), if_pos (by omega)]
        by_cases h0 : rd2 t i j < 0
        · rw [if_pos (show rd (rd_L1 t (i : Int)) (j : Int) < 0 from h0)]
        · rw [if_neg (show ¬ rd (rd_L1 t (i : Int)) (j : Int) < 0 from h0), decide_eq_true (show rd (rd_L1 t (i : Int)) (j : Int) ≥ (t.length : Int) by rw [rd2_rd]; omega)]
      · simp [tickingref11_Table.j4]
include h1 h2 in
theorem ev_Table_1 (hlen : ∀ a, a < t.length → (rd_L1 t (a : Int)).length = t.length) (d : Nat) : ∀ i : Nat, i + d = t.length → okTo t i 0 → Ev (fun k => tickingref11_Table.l1 k t t.length i) (isTab t) := by
  induction d with
  | zero =>
    intro i hi hok
    obtain rfl : i = t.length := by omega
    rw [isTab_true_of h1 h2 hlen hok]
    refine Ev.step (f := fun _ => some true) (fun q => ?_) (Ev.now _)
    simp only [tickingref11_Table.l1]; rw [if_neg (by omega)]
  | succ d ih =>
    intro i hi hok
    refine Ev.step (fun q => ?_) (ev_Table_2 h1 h2 hlen i (by omega) (fun h => ih (i + 1) (by omega) h) t.length 0 (by omega) hok)
    simp only [tickingref11_Table.l1]; rw [if_pos (by omega)]; rfl
include h1 h2 in
theorem ev_Table_0 (d : Nat) : ∀ i : Nat, i + d = t.length → (∀ a, a < i → (rd_L1 t (a : Int)).length = t.length) → Ev (fun k => tickingref11_Table.l0 k t t.length i) (isTab t) := by
  induction d with
  | zero =>
    intro i hi hok
    obtain rfl : i = t.length := by omega
    refine Ev.step (fun q => ?_) (ev_Table_1 h1 h2 hok t.length 0 (by omega) (by intro a b hab; omega))
    simp only [tickingref11_Table.l0]; rw [if_neg (by omega)]; rfl
  | succ d ih =>
    intro i hi hok
    by_cases h : (rd_L1 t (i : Int)).length = t.length
    · refine Ev.step (fun q => ?_) (ih (i + 1) (by omega) (fun a ha => by
        by_cases e : a = i
        · subst e; exact h
        · exact hok a (by omega)))
      simp only [tickingref11_Table.l0]; rw [if_pos (by omega), if_pos (by omega), if_pos (by omega), if_pos (by omega), w64 (by omega) (by omega)]; rfl
    · have hf : isTab t = false := isTab_false_of (fun h' => h (((tabOk_iff t).1 h').2.2.1 i (by omega)).1)
      rw [hf]
      refine Ev.step (f := fun _ => some false) (fun q => ?_) (Ev.now _)
      simp only [tickingref11_Table.l0]; rw [if_pos (by omega), if_pos (by omega), if_pos (by omega), if_neg (by omega)]
end
theorem ev_Table (t : List (List Int)) : Ev (fun k => tickingref11_Table.f k t) (isTab t) := by
  by_cases h : 2 ≤ t.length ∧ t.length ≤ 12
  · refine Ev.congr (f := fun k => tickingref11_Table.j0 k t t.length false) (fun k => ?_) (Ev.step (fun q => ?_) (ev_Table_0 h.1 h.2 t.length 0 (by omega) (by intro a ha; omega)))
    · unfold tickingref11_Table.f; rw [if_neg (by omega), decide_eq_false (by omega)]
    · simp [tickingref11_Table.j0]
  · have hf : isTab t = false := isTab_false_of (fun h' => h ⟨h'.1, h'.2.1⟩)
    rw [hf]
    refine Ev.congr (f := fun k => tickingref11_Table.j0 k t t.length true) (fun k => ?_) (Ev.step (f := fun _ => some false) (fun q => by simp [tickingref11_Table.j0]) (Ev.now _))
    unfold tickingref11_Table.f
    by_cases h2 : (t.length : Int) < 2
    · rw [if_pos h2]
    · rw [if_neg h2, decide_eq_true (by omega)]

def traceP (t : List (List Int)) (x : Int) (l : List Int) : Int := l.foldl (fun x d => rd (rd_L1 t x) d) x
section
variable {t : List (List Int)} (ht : TabOk t)
include ht in
theorem tab_row (x : Int) (h0 : 0 ≤ x) (h1 : x < t.length) : (rd_L1 t x).length = t.length := by
  have := (ht.2.2.1 x.toNat (by omega)).1
  rwa [Int.toNat_of_nonneg h0] at this
include ht in
theorem tab_cell (x d : Int) (h0 : 0 ≤ x) (h1 : x < t.length) (d0 : 0 ≤ d) (d1 : d < t.length) : 0 ≤ rd (rd_L1 t x) d ∧ rd (rd_L1 t x) d < t.length := by
  have := (ht.2.2.1 x.toNat (by omega)).2 d.toNat (by omega)
  unfold rd2 at this
  rw [Int.toNat_of_nonneg h0, Int.toNat_of_nonneg d0] at this
  omega
include ht in
theorem trace_in (l : List Int) (hl : digs l t.length = true) : ∀ x : Int, 0 ≤ x → x < t.length → 0 ≤ traceP t x l ∧ traceP t x l < t.length := by
  induction l with
  | nil => intro x h0 h1; exact ⟨h0, h1⟩
  | cons d l ih =>
    intro x h0 h1
    have hd := digs_at hl 0 (by simp)
    simp at hd
    have hc := tab_cell ht x d h0 h1 hd.1 hd.2
    exact ih (by unfold digs at hl ⊢; simp only [List.all_cons, Bool.and_eq_true] at hl; exact hl.2) _ hc.1 hc.2
include ht in
theorem ev_trace_l (l : List Int) (hl : digs l t.length = true) (hn : l.length ≤ 1000000) (d : Nat) : ∀ (i : Nat) (x : Int), i + d = l.length → 0 ≤ x → x < t.length → Ev (fun k => serial_table_trace.l0 k t x l l.length i) (traceP t x (l.drop i)) := by
  induction d with
  | zero =>
    intro i x hi h0 h1
    rw [List.drop_of_length_le (by omega)]
    refine Ev.step (f := fun _ => some x) (fun k => ?_) (Ev.now _)
    simp only [serial_table_trace.l0]; rw [if_neg (by omega)]
  | succ d ih =>
    intro i x hi h0 h1
    have e := rd_nat l i (by omega)
    have hd := digs_at hl i (by omega)
    have hc := tab_cell ht x _ h0 h1 hd.1 hd.2
    have hr := tab_row ht x h0 h1
    have h := ih (i + 1) _ (by omega) hc.1 hc.2
    rw [List.drop_eq_getElem_cons (by omega)]
    refine Ev.step (fun k => ?_) h
    simp only [serial_table_trace.l0]
    rw [if_pos (by omega), if_pos (by omega), if_pos (by omega), if_pos (by omega), if_pos (by omega), e, if_pos (by omega), if_pos (by omega), w64 (by omega) (by omega)]; rfl
include ht in
theorem ev_trace (l : List Int) (hl : digs l t.length = true) (hn : l.length ≤ 1000000) : Ev (fun k => serial_table_trace.f k t l) (traceP t 0 l) :=
  ev_trace_l ht l hl hn l.length 0 0 (by omega) (by omega) (by have := ht.1; omega)
end
theorem sTrace_eq (t : List (List Int)) (l : List Int) (hl : l.length ≤ 1000000) (htl : t.length ≤ 1000000) : Ev (fun k => serial_Trace.f k t l) (if isTab t && (digs l t.length && decide ((l.length : Int) ≤ 24)) then (traceP t 0 l, 0) else (0, 2)) := by
  unfold serial_Trace.f serial_isTable.f serial_isNumber.f
  simp only [Option.bind_some]
  rw [isNum_eq l t.length 24 (by omega) (by omega)]
  cases h : isTab t with
  | false => exact Ev.some_ fun k => by simp
  | true =>
    cases h2 : (digs l t.length && decide ((l.length : Int) ≤ 24)) with
    | false => exact Ev.some_ fun k => by simp
    | true =>
      simp only [if_true, Bool.and_self]
      rw [Bool.and_eq_true] at h2
      exact Ev.bind (ev_trace (of_decide_eq_true h) l h2.1 hl) (Ev.now _)
end Go.Proofs.Ytdkncfmlehcjmaa.X
end

section
/- serial.number.with, by hand: a copy of the number with other digits from a position on, in new memory. -/
set_option linter.unusedVariables false
set_option linter.unusedSimpArgs false
namespace Go.Proofs.Ytdkncfmlehcjmaa.X
open Go.RowKit Go.Proofs.YtdkncfmlehcjmaaW.PrintWords Go.Proofs.YtdkncfmlehcjmaaW.PrintLast Go.Proofs.YtdkncfmlehcjmaaW.PrintMore
theorem R_made0n (w : World) (base : Nat) (hb : base ≤ w.heap.size) : Kd.R (Kd.int .i64) 3 (w.alloc (.cells #[] 3)) base (fun _ => True) (.slice (some ⟨w.heap.size, 0, none⟩) 0 0) [] :=
  ⟨fun _ _ => trivial, [], World.ownsRow_made w #[] 0 hb (Nat.zero_le _) rfl, Reps.none _ _⟩
set_option maxHeartbeats 2000000 in
set_option maxRecDepth 100000 in
theorem cloneN_some (A : Addr) (c : Nat) (l : List Int) (w : World) (hr : Kd.C (Kd.int .i64) w (some A) l.length l) (hn : l.length ≤ 1000000) :
    Calls Try.prog 82 #[.slice (some A) l.length c] w fun e w' => ∃ v0_ : Value, e = .returned (v0_) ∧ Kd.R (Kd.int .i64) 3 w' w.heap.size (fun _ => True) v0_ l ∧ Below w.heap.size w w' := by
  have HR := Aside0.mk hr
  have HB := Aside0.mk (Below.refl w.heap.size w)
  have HN := Aside0.mk hn
  clear hr hn
  have q94 : ∀ (w : World) (a : Option Addr) (n c n' c' : Nat), (binOp .eql 94 (.slice a n c) (.slice none n' c')).run Try.prog w = .ok (.bool a.isNone) w := fun w a n c n' c' => Lib.run_eql_slice_nil w _ _ a n c n' c' Try.underlying94
  go_enter Try.func82, Try.ntmps82
  go_wp2_with (at_builtin; go_loud (refine Kd.R_append_rows (Kd.int .i64) (w0 := w) w.heap.size rfl (.tmp 5) (.tmp 6) 94 3 (.int .i64 0) 8 rfl Try.underlying94 info3 rfl (by decide) (by omega) (.slice (some ⟨w.heap.size, 0, none⟩) 0 0) ([] : List Int) l _ _ _ (fun _ => True) (fun _ => False) rfl rfl ?aO ?aR (fun _ _ h => h) (fun _ h => h.elim) ?aF ?aB ?aS ?aL ?_); go_loud (case aO => exact R_made0n w _ (Nat.le_refl _)); go_loud (case aR => exact Kd.C_alloc HR.out _); go_loud (case aF => exact fun _ _ => trivial); go_loud (case aB => exact below_alloc HB.out _); go_loud (case aS => first | exact Nat.le_refl _ | exact (below_alloc HB.out _).size); go_loud (case aL => have := HN.out; simp; omega); intro v103 w7 ho hb hg hat; have HO := Aside0.mk ho; have HB2 := Aside0.mk hb; clear ho hb hg hat)
  go_ret
  exact ⟨_, rfl, HO.out, HB2.out⟩
set_option maxHeartbeats 2000000 in
theorem cloneN_nil (c : Nat) (w : World) :
    Calls Try.prog 82 #[.slice none 0 c] w fun e w' => e = .returned (.slice none 0 0) ∧ w = w' := by
  have q94 : ∀ (w : World) (a : Option Addr) (n c n' c' : Nat), (binOp .eql 94 (.slice a n c) (.slice none n' c')).run Try.prog w = .ok (.bool a.isNone) w := fun w a n c n' c' => Lib.run_eql_slice_nil w _ _ a n c n' c' Try.underlying94
  go_enter Try.func82, Try.ntmps82
  go_wp2
  go_ret
  exact ⟨rfl, rfl⟩
theorem cloneN_calls (A : Option Addr) (c : Nat) (l : List Int) (w : World) (hr : Kd.C (Kd.int .i64) w A l.length l) (hA : A = none → l = []) (hn : l.length ≤ 1000000) :
    Calls Try.prog 82 #[.slice A l.length c] w fun e w' => ∃ v0_ : Value, e = .returned (v0_) ∧ Kd.R (Kd.int .i64) 3 w' w.heap.size (fun _ => True) v0_ l ∧ Below w.heap.size w w' := by
  cases A with
  | none =>
    obtain rfl := hA rfl
    exact (cloneN_nil c w).mono fun e w' ⟨h1, h2⟩ => ⟨_, h1, Kd.R_nil _ _ _ _ _, by rw [← h2]; exact Below.refl _ _⟩
  | some a => exact cloneN_some a c l w hr hn
theorem take_splice {α : Type} (L E : List α) (a m n : Nat) (hm : E.length = m) (h : a + m ≤ n) (hn : n ≤ L.length) : (L.take a ++ (E ++ L.drop (a + m))).take n = (L.take n).take a ++ (E ++ (L.take n).drop (a + m)) := by
  apply List.ext_getElem?
  intro i
  simp only [List.getElem?_take, List.getElem?_append, List.getElem?_drop, List.length_take, hm]
  split <;> rename_i h1
  · by_cases h2 : i < min a L.length
    · have h3 : i < min a (min n L.length) := by omega
      have h4 : i < a := by omega
      simp [h2, h3, h4, h1]
    · have h3 : ¬ i < min a (min n L.length) := by omega
      simp only [h2, h3, if_false]
      have e : min a L.length = min a (min n L.length) := by omega
      rw [← e]
      split
      · rfl
      · rw [if_pos (by omega)]
  · have h3 : ¬ i < min a (min n L.length) := by omega
    rw [if_neg h3, if_neg (by omega), if_neg (by omega)]
namespace Kd
open Go.Proofs.YtdkncfmlehcjmaaW.PrintWords.Kd
section
variable {P : Program} {ops : Array Oper} {rest : List Oper} {o : Oper} {a : Act} {Q : Exit → Act → World → Prop} {α : Type}
/-- copy(v[at:], ys), v a row of scalars of one's own, ys fitting in. -/
theorem R_copy_at {enc : α → Value} {h1 : ∀ x, (enc x).oneCell' = true} (d : α) {w0 W : World} (base : Nat) (hgd : o.guard = none) (s x : Operand) (t t' e : TypeId)
    (ho : o.op = .call { callee := .builtin .copy, args := #[s, x], argTypes := #[t, t'] }) (ht : P.underlying t = some (.slice e)) (hinfo : (P.info? e).map (·.size) = some 1)
    (g cap at_ dl dc : Nat) (xs ys : List α) (A : Option Addr) (m c : Nat) (ok : Nat → Prop) (hs : a.eval s = .slice (some ⟨g, at_, none⟩) dl dc) (hx : a.eval x = .slice A m c)
    (HO : Kd.R (scalar enc h1) e W base ok (.slice (some ⟨g, 0, none⟩) xs.length cap) xs) (HR : Kd.C (scalar enc h1) W A m ys) (HB : Below base w0 W) (hbase : base ≤ W.heap.size)
    (hp : 0 < m) (hfit : at_ + m ≤ xs.length) (hdl : m ≤ dl)
    (h : ∀ w1, Kd.R (scalar enc h1) e w1 base ok (.slice (some ⟨g, 0, none⟩) xs.length cap) (xs.take at_ ++ (ys ++ xs.drop (at_ + m))) → Below base w0 w1 → wpList P ops Q rest (a.put o.dst (.int .i64 (m : Int))) w1) :
    wpList P ops Q (o :: rest) a W := by
  have hR := reads_of_C (enc := enc) (d := d) (h1 := h1) HR
  have hm : ys.length = m := hR.1
  have hown := own_of_R HO
  obtain ⟨ad, hA, hc⟩ := hR.2.2 (by omega)
  rcases hown.2 with ⟨hv0, hx0⟩ | ⟨g', cap', cur, hv, hb, hh, hnc, hcm, hcs, htake⟩
  · omega
  injection hv with hv1 hv2 hv3
  injection hv1 with hv1
  injection hv1 with hv1 _ _
  subst hv1 hv3
  have hcs1 : cur.size = cap := by omega
  have hsrc : ∀ j u, (encs enc ys)[j]? = some u → W.cell? (ad.add j) = some u := by
    intro j u hu
    have hj : j < ys.length := by
      rcases Nat.lt_or_ge j ys.length with h | h
      · exact h
      · rw [List.getElem?_eq_none (by rw [encs_length]; exact h)] at hu
        cases hu
    rw [encs_get (d := d) _ j hj] at hu
    rw [hc j (by omega), ← hu]
  have hkl : (encs enc ys).length = m := by rw [encs_length]; omega
  have hr := run_copy_cells (P := P) W t t' o.type e g at_ dl dc ad m c (encs enc ys) ht hinfo (by rw [hkl]; exact (Nat.min_eq_left hdl).symm) hsrc
      (fun j hj => by rw [cell_of_row W g _ cur e (0, 0) hh]; simp; omega) (fun j _ => blk_frozen hh _) (by intro u hu; simp only [encs, List.mem_map] at hu; obtain ⟨q, _, rfl⟩ := hu; exact h1 q)
  obtain ⟨cur', h3, h4, h5⟩ := setCells_row (encs enc ys) at_ W cur hh (by rw [hkl]; omega)
  obtain ⟨s1, s2, s3, s4⟩ := setCells_same g (encs enc ys) at_ W
  have hg : W.grownBy (W.setCells g at_ (encs enc ys)) (some g) := ⟨s1, s2, s3, by rw [s4]; exact Nat.le_refl _, fun k _ hk => setCells_far _ _ k (fun he => hk (by rw [he]))⟩
  have hln : (xs.take at_ ++ (ys ++ xs.drop (at_ + m))).length = xs.length := by
    simp only [List.length_append, List.length_take, List.length_drop]
    omega
  refine wpList_plain hgd fun K hK => ?_
  unfold Oper.wp execOp
  simp only [ho, resolve, invoke, builtin, Sem.run_bind, Sem.run_pure, Result.andThen_ok, List.map_toArray, List.map_cons, List.map_nil, hs, hx, hA, hr]
  rw [hkl]
  refine hK _ _ (h _ (R_of_own ?_ HO.1) (HB.grown hg hbase (fun k hk => by cases hk; exact hb)))
  rw [hln]
  refine ⟨by rw [encs_length, hln, Nat.mul_one], .inr ⟨g, cap, cur', rfl, hb, h3, hnc, hcm, by rw [h4, hcs], ?_⟩⟩
  have htk : cur.toList.take xs.length = encs enc xs := by rw [← htake, Nat.mul_one]
  rw [h5, hkl, encs_append, encs_append, Nat.mul_one]
  have e1 : encs enc (xs.take at_) = (encs enc xs).take at_ := by simp [encs, List.map_take]
  have e2 : encs enc (xs.drop (at_ + m)) = (encs enc xs).drop (at_ + m) := by simp [encs, List.map_drop]
  rw [e1, e2, ← htk, List.append_assoc]
  exact take_splice cur.toList (encs enc ys) at_ m xs.length hkl (by omega) (by have : cur.toList.length = cur.size := Array.length_toList; omega)
end
end Kd
theorem own_cap_le {w : World} {base g n c : Nat} {l : List Int} {ok : Nat → Prop} (h : Kd.R (Kd.int .i64) 3 w base ok (.slice (some ⟨g, 0, none⟩) n c) l) : l.length ≤ c := by
  rcases (Kd.own_of_R h).2 with ⟨h, _⟩ | ⟨g', cap', cur, hv, hb, hh, hnc, _⟩
  · cases h
  · injection hv with _ h1 h2
    subst h1 h2
    exact hnc
def withN (l : List Int) (at_ : Int) (ds : List Int) : List Int := l.take at_.toNat ++ (ds ++ l.drop (at_.toNat + ds.length))
def serial_number_with.f (l : List Int) (at_ : Int) (ds : List Int) : Option (List Int) :=
  if 0 ≤ at_ ∧ at_ + ds.length ≤ l.length ∧ 0 < ds.length ∧ l.length ≤ 1000 then some (withN l at_ ds) else none
set_option maxHeartbeats 4000000 in
set_option maxRecDepth 100000 in
theorem serial_number_with.calls (A0 : Option Addr) (c0 : Nat) (l0 : List Int) (a1 : Int) (A2 : Option Addr) (c2 : Nat) (l2 : List Int) (r : List Int) (w : World) (hr0 : Kd.C (Kd.int .i64) w A0 l0.length l0) (hc0 : l0.length ≤ c0) (hr2 : Kd.C (Kd.int .i64) w A2 l2.length l2) (hc2 : l2.length ≤ c2) (h : serial_number_with.f l0 a1 l2 = some r) :
    Calls Try.prog 85 #[.slice A0 l0.length c0, .int .i64 a1, .slice A2 l2.length c2] w fun e w' => ∃ v0_ : Value, e = .returned (v0_) ∧ Kd.R (Kd.int .i64) 3 w' w.heap.size (fun _ => True) v0_ r ∧ Below w.heap.size w w' := by
  unfold serial_number_with.f at h
  split at h
  case isFalse => cases h
  rename_i hc
  obtain ⟨h1, h2, h3, h4⟩ := hc
  obtain rfl := Option.some.inj h
  obtain ⟨p, rfl⟩ : ∃ p : Nat, a1 = p := ⟨a1.toNat, by omega⟩
  have HP := Aside0.mk (show p + l2.length ≤ l0.length by omega)
  have HL := Aside0.mk h3
  have H4 := Aside0.mk h4
  have HR0 := Aside0.mk hr0
  have HR2 := Aside0.mk hr2
  have HB := Aside0.mk (Below.refl w.heap.size w)
  have hA : A0 = none → l0 = [] := fun e => by
    subst e
    rcases Nat.eq_zero_or_pos l0.length with h | h
    · exact List.eq_nil_of_length_eq_zero h
    · obtain ⟨_, hh, _⟩ := hr0.2.2 h
      cases hh
  have HA := Aside0.mk hA
  have hpl : decide ((p : Int) ≤ (l0.length : Int)) = true := decide_eq_true (by omega)
  have hp0 : decide (0 ≤ (p : Int)) = true := decide_eq_true (by omega)
  clear hr0 hr2 h1 h2 h3 h4 h hA hc0 hc2
  go_enter Try.func85, Try.ntmps85
  have hpl' : (p ≤ l0.length) = True := eq_true (by have := HP.out; omega)
  go_wp2_with (first | (go_at_call 82; refine (cloneN_calls A0 c0 l0 _ HR0.out HA.out (by have := H4.out; omega)).mono ?_; rintro e w5 ⟨v1, rfl, ho, hb⟩; have HO := Aside0.mk ho; have HBs := Aside0.mk (below_step HB.out hb); have HR2b := Aside0.mk (Kd.C_below HR2.out hb); clear HB; have HB := HBs; clear HBs hb; obtain ⟨g3, c3, rfl, e3, e4, e5⟩ := Kd.R_form ho (by have := HP.out; have := HL.out; omega); have hcl := (own_cap_le ho); clear ho; have hne : (c3 = p) = False := eq_false (by have := HP.out; have := HL.out; omega)) | ((with_reducible refine gate_dst (N := 14) rfl ?_); go_loud (refine Kd.R_copy_at (enc := Value.int .i64) (h1 := fun _ => rfl) (0 : Int) (w0 := w) w.heap.size rfl (.tmp 12) (.tmp 13) 94 23 3 rfl Try.underlying94 (by kernel_rfl) g3 c3 p (l0.length - p) (c3 - p) l0 l2 A2 l2.length c2 (fun _ => True) rfl rfl ?aO ?aR ?aB ?aS ?aP ?aF ?aD ?_); go_loud (case aO => exact HO.out); go_loud (case aR => exact HR2b.out); go_loud (case aB => exact HB.out); go_loud (case aS => exact HB.out.size); go_loud (case aP => exact HL.out); go_loud (case aF => exact HP.out); go_loud (case aD => have := HP.out; omega); intro w7 ho hb; have HO2 := Aside0.mk ho; have HB2 := Aside0.mk hb; clear ho hb))
  go_ret
  exact ⟨_, rfl, HO2.out, HB2.out⟩
end Go.Proofs.Ytdkncfmlehcjmaa.X
end
