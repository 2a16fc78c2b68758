/- Texts behind SerialOwn, part 23: contracts of the program's functions and the plain words for them. -/
import Derived.Test.YtdkncfmlehcjmaaTpat
import Derived.Test.YtdkncfmlehcjmaaTpav
section
namespace Go.Proofs.Ytdkncfmlehcjmaa.X
open Go.RowKit Go.Proofs.YtdkncfmlehcjmaaW.PrintWords Go.Proofs.YtdkncfmlehcjmaaW.PrintLast Go.Proofs.YtdkncfmlehcjmaaW.PrintMore
attribute [local go_sem] max2_int min2_int max_two min_two max_three min_three max_four min_four   -- for this text's walks alone
set_option linter.unusedVariables false
set_option linter.unusedSimpArgs false

def tickingref11_Gcd.l0 : Nat → Int → Int → Option (Int)
 | 0, _, _ => none
 | k + 1, x0, x1 => if x1 > 0 then (if x1 = 0 then (none) else (tickingref11_Gcd.l0 k x1 (Int.tmod x0 x1))) else (some x0)
def tickingref11_Gcd.f (k : Nat) (a0 : Int) (a1 : Int) : Option (Int) := tickingref11_Gcd.l0 k a0 a1
set_option maxHeartbeats 8000000 in
set_option maxRecDepth 100000 in
theorem tickingref11_Gcd.calls (k : Nat) (a0 : Int) (a1 : Int) (r : Int) (w : World) (h : tickingref11_Gcd.f k a0 a1 = some r) :
  Calls Try.prog 31 #[.int .i64 a0, .int .i64 a1] w fun e w' => e = .returned (.int .i64 r) ∧ Drawn0 w w' := by
 have H : (tickingref11_Gcd.l0 k a0 a1) = some r := h
 clear h
 have H' := Aside0.mk H
 clear H
 go_enter Try.func31, Try.ntmps31
 go_wp2
 go_loopg [0, 1] k (fun kq v0 v1 w' => ∃ (x0_1 : Int) (x1_1 : Int), v0 = .int .i64 x0_1 ∧ v1 = .int .i64 x1_1 ∧ Aside0 (tickingref11_Gcd.l0 kq x0_1 x1_1 = some r) ∧ Aside0 (kq ≤ k) ∧ Drawn0 w w')
 case atStart => exact ⟨(a0), (a1), (by first | rfl | (simp; done) | (simp [*]; done)), (by first | rfl | (simp; done) | (simp [*]; done)), H', ⟨Nat.le_refl _⟩, by repeat (first | exact Drawn0.refl _ | apply Drawn0.step)⟩
 case round =>
  clear H'
  try clear p2
  obtain ⟨x0_1, x1_1, rfl, rfl, HA, HK1, ⟨m1, rfl⟩⟩ := hrel
  cases gk with
  | zero => exact absurd HA.out (by simp [tickingref11_Gcd.l0])
  | succ k1 =>
   have H := HA.out
   clear HA
   simp only [tickingref11_Gcd.l0] at H
   by_cases c3 : x1_1 > 0
   ·rw [if_pos c3] at H
    have c3b0 : decide (0 < x1_1) = true := decide_eq_true c3
    clear c3
    by_cases c4 : x1_1 = 0
    ·rw [if_pos c4] at H
     exact absurd H (by simp)
    ·rw [if_neg c4] at H
     have c4b0 : (x1_1 == 0) = false := beq_eq_false_iff_ne.mpr c4
     have c4b1 : (x1_1 != 0) = true := bne_iff_ne.mpr c4
     have H' := Aside0.mk H
     clear H
     go_wp2
     go_roundg k1
     case measure => have := HK1.out; omega
     case rel => exact ⟨(x1_1), (Int.tmod x0_1 x1_1), (by first | rfl | (simp; done) | (simp [*]; done)), (by first | rfl | (simp; done) | (simp [*]; done)), H', ⟨by have := HK1.out; omega⟩, by repeat (first | exact Drawn0.refl _ | apply Drawn0.step)⟩
   ·rw [if_neg c3] at H
    have c3b0 : decide (0 < x1_1) = false := decide_eq_false c3
    clear c3
    obtain rfl := Option.some.inj H
    go_wp2
    go_ret
    exact ⟨by first | rfl | (simp; done) | (simp [*]; done), by repeat (first | exact Drawn0.refl _ | apply Drawn0.step)⟩

end Go.Proofs.Ytdkncfmlehcjmaa.X
end

section
namespace Go.Proofs.Ytdkncfmlehcjmaa.X
open Go.RowKit Go.Proofs.YtdkncfmlehcjmaaW.PrintWords Go.Proofs.YtdkncfmlehcjmaaW.PrintLast Go.Proofs.YtdkncfmlehcjmaaW.PrintMore
attribute [local go_sem] max2_int min2_int max_two min_two max_three min_three max_four min_four   -- for this text's walks alone
set_option linter.unusedVariables false
set_option linter.unusedSimpArgs false

def tickingref11_Prime.f (k : Nat) (a0 : Int) (a1 : Int) : Option (Bool) := if a0 ≥ 0 then (if a0 < a1 then ((tickingref11_Gcd.f k a0 a1).bind fun t333 => (some (t333 == 1))) else (some false)) else (some false)
set_option maxHeartbeats 8000000 in
set_option maxRecDepth 100000 in
theorem tickingref11_Prime.calls (k : Nat) (a0 : Int) (a1 : Int) (r : Bool) (w : World) (h : tickingref11_Prime.f k a0 a1 = some r) :
  Calls Try.prog 26 #[.int .i64 a0, .int .i64 a1] w fun e w' => e = .returned (.bool r) ∧ Drawn0 w w' := by
 have H : (if a0 ≥ 0 then (if a0 < a1 then ((tickingref11_Gcd.f k a0 a1).bind fun t333 => (some (t333 == 1))) else (some false)) else (some false)) = some r := h
 clear h
 by_cases c3 : a0 ≥ 0
 ·rw [if_pos c3] at H
  have c3b0 : decide (0 ≤ a0) = true := decide_eq_true c3
  clear c3
  by_cases c4 : a0 < a1
  ·rw [if_pos c4] at H
   have c4b0 : decide (a0 < a1) = true := decide_eq_true c4
   clear c4
   replace H := Option.bind_eq_some_iff.mp H
   obtain ⟨t333, A50, H⟩ := H
   replace H : (some (t333 == 1)) = some r := H
   have A5 := Aside0.mk A50
   clear A50
   obtain rfl := Option.some.inj H
   go_enter Try.func26, Try.ntmps26
   go_wp2_with (first | (go_at_call 31; (with_reducible refine (tickingref11_Gcd.calls k a0 a1 t333 _ A5.out).mono ?_); rintro e w' ⟨rfl, ⟨nd, rfl⟩⟩))
   go_ret
   exact ⟨by first | rfl | (simp; done) | (simp [*]; done), by repeat (first | exact Drawn0.refl _ | apply Drawn0.step)⟩
  ·rw [if_neg c4] at H
   have c4b0 : decide (a0 < a1) = false := decide_eq_false c4
   clear c4
   obtain rfl := Option.some.inj H
   go_enter Try.func26, Try.ntmps26
   go_wp2
   go_ret
   exact ⟨by first | rfl | (simp; done) | (simp [*]; done), by repeat (first | exact Drawn0.refl _ | apply Drawn0.step)⟩
 ·rw [if_neg c3] at H
  have c3b0 : decide (0 ≤ a0) = false := decide_eq_false c3
  clear c3
  obtain rfl := Option.some.inj H
  go_enter Try.func26, Try.ntmps26
  go_wp2
  go_ret
  exact ⟨by first | rfl | (simp; done) | (simp [*]; done), by repeat (first | exact Drawn0.refl _ | apply Drawn0.step)⟩

end Go.Proofs.Ytdkncfmlehcjmaa.X
end

section
/- What the printed functions of layer 11 come to, in plain words: greatest common divisors, units, linear tables. -/
set_option linter.unusedVariables false
set_option linter.unusedSimpArgs false
namespace Go.Proofs.Ytdkncfmlehcjmaa.X
open Go.RowKit Go.Proofs.YtdkncfmlehcjmaaW.PrintWords

theorem w64 {x : Int} (h0 : -9223372036854775808 ≤ x) (h1 : x ≤ 9223372036854775807) : wrap64 x = x := by unfold wrap64; omega
theorem rd_nat (l : List Int) (i : Nat) (h : i < l.length) : rd l (i : Int) = l[i] := by
  simp [rd, List.getD_eq_getElem?_getD, List.getElem?_eq_getElem h]
theorem rdL_nat (t : List (List Int)) (i : Nat) (h : i < t.length) : rd_L1 t (i : Int) = t[i] := by
  simp [rd_L1, List.getD_eq_getElem?_getD, List.getElem?_eq_getElem h]
theorem Ev.some_ {α : Type} {g : Nat → Option α} {r : α} (h : ∀ k, g k = some r) : Ev g r := ⟨0, fun k _ => h k⟩
theorem mx_neg (x : Int) : mx x (-x) = (x.natAbs : Int) := by unfold mx; split <;> omega
theorem gcd_step (a b : Int) : Int.gcd b (a.tmod b) = Int.gcd a b := by
  have h : Int.gcd a b = Nat.gcd a.natAbs b.natAbs := rfl
  have h2 : Int.gcd b (a.tmod b) = Nat.gcd b.natAbs (a.tmod b).natAbs := rfl
  rw [h, h2, Int.natAbs_tmod, Nat.gcd_comm b.natAbs, ← Nat.gcd_rec, Nat.gcd_comm]
theorem ev_gcd_l (d : Nat) : ∀ (a b : Int), b.natAbs ≤ d → -9223372036854775807 ≤ a → a ≤ 9223372036854775807 → -9223372036854775807 ≤ b → b ≤ 9223372036854775807 → Ev (fun k => serial_gcd.l0 k a b) (Int.gcd a b : Int) := by
  induction d with
  | zero =>
    intro a b hb ha0 ha1 hb0 hb1
    obtain rfl : b = 0 := by omega
    refine Ev.step (f := fun _ => some ((Int.gcd a 0 : Nat) : Int)) (fun k => ?_) (Ev.now _)
    simp only [serial_gcd.l0, if_true]
    rw [w64 (by omega) (by omega), mx_neg, Int.gcd_zero_right]
  | succ d ih =>
    intro a b hb ha0 ha1 hb0 hb1
    by_cases h : b = 0
    · subst h
      exact (ih a 0 (by simp) ha0 ha1 (by omega) (by omega))
    · have hm : (a.tmod b).natAbs < b.natAbs := by rw [Int.natAbs_tmod]; exact Nat.mod_lt _ (by omega)
      rw [← gcd_step a b]
      exact Ev.step (fun k => by simp only [serial_gcd.l0, if_neg h]) (ih b (a.tmod b) (by omega) hb0 hb1 (by omega) (by omega))
theorem ev_gcd (a b : Int) (ha0 : -9223372036854775807 ≤ a) (ha1 : a ≤ 9223372036854775807) (hb0 : -9223372036854775807 ≤ b) (hb1 : b ≤ 9223372036854775807) : Ev (fun k => serial_gcd.f k a b) (Int.gcd a b : Int) :=
  ev_gcd_l b.natAbs a b (Nat.le_refl _) ha0 ha1 hb0 hb1
theorem ev_Gcd_l (d : Nat) : ∀ (a b : Int), b.natAbs ≤ d → 0 ≤ a → 0 ≤ b → Ev (fun k => tickingref11_Gcd.l0 k a b) (Int.gcd a b : Int) := by
  induction d with
  | zero =>
    intro a b hb ha0 hb0
    obtain rfl : b = 0 := by omega
    refine Ev.step (f := fun _ => some ((Int.gcd a 0 : Nat) : Int)) (fun k => ?_) (Ev.now _)
    simp only [tickingref11_Gcd.l0]
    rw [if_neg (by omega), Int.gcd_zero_right]; congr 1; omega
  | succ d ih =>
    intro a b hb ha0 hb0
    by_cases h : b = 0
    · subst h
      exact (ih a 0 (by simp) ha0 (by omega))
    · have hm : (a.tmod b).natAbs < b.natAbs := by rw [Int.natAbs_tmod]; exact Nat.mod_lt _ (by omega)
      rw [← gcd_step a b]
      exact Ev.step (fun k => by simp only [tickingref11_Gcd.l0, if_neg h, if_pos (show b > 0 by omega)]) (ih b (a.tmod b) (by omega) hb0 (Int.tmod_nonneg _ ha0))
theorem ev_Gcd (a b : Int) (ha0 : 0 ≤ a) (hb0 : 0 ≤ b) : Ev (fun k => tickingref11_Gcd.f k a b) (Int.gcd a b : Int) :=
  ev_Gcd_l b.natAbs a b (Nat.le_refl _) ha0 hb0

def unitB (a n : Int) : Bool := decide (0 ≤ a) && decide (a < n) && decide (Int.gcd a n = 1)
theorem within_eq (a lo hi : Int) : serial_within.f a lo hi = some (decide (lo ≤ a) && decide (a ≤ hi)) := by
  unfold serial_within.f
  by_cases h : lo ≤ a <;> simp [h]
theorem ev_isUnit (a n : Int) (hn : 1 ≤ n) (hn2 : n ≤ 100000) : Ev (fun k => serial_isUnit.f k a n) (unitB a n) := by
  have hw : wrap64 (n - 1) = n - 1 := w64 (by omega) (by omega)
  by_cases h : 0 ≤ a ∧ a < n
  · have e1 : (decide (0 ≤ a) && decide (a ≤ n - 1)) = true := by simp; omega
    refine Ev.congr (f := fun k => (serial_gcd.f k a n).bind fun t => some (t == 1)) (fun k => ?_) ?_
    · unfold serial_isUnit.f; rw [within_eq, hw, e1]; simp only [Option.bind_some, if_true]
    · refine Ev.bind (ev_gcd a n (by omega) (by omega) (by omega) (by omega)) (Ev.some_ fun _ => ?_)
      unfold unitB
      have : ((Int.gcd a n : Int) == 1) = decide (Int.gcd a n = 1) := by
        by_cases e : Int.gcd a n = 1
        · simp [e]
        · simp [e]; omega
      simp [h.1, h.2, this]
  · have e1 : (decide (0 ≤ a) && decide (a ≤ n - 1)) = false := by simp; omega
    have e2 : unitB a n = false := by unfold unitB; simp; omega
    rw [e2]
    refine Ev.some_ fun k => ?_
    unfold serial_isUnit.f; rw [within_eq, hw, e1]; simp
theorem ev_Prime (a n : Int) (hn : 1 ≤ n) (hn2 : n ≤ 100000) : Ev (fun k => tickingref11_Prime.f k a n) (unitB a n) := by
  by_cases h : 0 ≤ a ∧ a < n
  · refine Ev.congr (f := fun k => (tickingref11_Gcd.f k a n).bind fun t => some (t == 1)) (fun k => ?_) ?_
    · unfold tickingref11_Prime.f; rw [if_pos h.1, if_pos h.2]
    · refine Ev.bind (ev_Gcd a n (by omega) (by omega)) (Ev.some_ fun _ => ?_)
      unfold unitB
      have : ((Int.gcd a n : Int) == 1) = decide (Int.gcd a n = 1) := by
        by_cases e : Int.gcd a n = 1
        · simp [e]
        · simp [e]; omega
      simp [h.1, h.2, this]
  · have e2 : unitB a n = false := by unfold unitB; simp; omega
    rw [e2]
    refine Ev.some_ fun k => ?_
    unfold tickingref11_Prime.f
    by_cases h0 : a ≥ 0
    · rw [if_pos h0, if_neg (fun h1 => h ⟨h0, h1⟩)]
    · rw [if_neg h0]

theorem ev_ints_l (a : List Int) (ha : a.length ≤ 1000000000) (d : Nat) : ∀ (b : List Int) (i : Nat), a.length = b.length → i + d = a.length → a.take i = b.take i → Ev (fun k => tickinglaw11_ints.l0 k a b i) (decide (a = b)) := by
  induction d with
  | zero =>
    intro b i hl hi ht
    have : a = b := by rw [List.take_of_length_le (by omega), List.take_of_length_le (by omega)] at ht; exact ht
    refine Ev.step (f := fun _ => some (decide (a = b))) (fun k => ?_) (Ev.now _)
    simp only [tickinglaw11_ints.l0]; rw [if_neg (by omega)]; simp [this]
  | succ d ih =>
    intro b i hl hi ht
    have e1 : rd a (i : Int) = a[i] := rd_nat a i (by omega)
    have e2 : rd b (i : Int) = b[i] := rd_nat b i (by omega)
    by_cases h : a[i] = b[i]'(by omega)
    · refine Ev.step (fun k => ?_) (ih b (i + 1) hl (by omega) (by rw [List.take_succ_eq_append_getElem (by omega), List.take_succ_eq_append_getElem (by omega), ht, h]))
      simp only [tickinglaw11_ints.l0]; rw [if_pos (by omega), if_pos (by omega), if_pos (by omega), if_pos (by rw [e1, e2]; exact h), w64 (by omega) (by omega)]; rfl
    · have : ¬ a = b := fun e => h (by subst e; rfl)
      refine Ev.step (f := fun _ => some (decide (a = b))) (fun k => ?_) (Ev.now _)
      simp only [tickinglaw11_ints.l0]; rw [if_pos (by omega), if_pos (by omega), if_pos (by omega), if_neg (by rw [e1, e2]; exact h)]; simp [this]
theorem ev_ints (a b : List Int) (ha : a.length ≤ 1000000000) : Ev (fun k => tickinglaw11_ints.f k a b) (decide (a = b)) := by
  by_cases h : a.length = b.length
  · exact Ev.congr (fun k => by unfold tickinglaw11_ints.f; rw [if_pos (by omega)]; rfl) (ev_ints_l a ha a.length b 0 h (by omega) rfl)
  · have : ¬ a = b := fun e => h (by rw [e])
    exact Ev.some_ fun k => by unfold tickinglaw11_ints.f; rw [if_neg (by omega)]; simp [this]
set_option maxRecDepth 100000 in
theorem awake_k : tickinglaw11_awake.f 400 = some true := by decide +kernel
theorem ev_awake : Ev (fun k => tickinglaw11_awake.f k) true := Ev.of (tickinglaw11_awake.mono) awake_k
end Go.Proofs.Ytdkncfmlehcjmaa.X
end

section
namespace Go.Proofs.Ytdkncfmlehcjmaa.X
open Go.RowKit Go.Proofs.YtdkncfmlehcjmaaW.PrintWords Go.Proofs.YtdkncfmlehcjmaaW.PrintLast Go.Proofs.YtdkncfmlehcjmaaW.PrintMore
attribute [local go_sem] max2_int min2_int max_two min_two max_three min_three max_four min_four   -- for this text's walks alone
set_option linter.unusedVariables false
set_option linter.unusedSimpArgs false

mutual
def tickingref11_Table.j0 : Nat → List (List Int) → Int → Bool → Option (Bool)
 | 0, _, _, _ => none
 | k + 1, x0, x3, x15 => if x15 = true then (some false) else (tickingref11_Table.l0 k x0 x3 0)
def tickingref11_Table.l0 : Nat → List (List Int) → Int → Int → Option (Bool)
 | 0, _, _, _ => none
 | k + 1, x0, x3, x4 => if x4 < x3 then (if 0 ≤ x4 then (if x4 < (x0.length : Int) then (if ((rd_L1 x0 x4).length : Int) = x3 then (tickingref11_Table.l0 k x0 x3 (wrap64 (x4 + 1))) else (some false)) else (none)) else (none)) else (tickingref11_Table.l1 k x0 x3 0)
def tickingref11_Table.l1 : Nat → List (List Int) → Int → Int → Option (Bool)
 | 0, _, _, _ => none
 | k + 1, x0, x3, x5 => if x5 < x3 then (tickingref11_Table.l2 k x0 x3 x5 0) else (some true)
def tickingref11_Table.l2 : Nat → List (List Int) → Int → Int → Int → Option (Bool)
 | 0, _, _, _, _ => none
 | k + 1, x0, x3, x5, x6 => if x6 < x3 then (if 0 ≤ x5 then (if x5 < (x0.length : Int) then (if 0 ≤ x6 then (if x6 < ((rd_L1 x0 x5).length : Int) then (if (rd (rd_L1 x0 x5) x6) < 0 then (tickingref11_Table.j4 k x0 x3 x5 x6 true) else (tickingref11_Table.j4 k x0 x3 x5 x6 (decide ((rd (rd_L1 x0 x5) x6) ≥ x3)))) else (none)) else (none)) else (none)) else (none)) else (tickingref11_Table.l1 k x0 x3 (wrap64 (x5 + 1)))
def tickingref11_Table.j4 : Nat → List (List Int) → Int → Int → Int → Bool → Option (Bool)
 | 0, _, _, _, _, _ => none
 | k + 1, x0, x3, x5, x6, x56 => if x56 = true then (some false) else (tickingref11_Table.l3 k x0 x3 x5 x6 0)
def tickingref11_Table.l3 : Nat → List (List Int) → Int → Int → Int → Int → Option (Bool)
 | 0, _, _, _, _, _ => none
 | k + 1, x0, x3, x5, x6, x7 => if x7 < x6 then (if 0 ≤ x5 then (if x5 < (x0.length : Int) then (if 0 ≤ x7 then (if x7 < ((rd_L1 x0 x5).length : Int) then (if 0 ≤ x6 then (if x6 < ((rd_L1 x0 x5).length : Int) then (if (rd (rd_L1 x0 x5) x7) = (rd (rd_L1 x0 x5) x6) then (some false) else (if x7 < (x0.length : Int) then (if x5 < ((rd_L1 x0 x7).length : Int) then (if x6 < (x0.length : Int) then (if x5 < ((rd_L1 x0 x6).length : Int) then (if (rd (rd_L1 x0 x7) x5) = (rd (rd_L1 x0 x6) x5) then (some false) else (tickingref11_Table.l3 k x0 x3 x5 x6 (wrap64 (x7 + 1)))) else (none)) else (none)) else (none)) else (none))) else (none)) else (none)) else (none)) else (none)) else (none)) else (none)) else (tickingref11_Table.l2 k x0 x3 x5 (wrap64 (x6 + 1)))
end
def tickingref11_Table.f (k : Nat) (l0 : List (List Int)) : Option (Bool) := if (l0.length : Int) < 2 then (tickingref11_Table.j0 k l0 (l0.length : Int) true) else (tickingref11_Table.j0 k l0 (l0.length : Int) (decide ((l0.length : Int) > 12)))
set_option maxHeartbeats 8000000 in
set_option maxRecDepth 100000 in
theorem tickingref11_Table.calls (k : Nat) (A0 : Option Addr) (c0 : Nat) (l0 : List (List Int)) (r : Bool) (w : World) (hr0 : Kd.C (Kd.slice 3 (Kd.int .i64)) w A0 l0.length l0) (hc0 : l0.length ≤ c0) (h : tickingref11_Table.f k l0 = some r) :
  Calls Try.prog 35 #[.slice A0 l0.length c0] w fun e w' => e = .returned (.bool r) ∧ Drawn0 w w' := by
 have HR0 := Aside0.mk hr0
 have HC0 := Aside0.mk hc0
 clear hr0 hc0
 have H : (if (l0.length : Int) < 2 then (tickingref11_Table.j0 k l0 (l0.length : Int) true) else (tickingref11_Table.j0 k l0 (l0.length : Int) (decide ((l0.length : Int) > 12)))) = some r := h
 clear h
 have HC2 := Aside0.mk H
 clear H
 go_enter Try.func35, Try.ntmps35
 go_upto_region 2 with (fail)
 repeat (go_quiet (fail); go_upto_region 2 with (fail))
 go_cut [15] (fun v15 wc => ∃ (kq : Nat) (x15_1 : Bool), v15 = .bool x15_1 ∧ Aside0 (tickingref11_Table.j0 kq l0 (l0.length : Int) x15_1 = some r) ∧ Aside0 (kq ≤ k) ∧ Drawn0 w wc)
 case first =>
  have H := HC2.out
  clear HC2
  by_cases c3 : (l0.length : Int) < 2
  ·rw [if_pos c3] at H
   have c3b0 : decide ((l0.length : Int) < 2) = true := decide_eq_true c3
   have c3b1 : decide (l0.length < 2) = true := decide_eq_true (by omega)
   clear c3
   (first | rw [c3b0] | (simp only [i64_w, i32_w]; rw [c3b0]) | skip)
   have H' := Aside0.mk H
   clear H
   go_wp2
   repeat (go_quiet (fail); try go_wp2)
   go_meet
   case rel => exact ⟨_, (true), (by first | rfl | (simp; done) | (simp [*]; done)), H', ⟨by first | omega | exact Nat.le_refl _⟩, by repeat (first | exact Drawn0.refl _ | apply Drawn0.step)⟩
  ·rw [if_neg c3] at H
   have c3b0 : decide ((l0.length : Int) < 2) = false := decide_eq_false c3
   have c3b1 : decide (l0.length < 2) = false := decide_eq_false (by omega)
   clear c3
   (first | rw [c3b0] | (simp only [i64_w, i32_w]; rw [c3b0]) | skip)
   have H' := Aside0.mk H
   clear H
   go_wp2
   repeat (go_quiet (fail); try go_wp2)
   go_meet
   case rel => exact ⟨_, (decide ((l0.length : Int) > 12)), (by first | rfl | (simp; done) | (simp [*]; done)), H', ⟨by first | omega | exact Nat.le_refl _⟩, by repeat (first | exact Drawn0.refl _ | apply Drawn0.step)⟩
 case rest =>
  clear HC2
  try clear p2
  try clear c3
  try clear c3b0
  try clear c3b1
  obtain ⟨kq, x15_1, rfl, HA, HJ1, ⟨mc1, rfl⟩⟩ := hcut
  cases kq with
  | zero => exact absurd HA.out (by simp [tickingref11_Table.j0])
  | succ kj1 =>
   have H := HA.out
   clear HA
   simp only [tickingref11_Table.j0] at H
   by_cases c4 : x15_1 = true
   ·subst c4
    have H1 : (some false) = some r := by rw [if_pos rfl] at H; exact H
    clear H
    have H := H1
    clear H1
    obtain rfl := Option.some.inj H
    go_wp2
    repeat (go_quiet (fail); try go_wp2)
    go_ret
    exact ⟨by first | rfl | (simp; done) | (simp [*]; done), by repeat (first | exact Drawn0.refl _ | apply Drawn0.step)⟩
   ·replace c4 := Bool.eq_false_iff.mpr c4
    subst c4
    have H1 : (tickingref11_Table.l0 kj1 l0 (l0.length : Int) 0) = some r := by rw [if_neg (show ¬ (false = true) by decide)] at H; exact H
    clear H
    have H := H1
    clear H1
    have H' := Aside0.mk H
    clear H
    go_wp2
    repeat (go_quiet (fail); try go_wp2)
    go_loopg [4] kj1 (fun kq v4 w' => ∃ (x4_2 : Int), v4 = .int .i64 x4_2 ∧ Aside0 (tickingref11_Table.l0 kq l0 (l0.length : Int) x4_2 = some r) ∧ Aside0 (kq ≤ kj1) ∧ Drawn0 w w')
    case atStart => exact ⟨(0), (by first | rfl | (simp; done) | (simp [*]; done)), H', ⟨Nat.le_refl _⟩, by repeat (first | exact Drawn0.refl _ | apply Drawn0.step)⟩
    case round =>
     clear H'
     try clear c1
     try clear p2
     try clear c3
     try clear c3b0
     try clear c3b1
     try clear c4
     try clear p2
     obtain ⟨x4_2, rfl, HA, HK2, ⟨m2, rfl⟩⟩ := hrel
     cases gk with
     | zero => exact absurd HA.out (by simp [tickingref11_Table.l0])
     | succ k2 =>
      have H := HA.out
      clear HA
      simp only [tickingref11_Table.l0] at H
      by_cases c5 : x4_2 < (l0.length : Int)
      ·rw [if_pos c5] at H
       have c5b0 : decide (x4_2 < (l0.length : Int)) = true := decide_eq_true c5
       clear c5
       by_cases c6 : 0 ≤ x4_2
       ·rw [if_pos c6] at H
        have c6b0 : decide (0 ≤ x4_2) = true := decide_eq_true c6
        clear c6
        by_cases c7 : x4_2 < (l0.length : Int)
        ·rw [if_pos c7] at H
         have c7b0 : decide (x4_2 < (l0.length : Int)) = true := decide_eq_true c7
         clear c7
         by_cases c8 : ((rd_L1 l0 x4_2).length : Int) = (l0.length : Int)
         ·rw [if_pos c8] at H
          have c8b0 : (((rd_L1 l0 x4_2).length : Int) == (l0.length : Int)) = true := beq_iff_eq.mpr c8
          have c8b1 : (((rd_L1 l0 x4_2).length : Int) != (l0.length : Int)) = false := bne_eq_false_iff_eq.mpr c8
          have c8b2 : ((rd_L1 l0 x4_2).length == l0.length) = true := by first | simpa using c8 | (simp at c8 ⊢; omega)
          clear c8
          have H' := Aside0.mk H
          clear H
          have p108 : 0 ≤ (x4_2 : Int) := of_decide_eq_true (by first | (with_reducible assumption) | assumption)
          have q108 : x4_2 < (l0.length : Int) := of_decide_eq_true (by first | (with_reducible assumption) | assumption)
          obtain ⟨ad108, A108_0, c108_0, e108, hx108_0, hl108_0, hi108_0⟩ := at_L1 HR0.out x4_2 p108 q108
          cases e108
          have HR108_0 := Aside0.mk hi108_0
          have HC108_0 := Aside0.mk hl108_0
          clear hi108_0 hl108_0
          replace p108 := eq_true p108
          replace q108 := eq_true q108
          go_wp2
          repeat (go_quiet (fail); try go_wp2)
          go_roundg k2
          case measure => have := HJ1.out; have := HK2.out; omega
          case rel => exact ⟨(wrap64 (x4_2 + 1)), (by first | rfl | (simp; done) | (simp [*]; done)), H', ⟨by have := HJ1.out; have := HK2.out; omega⟩, by repeat (first | exact Drawn0.refl _ | apply Drawn0.step)⟩
         ·rw [if_neg c8] at H
          have c8b0 : (((rd_L1 l0 x4_2).length : Int) == (l0.length : Int)) = false := beq_eq_false_iff_ne.mpr c8
          have c8b1 : (((rd_L1 l0 x4_2).length : Int) != (l0.length : Int)) = true := bne_iff_ne.mpr c8
          have c8b2 : ((rd_L1 l0 x4_2).length == l0.length) = false := by first | simpa using c8 | (simp at c8 ⊢; omega)
          obtain rfl := Option.some.inj H
          have p108 : 0 ≤ (x4_2 : Int) := of_decide_eq_true (by first | (with_reducible assumption) | assumption)
          have q108 : x4_2 < (l0.length : Int) := of_decide_eq_true (by first | (with_reducible assumption) | assumption)
          obtain ⟨ad108, A108_0, c108_0, e108, hx108_0, hl108_0, hi108_0⟩ := at_L1 HR0.out x4_2 p108 q108
          cases e108
          have HR108_0 := Aside0.mk hi108_0
          have HC108_0 := Aside0.mk hl108_0
          clear hi108_0 hl108_0
          replace p108 := eq_true p108
          replace q108 := eq_true q108
          go_wp2
          repeat (go_quiet (fail); try go_wp2)
          go_ret
          exact ⟨by first | rfl | (simp; done) | (simp [*]; done), by repeat (first | exact Drawn0.refl _ | apply Drawn0.step)⟩
        ·rw [if_neg c7] at H
         exact absurd H (by simp)
       ·rw [if_neg c6] at H
        exact absurd H (by simp)
      ·rw [if_neg c5] at H
       have c5b0 : decide (x4_2 < (l0.length : Int)) = false := decide_eq_false c5
       clear c5
       have H' := Aside0.mk H
       clear H
       go_wp2
       repeat (go_quiet (fail); try go_wp2)
       go_loopg [5] k2 (fun kq v5 w' => ∃ (x5_3 : Int), v5 = .int .i64 x5_3 ∧ Aside0 (tickingref11_Table.l1 kq l0 (l0.length : Int) x5_3 = some r) ∧ Aside0 (kq ≤ k2) ∧ Drawn0 w w')
       case atStart => exact ⟨(0), (by first | rfl | (simp; done) | (simp [*]; done)), H', ⟨Nat.le_refl _⟩, by repeat (first | exact Drawn0.refl _ | apply Drawn0.step)⟩
       case round =>
        clear H'
        try clear c1
        try clear p1
        try clear q1
        try clear hx1
        try clear p2
        try clear c3
        try clear c3b0
        try clear c3b1
        try clear c4
        try clear c5
        try clear c5b0
        try clear c6
        try clear c6b0
        try clear p6
        try clear c7
        try clear c7b0
        try clear c8
        try clear c8b0
        try clear c8b1
        try clear c8b2
        try clear hx108_0
        try clear p108
        try clear p2
        try clear q108
        obtain ⟨x5_3, rfl, HA, HK3, ⟨m3, rfl⟩⟩ := hrel
        cases gk with
        | zero => exact absurd HA.out (by simp [tickingref11_Table.l1])
        | succ k3 =>
         have H := HA.out
         clear HA
         simp only [tickingref11_Table.l1] at H
         by_cases c9 : x5_3 < (l0.length : Int)
         ·rw [if_pos c9] at H
          have c9b0 : decide (x5_3 < (l0.length : Int)) = true := decide_eq_true c9
          clear c9
          have H' := Aside0.mk H
          clear H
          go_wp2
          repeat (go_quiet (fail); try go_wp2)
          go_loopg [6] k3 (fun kq v6 w' => ∃ (x6_4 : Int), v6 = .int .i64 x6_4 ∧ Aside0 (tickingref11_Table.l2 kq l0 (l0.length : Int) x5_3 x6_4 = some r) ∧ Aside0 (kq ≤ k3) ∧ Drawn0 w w')
          case atStart => exact ⟨(0), (by first | rfl | (simp; done) | (simp [*]; done)), H', ⟨Nat.le_refl _⟩, by repeat (first | exact Drawn0.refl _ | apply Drawn0.step)⟩
          case round =>
           clear H'
           try clear c1
           try clear p1
           try clear q1
           try clear hx1
           try clear p2
           try clear c3
           try clear c3b0
           try clear c3b1
           try clear c4
           try clear c5
           try clear c5b0
           try clear c6
           try clear c6b0
           try clear p6
           try clear c7
           try clear c7b0
           try clear c8
           try clear c8b0
           try clear c8b1
           try clear c8b2
           try clear c9
           try clear c9b0
           try clear hx108_0
           try clear p1
           try clear p108
           try clear p2
           try clear p6
           try clear q1
           try clear q108
           obtain ⟨x6_4, rfl, HA, HK4, ⟨m4, rfl⟩⟩ := hrel
           cases gk with
           | zero => exact absurd HA.out (by simp [tickingref11_Table.l2])
           | succ k4 =>
            have H := HA.out
            clear HA
            simp only [tickingref11_Table.l2] at H
            by_cases c10 : x6_4 < (l0.length : Int)
            ·rw [if_pos c10] at H
             have c10b0 : decide (x6_4 < (l0.length : Int)) = true := decide_eq_true c10
             clear c10
             have HC11 := Aside0.mk H
             clear H
             go_upto_region 15 with (fail)
             repeat (go_quiet (fail); go_upto_region 15 with (fail))
             go_cut [56] (fun v56 wc => ∃ (kq : Nat) (x56_10 : Bool), v56 = .bool x56_10 ∧ Aside0 (tickingref11_Table.j4 kq l0 (l0.length : Int) x5_3 x6_4 x56_10 = some r) ∧ Aside0 (kq ≤ k4) ∧ Drawn0 w wc)
             case first =>
              have H := HC11.out
              clear HC11
              by_cases c12 : 0 ≤ x5_3
              ·rw [if_pos c12] at H
               have c12b0 : decide (0 ≤ x5_3) = true := decide_eq_true c12
               clear c12
               (first | rw [c12b0] | (simp only [i64_w, i32_w]; rw [c12b0]) | skip)
               by_cases c13 : x5_3 < (l0.length : Int)
               ·rw [if_pos c13] at H
                have c13b0 : decide (x5_3 < (l0.length : Int)) = true := decide_eq_true c13
                clear c13
                by_cases c14 : 0 ≤ x6_4
                ·rw [if_pos c14] at H
                 have c14b0 : decide (0 ≤ x6_4) = true := decide_eq_true c14
                 clear c14
                 by_cases c15 : x6_4 < ((rd_L1 l0 x5_3).length : Int)
                 ·rw [if_pos c15] at H
                  have c15b0 : decide (x6_4 < ((rd_L1 l0 x5_3).length : Int)) = true := decide_eq_true c15
                  clear c15
                  by_cases c16 : (rd (rd_L1 l0 x5_3) x6_4) < 0
                  ·rw [if_pos c16] at H
                   have c16b0 : decide ((rd (rd_L1 l0 x5_3) x6_4) < 0) = true := decide_eq_true c16
                   clear c16
                   have H' := Aside0.mk H
                   clear H
                   have p109 : 0 ≤ (x5_3 : Int) := of_decide_eq_true (by first | (with_reducible assumption) | assumption)
                   have q109 : x5_3 < (l0.length : Int) := of_decide_eq_true (by first | (with_reducible assumption) | assumption)
                   obtain ⟨ad109, A109_0, c109_0, e109, hx109_0, hl109_0, hi109_0⟩ := at_L1 HR0.out x5_3 p109 q109
                   cases e109
                   have HR109_0 := Aside0.mk hi109_0
                   have HC109_0 := Aside0.mk hl109_0
                   clear hi109_0 hl109_0
                   replace p109 := eq_true p109
                   replace q109 := eq_true q109
                   have p110 : 0 ≤ (x6_4 : Int) := of_decide_eq_true (by first | (with_reducible assumption) | assumption)
                   have q110 : x6_4 < ((rd_L1 l0 x5_3).length : Int) := of_decide_eq_true (by first | (with_reducible assumption) | assumption)
                   obtain ⟨ad110, e110, hx110_0⟩ := Kd.at_int HR109_0.out x6_4 p110 q110
                   cases e110
                   replace p110 := eq_true p110
                   replace q110 := eq_true q110
                   go_wp2
                   repeat (go_quiet (fail); try go_wp2)
                   go_meet
                   case rel => exact ⟨_, (true), (by first | rfl | (simp; done) | (simp [*]; done)), H', ⟨by have := HJ1.out; have := HK2.out; have := HK3.out; have := HK4.out; first | omega | exact Nat.le_refl _⟩, by repeat (first | exact Drawn0.refl _ | apply Drawn0.step)⟩
                  ·rw [if_neg c16] at H
                   have c16b0 : decide ((rd (rd_L1 l0 x5_3) x6_4) < 0) = false := decide_eq_false c16
                   clear c16
                   have H' := Aside0.mk H
                   clear H
                   have p109 : 0 ≤ (x5_3 : Int) := of_decide_eq_true (by first | (with_reducible assumption) | assumption)
                   have q109 : x5_3 < (l0.length : Int) := of_decide_eq_true (by first | (with_reducible assumption) | assumption)
                   obtain ⟨ad109, A109_0, c109_0, e109, hx109_0, hl109_0, hi109_0⟩ := at_L1 HR0.out x5_3 p109 q109
                   cases e109
                   have HR109_0 := Aside0.mk hi109_0
                   have HC109_0 := Aside0.mk hl109_0
                   clear hi109_0 hl109_0
                   replace p109 := eq_true p109
                   replace q109 := eq_true q109
                   have p110 : 0 ≤ (x6_4 : Int) := of_decide_eq_true (by first | (with_reducible assumption) | assumption)
                   have q110 : x6_4 < ((rd_L1 l0 x5_3).length : Int) := of_decide_eq_true (by first | (with_reducible assumption) | assumption)
                   obtain ⟨ad110, e110, hx110_0⟩ := Kd.at_int HR109_0.out x6_4 p110 q110
                   cases e110
                   replace p110 := eq_true p110
                   replace q110 := eq_true q110
                   have p111 : 0 ≤ (x5_3 : Int) := of_decide_eq_true (by first | (with_reducible assumption) | assumption)
                   have q111 : x5_3 < (l0.length : Int) := of_decide_eq_true (by first | (with_reducible assumption) | assumption)
                   obtain ⟨ad111, A111_0, c111_0, e111, hx111_0, hl111_0, hi111_0⟩ := at_L1 HR0.out x5_3 p111 q111
                   obtain rfl : ad109 = ad111 := (by injection e111)
                   have HR111_0 := Aside0.mk hi111_0
                   have HC111_0 := Aside0.mk hl111_0
                   clear hi111_0 hl111_0
                   replace p111 := eq_true p111
                   replace q111 := eq_true q111
                   have ea_ := Option.some.inj (hx109_0.symm.trans hx111_0)
                   injection ea_ with ea_ en_ ec_
                   subst ea_
                   subst ec_
                   clear en_
                   have p112 : 0 ≤ (x6_4 : Int) := of_decide_eq_true (by first | (with_reducible assumption) | assumption)
                   have q112 : x6_4 < ((rd_L1 l0 x5_3).length : Int) := of_decide_eq_true (by first | (with_reducible assumption) | assumption)
                   obtain ⟨ad112, e112, hx112_0⟩ := Kd.at_int HR111_0.out x6_4 p112 q112
                   cases e112
                   replace p112 := eq_true p112
                   replace q112 := eq_true q112
                   go_wp2
                   repeat (go_quiet (fail); try go_wp2)
                   go_meet
                   case rel => exact ⟨_, (decide ((rd (rd_L1 l0 x5_3) x6_4) ≥ (l0.length : Int))), (by first | rfl | (simp; done) | (simp [*]; done)), H', ⟨by have := HJ1.out; have := HK2.out; have := HK3.out; have := HK4.out; first | omega | exact Nat.le_refl _⟩, by repeat (first | exact Drawn0.refl _ | apply Drawn0.step)⟩
                 ·rw [if_neg c15] at H
                  exact absurd H (by simp)
                ·rw [if_neg c14] at H
                 exact absurd H (by simp)
               ·rw [if_neg c13] at H
                exact absurd H (by simp)
              ·rw [if_neg c12] at H
               exact absurd H (by simp)
             case rest =>
              clear HC11
              try clear c1
              try clear p1
              try clear q1
              try clear hx1
              try clear p2
              try clear c3
              try clear c3b0
              try clear c3b1
              try clear c4
              try clear c5
              try clear c5b0
              try clear c6
              try clear c6b0
              try clear p6
              try clear c7
              try clear c7b0
              try clear c8
              try clear c8b0
              try clear c8b1
              try clear c8b2
              try clear c9
              try clear c9b0
              try clear c10
              try clear c10b0
              try clear p10
              try clear q10
              try clear hx10
              try clear c11
              try clear p11
              try clear q11
              try clear hx11
              try clear c12
              try clear c12b0
              try clear c13
              try clear c13b0
              try clear c14
              try clear c14b0
              try clear c15
              try clear c15b0
              try clear c16
              try clear c16b0
              try clear hx108_0
              try clear hx109_0
              try clear hx110_0
              try clear hx111_0
              try clear hx112_0
              try clear p1
              try clear p108
              try clear p109
              try clear p110
              try clear p111
              try clear p112
              try clear p2
              try clear p6
              try clear q1
              try clear q108
              try clear q109
              try clear q110
              try clear q111
              try clear q112
              obtain ⟨kq, x56_10, rfl, HA, HJ10, ⟨mc10, rfl⟩⟩ := hcut
              cases kq with
              | zero => exact absurd HA.out (by simp [tickingref11_Table.j4])
              | succ kj10 =>
               have H := HA.out
               clear HA
               simp only [tickingref11_Table.j4] at H
               by_cases c17 : x56_10 = true
               ·subst c17
                have H1 : (some false) = some r := by rw [if_pos rfl] at H; exact H
                clear H
                have H := H1
                clear H1
                obtain rfl := Option.some.inj H
                go_wp2
                repeat (go_quiet (fail); try go_wp2)
                go_ret
                exact ⟨by first | rfl | (simp; done) | (simp [*]; done), by repeat (first | exact Drawn0.refl _ | apply Drawn0.step)⟩
               ·replace c17 := Bool.eq_false_iff.mpr c17
                subst c17
                have H1 : (tickingref11_Table.l3 kj10 l0 (l0.length : Int) x5_3 x6_4 0) = some r := by rw [if_neg (show ¬ (false = true) by decide)] at H; exact H
                clear H
                have H := H1
                clear H1
                have H' := Aside0.mk H
                clear H
                go_wp2
                repeat (go_quiet (fail); try go_wp2)
                go_loopg [7] kj10 (fun kq v7 w' => ∃ (x7_6 : Int), v7 = .int .i64 x7_6 ∧ Aside0 (tickingref11_Table.l3 kq l0 (l0.length : Int) x5_3 x6_4 x7_6 = some r) ∧ Aside0 (kq ≤ kj10) ∧ Drawn0 w w')
                case atStart => exact ⟨(0), (by first | rfl | (simp; done) | (simp [*]; done)), H', ⟨Nat.le_refl _⟩, by repeat (first | exact Drawn0.refl _ | apply Drawn0.step)⟩
                case round =>
                 clear H'
                 try clear c1
                 try clear p1
                 try clear q1
                 try clear hx1
                 try clear p2
                 try clear c3
                 try clear c3b0
                 try clear c3b1
                 try clear c4
                 try clear c5
                 try clear c5b0
                 try clear c6
                 try clear c6b0
                 try clear p6
                 try clear c7
                 try clear c7b0
                 try clear c8
                 try clear c8b0
                 try clear c8b1
                 try clear c8b2
                 try clear c9
                 try clear c9b0
                 try clear c10
                 try clear c10b0
                 try clear p10
                 try clear q10
                 try clear hx10
                 try clear c11
                 try clear p11
                 try clear q11
                 try clear hx11
                 try clear c12
                 try clear c12b0
                 try clear c13
                 try clear c13b0
                 try clear c14
                 try clear c14b0
                 try clear c15
                 try clear c15b0
                 try clear c16
                 try clear c16b0
                 try clear c17
                 try clear hx108_0
                 try clear hx109_0
                 try clear hx110_0
                 try clear hx111_0
                 try clear hx112_0
                 try clear p1
                 try clear p10
                 try clear p108
                 try clear p109
                 try clear p11
                 try clear p110
                 try clear p111
                 try clear p112
                 try clear p2
                 try clear p6
                 try clear q1
                 try clear q10
                 try clear q108
                 try clear q109
                 try clear q11
                 try clear q110
                 try clear q111
                 try clear q112
                 obtain ⟨x7_6, rfl, HA, HK6, ⟨m6, rfl⟩⟩ := hrel
                 cases gk with
                 | zero => exact absurd HA.out (by simp [tickingref11_Table.l3])
                 | succ k6 =>
                  have H := HA.out
                  clear HA
                  simp only [tickingref11_Table.l3] at H
                  by_cases c18 : x7_6 < x6_4
                  ·rw [if_pos c18] at H
                   have c18b0 : decide (x7_6 < x6_4) = true := decide_eq_true c18
                   clear c18
                   by_cases c19 : 0 ≤ x5_3
                   ·rw [if_pos c19] at H
                    have c19b0 : decide (0 ≤ x5_3) = true := decide_eq_true c19
                    clear c19
                    by_cases c20 : x5_3 < (l0.length : Int)
                    ·rw [if_pos c20] at H
                     have c20b0 : decide (x5_3 < (l0.length : Int)) = true := decide_eq_true c20
                     clear c20
                     by_cases c21 : 0 ≤ x7_6
                     ·rw [if_pos c21] at H
                      have c21b0 : decide (0 ≤ x7_6) = true := decide_eq_true c21
                      clear c21
                      by_cases c22 : x7_6 < ((rd_L1 l0 x5_3).length : Int)
                      ·rw [if_pos c22] at H
                       have c22b0 : decide (x7_6 < ((rd_L1 l0 x5_3).length : Int)) = true := decide_eq_true c22
                       clear c22
                       by_cases c23 : 0 ≤ x6_4
                       ·rw [if_pos c23] at H
                        have c23b0 : decide (0 ≤ x6_4) = true := decide_eq_true c23
                        clear c23
                        by_cases c24 : x6_4 < ((rd_L1 l0 x5_3).length : Int)
                        ·rw [if_pos c24] at H
                         have c24b0 : decide (x6_4 < ((rd_L1 l0 x5_3).length : Int)) = true := decide_eq_true c24
                         clear c24
                         by_cases c25 : (rd (rd_L1 l0 x5_3) x7_6) = (rd (rd_L1 l0 x5_3) x6_4)
                         ·rw [if_pos c25] at H
                          have c25b0 : ((rd (rd_L1 l0 x5_3) x7_6) == (rd (rd_L1 l0 x5_3) x6_4)) = true := beq_iff_eq.mpr c25
                          have c25b1 : ((rd (rd_L1 l0 x5_3) x7_6) != (rd (rd_L1 l0 x5_3) x6_4)) = false := bne_eq_false_iff_eq.mpr c25
                          clear c25
                          obtain rfl := Option.some.inj H
                          have p113 : 0 ≤ (x5_3 : Int) := of_decide_eq_true (by first | (with_reducible assumption) | assumption)
                          have q113 : x5_3 < (l0.length : Int) := of_decide_eq_true (by first | (with_reducible assumption) | assumption)
                          obtain ⟨ad113, A113_0, c113_0, e113, hx113_0, hl113_0, hi113_0⟩ := at_L1 HR0.out x5_3 p113 q113
                          cases e113
                          have HR113_0 := Aside0.mk hi113_0
                          have HC113_0 := Aside0.mk hl113_0
                          clear hi113_0 hl113_0
                          replace p113 := eq_true p113
                          replace q113 := eq_true q113
                          have p114 : 0 ≤ (x7_6 : Int) := of_decide_eq_true (by first | (with_reducible assumption) | assumption)
                          have q114 : x7_6 < ((rd_L1 l0 x5_3).length : Int) := of_decide_eq_true (by first | (with_reducible assumption) | assumption)
                          obtain ⟨ad114, e114, hx114_0⟩ := Kd.at_int HR113_0.out x7_6 p114 q114
                          cases e114
                          replace p114 := eq_true p114
                          replace q114 := eq_true q114
                          have p115 : 0 ≤ (x5_3 : Int) := of_decide_eq_true (by first | (with_reducible assumption) | assumption)
                          have q115 : x5_3 < (l0.length : Int) := of_decide_eq_true (by first | (with_reducible assumption) | assumption)
                          obtain ⟨ad115, A115_0, c115_0, e115, hx115_0, hl115_0, hi115_0⟩ := at_L1 HR0.out x5_3 p115 q115
                          obtain rfl : ad113 = ad115 := (by injection e115)
                          have HR115_0 := Aside0.mk hi115_0
                          have HC115_0 := Aside0.mk hl115_0
                          clear hi115_0 hl115_0
                          replace p115 := eq_true p115
                          replace q115 := eq_true q115
                          have ea_ := Option.some.inj (hx113_0.symm.trans hx115_0)
                          injection ea_ with ea_ en_ ec_
                          subst ea_
                          subst ec_
                          clear en_
                          have p116 : 0 ≤ (x6_4 : Int) := of_decide_eq_true (by first | (with_reducible assumption) | assumption)
                          have q116 : x6_4 < ((rd_L1 l0 x5_3).length : Int) := of_decide_eq_true (by first | (with_reducible assumption) | assumption)
                          obtain ⟨ad116, e116, hx116_0⟩ := Kd.at_int HR115_0.out x6_4 p116 q116
                          cases e116
                          replace p116 := eq_true p116
                          replace q116 := eq_true q116
                          go_wp2
                          repeat (go_quiet (fail); try go_wp2)
                          go_ret
                          exact ⟨by first | rfl | (simp; done) | (simp [*]; done), by repeat (first | exact Drawn0.refl _ | apply Drawn0.step)⟩
                         ·rw [if_neg c25] at H
                          have c25b0 : ((rd (rd_L1 l0 x5_3) x7_6) == (rd (rd_L1 l0 x5_3) x6_4)) = false := beq_eq_false_iff_ne.mpr c25
                          have c25b1 : ((rd (rd_L1 l0 x5_3) x7_6) != (rd (rd_L1 l0 x5_3) x6_4)) = true := bne_iff_ne.mpr c25
                          by_cases c26 : x7_6 < (l0.length : Int)
                          ·rw [if_pos c26] at H
                           have c26b0 : decide (x7_6 < (l0.length : Int)) = true := decide_eq_true c26
                           clear c26
                           by_cases c27 : x5_3 < ((rd_L1 l0 x7_6).length : Int)
                           ·rw [if_pos c27] at H
                            have c27b0 : decide (x5_3 < ((rd_L1 l0 x7_6).length : Int)) = true := decide_eq_true c27
                            clear c27
                            by_cases c28 : x6_4 < (l0.length : Int)
                            ·rw [if_pos c28] at H
                             have c28b0 : decide (x6_4 < (l0.length : Int)) = true := decide_eq_true c28
                             clear c28
                             by_cases c29 : x5_3 < ((rd_L1 l0 x6_4).length : Int)
                             ·rw [if_pos c29] at H
                              have c29b0 : decide (x5_3 < ((rd_L1 l0 x6_4).length : Int)) = true := decide_eq_true c29
                              clear c29
                              by_cases c30 : (rd (rd_L1 l0 x7_6) x5_3) = (rd (rd_L1 l0 x6_4) x5_3)
                              ·rw [if_pos c30] at H
                               have c30b0 : ((rd (rd_L1 l0 x7_6) x5_3) == (rd (rd_L1 l0 x6_4) x5_3)) = true := beq_iff_eq.mpr c30
                               have c30b1 : ((rd (rd_L1 l0 x7_6) x5_3) != (rd (rd_L1 l0 x6_4) x5_3)) = false := bne_eq_false_iff_eq.mpr c30
                               clear c30
                               obtain rfl := Option.some.inj H
                               have p113 : 0 ≤ (x5_3 : Int) := of_decide_eq_true (by first | (with_reducible assumption) | assumption)
                               have q113 : x5_3 < (l0.length : Int) := of_decide_eq_true (by first | (with_reducible assumption) | assumption)
                               obtain ⟨ad113, A113_0, c113_0, e113, hx113_0, hl113_0, hi113_0⟩ := at_L1 HR0.out x5_3 p113 q113
                               cases e113
                               have HR113_0 := Aside0.mk hi113_0
                               have HC113_0 := Aside0.mk hl113_0
                               clear hi113_0 hl113_0
                               replace p113 := eq_true p113
                               replace q113 := eq_true q113
                               have p114 : 0 ≤ (x7_6 : Int) := of_decide_eq_true (by first | (with_reducible assumption) | assumption)
                               have q114 : x7_6 < ((rd_L1 l0 x5_3).length : Int) := of_decide_eq_true (by first | (with_reducible assumption) | assumption)
                               obtain ⟨ad114, e114, hx114_0⟩ := Kd.at_int HR113_0.out x7_6 p114 q114
                               cases e114
                               replace p114 := eq_true p114
                               replace q114 := eq_true q114
                               have p115 : 0 ≤ (x5_3 : Int) := of_decide_eq_true (by first | (with_reducible assumption) | assumption)
                               have q115 : x5_3 < (l0.length : Int) := of_decide_eq_true (by first | (with_reducible assumption) | assumption)
                               obtain ⟨ad115, A115_0, c115_0, e115, hx115_0, hl115_0, hi115_0⟩ := at_L1 HR0.out x5_3 p115 q115
                               obtain rfl : ad113 = ad115 := (by injection e115)
                               have HR115_0 := Aside0.mk hi115_0
                               have HC115_0 := Aside0.mk hl115_0
                               clear hi115_0 hl115_0
                               replace p115 := eq_true p115
                               replace q115 := eq_true q115
                               have ea_ := Option.some.inj (hx113_0.symm.trans hx115_0)
                               injection ea_ with ea_ en_ ec_
                               subst ea_
                               subst ec_
                               clear en_
                               have p116 : 0 ≤ (x6_4 : Int) := of_decide_eq_true (by first | (with_reducible assumption) | assumption)
                               have q116 : x6_4 < ((rd_L1 l0 x5_3).length : Int) := of_decide_eq_true (by first | (with_reducible assumption) | assumption)
                               obtain ⟨ad116, e116, hx116_0⟩ := Kd.at_int HR115_0.out x6_4 p116 q116
                               cases e116
                               replace p116 := eq_true p116
                               replace q116 := eq_true q116
                               have p117 : 0 ≤ (x7_6 : Int) := of_decide_eq_true (by first | (with_reducible assumption) | assumption)
                               have q117 : x7_6 < (l0.length : Int) := of_decide_eq_true (by first | (with_reducible assumption) | assumption)
                               obtain ⟨ad117, A117_0, c117_0, e117, hx117_0, hl117_0, hi117_0⟩ := at_L1 HR0.out x7_6 p117 q117
                               obtain rfl : ad113 = ad117 := (by injection e117)
                               have HR117_0 := Aside0.mk hi117_0
                               have HC117_0 := Aside0.mk hl117_0
                               clear hi117_0 hl117_0
                               replace p117 := eq_true p117
                               replace q117 := eq_true q117
                               have p118 : 0 ≤ (x5_3 : Int) := of_decide_eq_true (by first | (with_reducible assumption) | assumption)
                               have q118 : x5_3 < ((rd_L1 l0 x7_6).length : Int) := of_decide_eq_true (by first | (with_reducible assumption) | assumption)
                               obtain ⟨ad118, e118, hx118_0⟩ := Kd.at_int HR117_0.out x5_3 p118 q118
                               cases e118
                               replace p118 := eq_true p118
                               replace q118 := eq_true q118
                               have p119 : 0 ≤ (x6_4 : Int) := of_decide_eq_true (by first | (with_reducible assumption) | assumption)
                               have q119 : x6_4 < (l0.length : Int) := of_decide_eq_true (by first | (with_reducible assumption) | assumption)
                               obtain ⟨ad119, A119_0, c119_0, e119, hx119_0, hl119_0, hi119_0⟩ := at_L1 HR0.out x6_4 p119 q119
                               obtain rfl : ad113 = ad119 := (by injection e119)
                               have HR119_0 := Aside0.mk hi119_0
                               have HC119_0 := Aside0.mk hl119_0
                               clear hi119_0 hl119_0
                               replace p119 := eq_true p119
                               replace q119 := eq_true q119
                               have p120 : 0 ≤ (x5_3 : Int) := of_decide_eq_true (by first | (with_reducible assumption) | assumption)
                               have q120 : x5_3 < ((rd_L1 l0 x6_4).length : Int) := of_decide_eq_true (by first | (with_reducible assumption) | assumption)
                               obtain ⟨ad120, e120, hx120_0⟩ := Kd.at_int HR119_0.out x5_3 p120 q120
                               cases e120
                               replace p120 := eq_true p120
                               replace q120 := eq_true q120
                               go_wp2
                               repeat (go_quiet (fail); try go_wp2)
                               go_ret
                               exact ⟨by first | rfl | (simp; done) | (simp [*]; done), by repeat (first | exact Drawn0.refl _ | apply Drawn0.step)⟩
                              ·rw [if_neg c30] at H
                               have c30b0 : ((rd (rd_L1 l0 x7_6) x5_3) == (rd (rd_L1 l0 x6_4) x5_3)) = false := beq_eq_false_iff_ne.mpr c30
                               have c30b1 : ((rd (rd_L1 l0 x7_6) x5_3) != (rd (rd_L1 l0 x6_4) x5_3)) = true := bne_iff_ne.mpr c30
                               have H' := Aside0.mk H
                               clear H
                               have p113 : 0 ≤ (x5_3 : Int) := of_decide_eq_true (by first | (with_reducible assumption) | assumption)
                               have q113 : x5_3 < (l0.length : Int) := of_decide_eq_true (by first | (with_reducible assumption) | assumption)
                               obtain ⟨ad113, A113_0, c113_0, e113, hx113_0, hl113_0, hi113_0⟩ := at_L1 HR0.out x5_3 p113 q113
                               cases e113
                               have HR113_0 := Aside0.mk hi113_0
                               have HC113_0 := Aside0.mk hl113_0
                               clear hi113_0 hl113_0
                               replace p113 := eq_true p113
                               replace q113 := eq_true q113
                               have p114 : 0 ≤ (x7_6 : Int) := of_decide_eq_true (by first | (with_reducible assumption) | assumption)
                               have q114 : x7_6 < ((rd_L1 l0 x5_3).length : Int) := of_decide_eq_true (by first | (with_reducible assumption) | assumption)
                               obtain ⟨ad114, e114, hx114_0⟩ := Kd.at_int HR113_0.out x7_6 p114 q114
                               cases e114
                               replace p114 := eq_true p114
                               replace q114 := eq_true q114
                               have p115 : 0 ≤ (x5_3 : Int) := of_decide_eq_true (by first | (with_reducible assumption) | assumption)
                               have q115 : x5_3 < (l0.length : Int) := of_decide_eq_true (by first | (with_reducible assumption) | assumption)
                               obtain ⟨ad115, A115_0, c115_0, e115, hx115_0, hl115_0, hi115_0⟩ := at_L1 HR0.out x5_3 p115 q115
                               obtain rfl : ad113 = ad115 := (by injection e115)
                               have HR115_0 := Aside0.mk hi115_0
                               have HC115_0 := Aside0.mk hl115_0
                               clear hi115_0 hl115_0
                               replace p115 := eq_true p115
                               replace q115 := eq_true q115
                               have ea_ := Option.some.inj (hx113_0.symm.trans hx115_0)
                               injection ea_ with ea_ en_ ec_
                               subst ea_
                               subst ec_
                               clear en_
                               have p116 : 0 ≤ (x6_4 : Int) := of_decide_eq_true (by first | (with_reducible assumption) | assumption)
                               have q116 : x6_4 < ((rd_L1 l0 x5_3).length : Int) := of_decide_eq_true (by first | (with_reducible assumption) | assumption)
                               obtain ⟨ad116, e116, hx116_0⟩ := Kd.at_int HR115_0.out x6_4 p116 q116
                               cases e116
                               replace p116 := eq_true p116
                               replace q116 := eq_true q116
                               have p117 : 0 ≤ (x7_6 : Int) := of_decide_eq_true (by first | (with_reducible assumption) | assumption)
                               have q117 : x7_6 < (l0.length : Int) := of_decide_eq_true (by first | (with_reducible assumption) | assumption)
                               obtain ⟨ad117, A117_0, c117_0, e117, hx117_0, hl117_0, hi117_0⟩ := at_L1 HR0.out x7_6 p117 q117
                               obtain rfl : ad113 = ad117 := (by injection e117)
                               have HR117_0 := Aside0.mk hi117_0
                               have HC117_0 := Aside0.mk hl117_0
                               clear hi117_0 hl117_0
                               replace p117 := eq_true p117
                               replace q117 := eq_true q117
                               have p118 : 0 ≤ (x5_3 : Int) := of_decide_eq_true (by first | (with_reducible assumption) | assumption)
                               have q118 : x5_3 < ((rd_L1 l0 x7_6).length : Int) := of_decide_eq_true (by first | (with_reducible assumption) | assumption)
                               obtain ⟨ad118, e118, hx118_0⟩ := Kd.at_int HR117_0.out x5_3 p118 q118
                               cases e118
                               replace p118 := eq_true p118
                               replace q118 := eq_true q118
                               have p119 : 0 ≤ (x6_4 : Int) := of_decide_eq_true (by first | (with_reducible assumption) | assumption)
                               have q119 : x6_4 < (l0.length : Int) := of_decide_eq_true (by first | (with_reducible assumption) | assumption)
                               obtain ⟨ad119, A119_0, c119_0, e119, hx119_0, hl119_0, hi119_0⟩ := at_L1 HR0.out x6_4 p119 q119
                               obtain rfl : ad113 = ad119 := (by injection e119)
                               have HR119_0 := Aside0.mk hi119_0
                               have HC119_0 := Aside0.mk hl119_0
                               clear hi119_0 hl119_0
                               replace p119 := eq_true p119
                               replace q119 := eq_true q119
                               have p120 : 0 ≤ (x5_3 : Int) := of_decide_eq_true (by first | (with_reducible assumption) | assumption)
                               have q120 : x5_3 < ((rd_L1 l0 x6_4).length : Int) := of_decide_eq_true (by first | (with_reducible assumption) | assumption)
                               obtain ⟨ad120, e120, hx120_0⟩ := Kd.at_int HR119_0.out x5_3 p120 q120
                               cases e120
                               replace p120 := eq_true p120
                               replace q120 := eq_true q120
                               go_wp2
                               repeat (go_quiet (fail); try go_wp2)
                               go_roundg k6
                               case measure => have := HJ1.out; have := HK2.out; have := HK3.out; have := HK4.out; have := HJ10.out; have := HK6.out; omega
                               case rel => exact ⟨(wrap64 (x7_6 + 1)), (by first | rfl | (simp; done) | (simp [*]; done)), H', ⟨by have := HJ1.out; have := HK2.out; have := HK3.out; have := HK4.out; have := HJ10.out; have := HK6.out; omega⟩, by repeat (first | exact Drawn0.refl _ | apply Drawn0.step)⟩
                             ·rw [if_neg c29] at H
                              exact absurd H (by simp)
                            ·rw [if_neg c28] at H
                             exact absurd H (by simp)
                           ·rw [if_neg c27] at H
                            exact absurd H (by simp)
                          ·rw [if_neg c26] at H
                           exact absurd H (by simp)
                        ·rw [if_neg c24] at H
                         exact absurd H (by simp)
                       ·rw [if_neg c23] at H
                        exact absurd H (by simp)
                      ·rw [if_neg c22] at H
                       exact absurd H (by simp)
                     ·rw [if_neg c21] at H
                      exact absurd H (by simp)
                    ·rw [if_neg c20] at H
                     exact absurd H (by simp)
                   ·rw [if_neg c19] at H
                    exact absurd H (by simp)
                  ·rw [if_neg c18] at H
                   have c18b0 : decide (x7_6 < x6_4) = false := decide_eq_false c18
                   clear c18
                   have H' := Aside0.mk H
                   clear H
                   go_wp2
                   repeat (go_quiet (fail); try go_wp2)
                   go_roundg k6
                   case measure => have := HJ1.out; have := HK2.out; have := HK3.out; have := HK4.out; have := HJ10.out; have := HK6.out; omega
                   case rel => exact ⟨(wrap64 (x6_4 + 1)), (by first | rfl | (simp; done) | (simp [*]; done)), H', ⟨by have := HJ1.out; have := HK2.out; have := HK3.out; have := HK4.out; have := HJ10.out; have := HK6.out; omega⟩, by repeat (first | exact Drawn0.refl _ | apply Drawn0.step)⟩
            ·rw [if_neg c10] at H
             have c10b0 : decide (x6_4 < (l0.length : Int)) = false := decide_eq_false c10
             clear c10
             have H' := Aside0.mk H
             clear H
             go_wp2
             repeat (go_quiet (fail); try go_wp2)
             go_roundg k4
             case measure => have := HJ1.out; have := HK2.out; have := HK3.out; have := HK4.out; omega
             case rel => exact ⟨(wrap64 (x5_3 + 1)), (by first | rfl | (simp; done) | (simp [*]; done)), H', ⟨by have := HJ1.out; have := HK2.out; have := HK3.out; have := HK4.out; omega⟩, by repeat (first | exact Drawn0.refl _ | apply Drawn0.step)⟩
         ·rw [if_neg c9] at H
          have c9b0 : decide (x5_3 < (l0.length : Int)) = false := decide_eq_false c9
          clear c9
          obtain rfl := Option.some.inj H
          go_wp2
          repeat (go_quiet (fail); try go_wp2)
          go_ret
          exact ⟨by first | rfl | (simp; done) | (simp [*]; done), by repeat (first | exact Drawn0.refl _ | apply Drawn0.step)⟩

end Go.Proofs.Ytdkncfmlehcjmaa.X
end

section
namespace Go.Proofs.Ytdkncfmlehcjmaa.X
open Go.RowKit Go.Proofs.YtdkncfmlehcjmaaW.PrintWords Go.Proofs.YtdkncfmlehcjmaaW.PrintLast Go.Proofs.YtdkncfmlehcjmaaW.PrintMore
attribute [local go_sem] max2_int min2_int max_two min_two max_three min_three max_four min_four   -- for this text's walks alone
set_option linter.unusedVariables false
set_option linter.unusedSimpArgs false

def tickingref11_Digits.l0 : Nat → List Int → Int → Int → Int → Option (Bool)
 | 0, _, _, _, _ => none
 | k + 1, x0, x1, x2, x7 => if x7 < (x0.length : Int) then (if 0 ≤ x7 then (if (rd x0 x7) < 0 then (some false) else (if (rd x0 x7) ≥ x2 then (some false) else (tickingref11_Digits.l0 k x0 x1 x2 (wrap64 (x7 + 1))))) else (none)) else (some (decide ((x0.length : Int) ≤ x1)))
def tickingref11_Digits.f (k : Nat) (l0 : List Int) (a1 : Int) (a2 : Int) : Option (Bool) := tickingref11_Digits.l0 k l0 a1 a2 0
end Go.Proofs.Ytdkncfmlehcjmaa.X
end

section
namespace Go.Proofs.Ytdkncfmlehcjmaa.X
open Go.RowKit Go.Proofs.YtdkncfmlehcjmaaW.PrintWords Go.Proofs.YtdkncfmlehcjmaaW.PrintLast Go.Proofs.YtdkncfmlehcjmaaW.PrintMore
attribute [local go_sem] max2_int min2_int max_two min_two max_three min_three max_four min_four   -- for this text's walks alone
set_option linter.unusedVariables false
set_option linter.unusedSimpArgs false

def tickingref11_Trace.l0 : Nat → List (List Int) → List Int → Int → Int → Option (Int)
 | 0, _, _, _, _ => none
 | k + 1, x0, x1, x5, x6 => if x6 < (x1.length : Int) then (if 0 ≤ x5 then (if x5 < (x0.length : Int) then (if 0 ≤ x6 then (if 0 ≤ (rd x1 x6) then (if (rd x1 x6) < ((rd_L1 x0 x5).length : Int) then (tickingref11_Trace.l0 k x0 x1 (rd (rd_L1 x0 x5) (rd x1 x6)) (wrap64 (x6 + 1))) else (none)) else (none)) else (none)) else (none)) else (none)) else (some x5)
def tickingref11_Trace.f (k : Nat) (l0 : List (List Int)) (l1 : List Int) : Option (Int) := tickingref11_Trace.l0 k l0 l1 0 0
end Go.Proofs.Ytdkncfmlehcjmaa.X
end

section
namespace Go.Proofs.Ytdkncfmlehcjmaa.X
open Go.RowKit Go.Proofs.YtdkncfmlehcjmaaW.PrintWords Go.Proofs.YtdkncfmlehcjmaaW.PrintLast Go.Proofs.YtdkncfmlehcjmaaW.PrintMore
attribute [local go_sem] max2_int min2_int max_two min_two max_three min_three max_four min_four   -- for this text's walks alone
set_option linter.unusedVariables false
set_option linter.unusedSimpArgs false

def tickingref11_Digit.l0 : Nat → List (List Int) → Int → Int → Option (Int)
 | 0, _, _, _ => none
 | k + 1, x0, x5, x6 => if 0 ≤ x5 then (if x5 < (x0.length : Int) then (if 0 ≤ x6 then (if x6 < ((rd_L1 x0 x5).length : Int) then (if (rd (rd_L1 x0 x5) x6) = 0 then (some x6) else (tickingref11_Digit.l0 k x0 x5 (wrap64 (x6 + 1)))) else (none)) else (none)) else (none)) else (none)
def tickingref11_Digit.f (k : Nat) (l0 : List (List Int)) (l1 : List Int) : Option (Int) := (tickingref11_Trace.f k l0 l1).bind fun t462 => (tickingref11_Digit.l0 k l0 t462 0)
end Go.Proofs.Ytdkncfmlehcjmaa.X
end

section
namespace Go.Proofs.Ytdkncfmlehcjmaa.X
open Go.RowKit Go.Proofs.YtdkncfmlehcjmaaW.PrintWords Go.Proofs.YtdkncfmlehcjmaaW.PrintLast Go.Proofs.YtdkncfmlehcjmaaW.PrintMore
attribute [local go_sem] max2_int min2_int max_two min_two max_three min_three max_four min_four   -- for this text's walks alone
set_option linter.unusedVariables false
set_option linter.unusedSimpArgs false

def slices_Index_int_int.l0 : Nat → List Int → Int → Int → Int → Option (Int)
 | 0, _, _, _, _ => none
 | k + 1, x0, x1, x7, x8 => if x8 < x7 then (if 0 ≤ x8 then (if x8 < (x0.length : Int) then (if x1 = (rd x0 x8) then (some x8) else (slices_Index_int_int.l0 k x0 x1 x7 (wrap64 (x8 + 1)))) else (none)) else (none)) else (some (-1))
def slices_Index_int_int.f (k : Nat) (l0 : List Int) (a1 : Int) : Option (Int) := slices_Index_int_int.l0 k l0 a1 (l0.length : Int) 0
set_option maxHeartbeats 8000000 in
set_option maxRecDepth 100000 in
theorem slices_Index_int_int.calls (k : Nat) (A0 : Option Addr) (c0 : Nat) (l0 : List Int) (a1 : Int) (r : Int) (w : World) (hr0 : Kd.C (Kd.int .i64) w A0 l0.length l0) (hc0 : l0.length ≤ c0) (h : slices_Index_int_int.f k l0 a1 = some r) :
  Calls Try.prog 62 #[.slice A0 l0.length c0, .int .i64 a1] w fun e w' => e = .returned (.int .i64 r) ∧ Drawn0 w w' := by
 have HR0 := Aside0.mk hr0
 have HC0 := Aside0.mk hc0
 clear hr0 hc0
 have H : (slices_Index_int_int.l0 k l0 a1 (l0.length : Int) 0) = some r := h
 clear h
 have H' := Aside0.mk H
 clear H
 go_enter Try.func62, Try.ntmps62
 go_wp2
 go_loopg [8] k (fun kq v8 w' => ∃ (x8_1 : Int), v8 = .int .i64 x8_1 ∧ Aside0 (slices_Index_int_int.l0 kq l0 a1 (l0.length : Int) x8_1 = some r) ∧ Aside0 (kq ≤ k) ∧ Drawn0 w w')
 case atStart => exact ⟨(0), (by first | rfl | (simp; done) | (simp [*]; done)), H', ⟨Nat.le_refl _⟩, by repeat (first | exact Drawn0.refl _ | apply Drawn0.step)⟩
 case round =>
  clear H'
  try clear p2
  obtain ⟨x8_1, rfl, HA, HK1, ⟨m1, rfl⟩⟩ := hrel
  cases gk with
  | zero => exact absurd HA.out (by simp [slices_Index_int_int.l0])
  | succ k1 =>
   have H := HA.out
   clear HA
   simp only [slices_Index_int_int.l0] at H
   by_cases c3 : x8_1 < (l0.length : Int)
   ·rw [if_pos c3] at H
    have c3b0 : decide (x8_1 < (l0.length : Int)) = true := decide_eq_true c3
    clear c3
    by_cases c4 : 0 ≤ x8_1
    ·rw [if_pos c4] at H
     have c4b0 : decide (0 ≤ x8_1) = true := decide_eq_true c4
     clear c4
     by_cases c5 : x8_1 < (l0.length : Int)
     ·rw [if_pos c5] at H
      have c5b0 : decide (x8_1 < (l0.length : Int)) = true := decide_eq_true c5
      clear c5
      by_cases c6 : a1 = (rd l0 x8_1)
      ·rw [if_pos c6] at H
       have c6b0 : (a1 == (rd l0 x8_1)) = true := beq_iff_eq.mpr c6
       have c6b1 : (a1 != (rd l0 x8_1)) = false := bne_eq_false_iff_eq.mpr c6
       clear c6
       obtain rfl := Option.some.inj H
       have p451 : 0 ≤ (x8_1 : Int) := of_decide_eq_true (by first | (with_reducible assumption) | assumption)
       have q451 : x8_1 < (l0.length : Int) := of_decide_eq_true (by first | (with_reducible assumption) | assumption)
       obtain ⟨ad451, e451, hx451_0⟩ := Kd.at_int HR0.out x8_1 p451 q451
       cases e451
       replace p451 := eq_true p451
       replace q451 := eq_true q451
       go_wp2
       go_ret
       exact ⟨by first | rfl | (simp; done) | (simp [*]; done), by repeat (first | exact Drawn0.refl _ | apply Drawn0.step)⟩
      ·rw [if_neg c6] at H
       have c6b0 : (a1 == (rd l0 x8_1)) = false := beq_eq_false_iff_ne.mpr c6
       have c6b1 : (a1 != (rd l0 x8_1)) = true := bne_iff_ne.mpr c6
       have H' := Aside0.mk H
       clear H
       have p451 : 0 ≤ (x8_1 : Int) := of_decide_eq_true (by first | (with_reducible assumption) | assumption)
       have q451 : x8_1 < (l0.length : Int) := of_decide_eq_true (by first | (with_reducible assumption) | assumption)
       obtain ⟨ad451, e451, hx451_0⟩ := Kd.at_int HR0.out x8_1 p451 q451
       cases e451
       replace p451 := eq_true p451
       replace q451 := eq_true q451
       go_wp2
       go_roundg k1
       case measure => have := HK1.out; omega
       case rel => exact ⟨(wrap64 (x8_1 + 1)), (by first | rfl | (simp; done) | (simp [*]; done)), H', ⟨by have := HK1.out; omega⟩, by repeat (first | exact Drawn0.refl _ | apply Drawn0.step)⟩
     ·rw [if_neg c5] at H
      exact absurd H (by simp)
    ·rw [if_neg c4] at H
     exact absurd H (by simp)
   ·rw [if_neg c3] at H
    have c3b0 : decide (x8_1 < (l0.length : Int)) = false := decide_eq_false c3
    clear c3
    obtain rfl := Option.some.inj H
    go_wp2
    go_ret
    exact ⟨by first | rfl | (simp; done) | (simp [*]; done), by repeat (first | exact Drawn0.refl _ | apply Drawn0.step)⟩

end Go.Proofs.Ytdkncfmlehcjmaa.X
end

section
namespace Go.Proofs.Ytdkncfmlehcjmaa.X
open Go.RowKit Go.Proofs.YtdkncfmlehcjmaaW.PrintWords Go.Proofs.YtdkncfmlehcjmaaW.PrintLast Go.Proofs.YtdkncfmlehcjmaaW.PrintMore
attribute [local go_sem] max2_int min2_int max_two min_two max_three min_three max_four min_four   -- for this text's walks alone
set_option linter.unusedVariables false
set_option linter.unusedSimpArgs false

def serial_Digit.j0 : Nat → List (List Int) → List Int → Bool → Option (Int × Int)
 | 0, _, _, _ => none
 | k + 1, x0, x1, x15 => if x15 = true then (some (0, 2)) else ((serial_table_trace.f k x0 x1).bind fun t454 => (if 0 ≤ t454 then (if t454 < (x0.length : Int) then ((slices_Index_int_int.f k (rd_L1 x0 t454) 0).bind fun t456 => (some (t456, 0))) else (none)) else (none)))
def serial_Digit.f (k : Nat) (l0 : List (List Int)) (l1 : List Int) : Option (Int × Int) := (serial_isTable.f l0).bind fun t452 => (if t452 = true then ((serial_isNumber.f l1 (l0.length : Int) 23).bind fun t453 => (serial_Digit.j0 k l0 l1 (!t453))) else (serial_Digit.j0 k l0 l1 true))
set_option maxHeartbeats 8000000 in
set_option maxRecDepth 100000 in
theorem serial_Digit.calls (k : Nat) (A0 : Option Addr) (c0 : Nat) (l0 : List (List Int)) (A1 : Option Addr) (c1 : Nat) (l1 : List Int) (r1 : Int) (r2 : Int) (w : World) (hr0 : Kd.C (Kd.slice 3 (Kd.int .i64)) w A0 l0.length l0) (hc0 : l0.length ≤ c0) (hr1 : Kd.C (Kd.int .i64) w A1 l1.length l1) (hc1 : l1.length ≤ c1) (h : serial_Digit.f k l0 l1 = some (r1, r2)) :
  Calls Try.prog 34 #[.slice A0 l0.length c0, .slice A1 l1.length c1] w fun e w' => e = .returned (.tuple #[.int .i64 r1, .int .i64 r2]) ∧ Below w.heap.size w w' := by
 have HR0 := Aside0.mk hr0
 have HC0 := Aside0.mk hc0
 clear hr0 hc0
 have HR1 := Aside0.mk hr1
 have HC1 := Aside0.mk hc1
 clear hr1 hc1
 have HB := Aside0.mk (Below.refl w.heap.size w)
 have H : ((serial_isTable.f l0).bind fun t452 => (if t452 = true then ((serial_isNumber.f l1 (l0.length : Int) 23).bind fun t453 => (serial_Digit.j0 k l0 l1 (!t453))) else (serial_Digit.j0 k l0 l1 true))) = some (r1, r2) := h
 clear h
 have HC3 := Aside0.mk H
 clear H
 go_enter Try.func34, Try.ntmps34
 go_upto_region 1 with (fail)
 go_cut [15] (fun v15 wc => ∃ (kq : Nat) (x15_2 : Bool), v15 = .bool x15_2 ∧ Aside0 (serial_Digit.j0 kq l0 l1 x15_2 = some (r1, r2)) ∧ Aside0 (kq ≤ k) ∧ Aside0 (Below w.heap.size w wc))
 case first =>
  have H := HC3.out
  clear HC3
  replace H := Option.bind_eq_some_iff.mp H
  obtain ⟨t452, A40, H⟩ := H
  replace H : (if t452 = true then ((serial_isNumber.f l1 (l0.length : Int) 23).bind fun t453 => (serial_Digit.j0 k l0 l1 (!t453))) else (serial_Digit.j0 k l0 l1 true)) = some (r1, r2) := H
  have A4 := Aside0.mk A40
  clear A40
  by_cases c5 : t452 = true
  ·subst c5
   have H1 : ((serial_isNumber.f l1 (l0.length : Int) 23).bind fun t453 => (serial_Digit.j0 k l0 l1 (!t453))) = some (r1, r2) := by rw [if_pos rfl] at H; exact H
   clear H
   have H := H1
   clear H1
   replace H := Option.bind_eq_some_iff.mp H
   obtain ⟨t453, A60, H⟩ := H
   replace H : (serial_Digit.j0 k l0 l1 (!t453)) = some (r1, r2) := H
   have A6 := Aside0.mk A60
   clear A60
   have H' := Aside0.mk H
   clear H
   go_wp2_with (first | ((with_reducible refine gate_callee (f := 53) rfl ?_); refine goesL_ (some 7) rfl rfl Try.func53 (by kernel_rfl) rfl #[.slice A0 l0.length c0] rfl (by (try simp only [List.map_toArray, List.map_cons, List.map_nil]); first | done | rfl | (simp only [List.length_drop, List.length_take]; rfl)) ?_; (with_reducible refine (serial_isTable.calls _ _ l0 true _ ?side1 ?side2 A4.out).mono ?_); (case side1 => repeat (first | exact (Kd.C_below HR0.out HB.out) | (with_reducible refine Kd.C_alloc ?_ _) | (with_reducible refine Kd.C_drewN ?_ _) | (with_reducible refine Kd.C_drew ?_))); (case side2 => exact HC0.out); rintro e w7 ⟨rfl, hb⟩; refine ⟨_, rfl, ?_⟩; have n0_ := Aside0.mk (below_step (by repeat (first | (with_reducible first | exact HB.out | apply below_alloc | apply pw_below_drewN | apply below_drew1) | exact HB.out)) hb); clear HB; have HB := n0_; clear n0_; (try clear hb); (try clear hb2); (try clear hk); (try clear hi)) | (go_at_call 54; (with_reducible refine (serial_isNumber.calls _ _ l1 (l0.length : Int) 23 t453 _ ?side1 ?side2 A6.out).mono ?_); (case side1 => repeat (first | exact (Kd.C_below HR1.out HB.out) | (with_reducible refine Kd.C_alloc ?_ _) | (with_reducible refine Kd.C_drewN ?_ _) | (with_reducible refine Kd.C_drew ?_))); (case side2 => exact HC1.out); rintro e w8 ⟨rfl, hb⟩; have n0_ := Aside0.mk (below_step (by repeat (first | (with_reducible first | exact HB.out | apply below_alloc | apply pw_below_drewN | apply below_drew1) | exact HB.out)) hb); clear HB; have HB := n0_; clear n0_; (try clear hb); (try clear hb2); (try clear hk); (try clear hi)))
   go_meet
   case rel => exact ⟨_, (!t453), (by first | rfl | (simp; done) | (simp [*]; done)), H', ⟨by first | omega | exact Nat.le_refl _⟩, ⟨by repeat (first | (with_reducible first | exact HB.out | apply below_alloc | apply pw_below_drewN | apply below_drew1) | exact HB.out)⟩⟩
  ·replace c5 := Bool.eq_false_iff.mpr c5
   subst c5
   have H1 : (serial_Digit.j0 k l0 l1 true) = some (r1, r2) := by rw [if_neg (show ¬ (false = true) by decide)] at H; exact H
   clear H
   have H := H1
   clear H1
   have H' := Aside0.mk H
   clear H
   go_wp2_with (first | ((with_reducible refine gate_callee (f := 53) rfl ?_); refine goesL_ (some 7) rfl rfl Try.func53 (by kernel_rfl) rfl #[.slice A0 l0.length c0] rfl (by (try simp only [List.map_toArray, List.map_cons, List.map_nil]); first | done | rfl | (simp only [List.length_drop, List.length_take]; rfl)) ?_; (with_reducible refine (serial_isTable.calls _ _ l0 false _ ?side1 ?side2 A4.out).mono ?_); (case side1 => repeat (first | exact (Kd.C_below HR0.out HB.out) | (with_reducible refine Kd.C_alloc ?_ _) | (with_reducible refine Kd.C_drewN ?_ _) | (with_reducible refine Kd.C_drew ?_))); (case side2 => exact HC0.out); rintro e w9 ⟨rfl, hb⟩; refine ⟨_, rfl, ?_⟩; have n0_ := Aside0.mk (below_step (by repeat (first | (with_reducible first | exact HB.out | apply below_alloc | apply pw_below_drewN | apply below_drew1) | exact HB.out)) hb); clear HB; have HB := n0_; clear n0_; (try clear hb); (try clear hb2); (try clear hk); (try clear hi)))
   go_meet
   case rel => exact ⟨_, (true), (by first | rfl | (simp; done) | (simp [*]; done)), H', ⟨by first | omega | exact Nat.le_refl _⟩, ⟨by repeat (first | (with_reducible first | exact HB.out | apply below_alloc | apply pw_below_drewN | apply below_drew1) | exact HB.out)⟩⟩
 case rest =>
  clear HC3
  try clear c1
  try clear p2
  try clear c3
  try clear c5
  obtain ⟨kq, x15_2, rfl, HA, HJ2, HB⟩ := hcut
  cases kq with
  | zero => exact absurd HA.out (by simp [serial_Digit.j0])
  | succ kj2 =>
   have H := HA.out
   clear HA
   simp only [serial_Digit.j0] at H
   by_cases c10 : x15_2 = true
   ·subst c10
    have H1 : (some (0, 2)) = some (r1, r2) := by rw [if_pos rfl] at H; exact H
    clear H
    have H := H1
    clear H1
    simp only [Option.some.injEq, Prod.mk.injEq] at H
    obtain ⟨rfl, rfl⟩ := H
    go_wp2
    go_ret2
    exact ⟨by first | rfl | (simp [errW_none, errW_some] <;> rfl) | (simp [*, errW_none, errW_some] <;> rfl), by repeat (first | (with_reducible first | exact HB.out | apply below_alloc | apply pw_below_drewN | apply below_drew1) | exact HB.out)⟩
   ·replace c10 := Bool.eq_false_iff.mpr c10
    subst c10
    have H1 : ((serial_table_trace.f kj2 l0 l1).bind fun t454 => (if 0 ≤ t454 then (if t454 < (l0.length : Int) then ((slices_Index_int_int.f kj2 (rd_L1 l0 t454) 0).bind fun t456 => (some (t456, 0))) else (none)) else (none))) = some (r1, r2) := by rw [if_neg (show ¬ (false = true) by decide)] at H; exact H
    clear H
    have H := H1
    clear H1
    replace H := Option.bind_eq_some_iff.mp H
    obtain ⟨t454, A110, H⟩ := H
    replace H : (if 0 ≤ t454 then (if t454 < (l0.length : Int) then ((slices_Index_int_int.f kj2 (rd_L1 l0 t454) 0).bind fun t456 => (some (t456, 0))) else (none)) else (none)) = some (r1, r2) := H
    have A11 := Aside0.mk A110
    clear A110
    by_cases c12 : 0 ≤ t454
    ·rw [if_pos c12] at H
     have c12b0 : decide (0 ≤ t454) = true := decide_eq_true c12
     clear c12
     by_cases c13 : t454 < (l0.length : Int)
     ·rw [if_pos c13] at H
      have c13b0 : decide (t454 < (l0.length : Int)) = true := decide_eq_true c13
      clear c13
      replace H := Option.bind_eq_some_iff.mp H
      obtain ⟨t456, A140, H⟩ := H
      replace H : (some (t456, 0)) = some (r1, r2) := H
      have A14 := Aside0.mk A140
      clear A140
      simp only [Option.some.injEq, Prod.mk.injEq] at H
      obtain ⟨rfl, rfl⟩ := H
      go_wp2_with (first | ((with_reducible refine gate_callee (f := 55) rfl ?_); refine goesL_ (some 19) rfl rfl Try.func55 (by kernel_rfl) rfl #[.slice A0 l0.length c0, .slice A1 l1.length c1] rfl (by (try simp only [List.map_toArray, List.map_cons, List.map_nil]); first | done | rfl | (simp only [List.length_drop, List.length_take]; rfl)) ?_; (with_reducible refine (serial_table_trace.calls kj2 _ _ l0 _ _ l1 t454 _ ?side1 ?side2 ?side3 ?side4 A11.out).mono ?_); (case side1 => repeat (first | exact (Kd.C_below HR0.out HB.out) | (with_reducible refine Kd.C_alloc ?_ _) | (with_reducible refine Kd.C_drewN ?_ _) | (with_reducible refine Kd.C_drew ?_))); (case side2 => exact HC0.out); (case side3 => repeat (first | exact (Kd.C_below HR1.out HB.out) | (with_reducible refine Kd.C_alloc ?_ _) | (with_reducible refine Kd.C_drewN ?_ _) | (with_reducible refine Kd.C_drew ?_))); (case side4 => exact HC1.out); rintro e w' ⟨rfl, ⟨nd, rfl⟩⟩; refine ⟨_, rfl, ?_⟩; have p455 : 0 ≤ (t454 : Int) := of_decide_eq_true (by first | (with_reducible assumption) | assumption); have q455 : t454 < (l0.length : Int) := of_decide_eq_true (by first | (with_reducible assumption) | assumption); obtain ⟨ad455, A455_0, c455_0, e455, hx455_0, hl455_0, hi455_0⟩ := at_L1 HR0.out t454 p455 q455; cases e455; replace hx455_0 := (HB.out.cell (World.block_lt_of_cell? w _ hx455_0)).trans hx455_0; have HR455_0 := Aside0.mk hi455_0; have HC455_0 := Aside0.mk hl455_0; clear hi455_0 hl455_0; replace p455 := eq_true p455; replace q455 := eq_true q455) | ((with_reducible refine gate_callee (f := 62) rfl ?_); refine goesL_ (some 22) rfl rfl Try.func62 (by kernel_rfl) rfl #[.slice A455_0 (rd_L1 l0 t454).length c455_0, .int .i64 0] rfl (by (try simp only [List.map_toArray, List.map_cons, List.map_nil]); first | done | rfl | (simp only [List.length_drop, List.length_take]; rfl)) ?_; (with_reducible refine (slices_Index_int_int.calls kj2 _ _ (rd_L1 l0 t454) 0 t456 _ ?side1 ?side2 A14.out).mono ?_); (case side1 => repeat (first | exact (Kd.C_below HR455_0.out (by repeat (first | (with_reducible first | exact HB.out | apply below_alloc | apply pw_below_drewN | apply below_drew1) | exact HB.out))) | (with_reducible refine Kd.C_alloc ?_ _) | (with_reducible refine Kd.C_drewN ?_ _) | (with_reducible refine Kd.C_drew ?_))); (case side2 => exact HC455_0.out); rintro e w' ⟨rfl, ⟨nd, rfl⟩⟩; refine ⟨_, rfl, ?_⟩))
      go_ret2
      exact ⟨by first | rfl | (simp [errW_none, errW_some] <;> rfl) | (simp [*, errW_none, errW_some] <;> rfl), by repeat (first | (with_reducible first | exact HB.out | apply below_alloc | apply pw_below_drewN | apply below_drew1) | exact HB.out)⟩
     ·rw [if_neg c13] at H
      exact absurd H (by simp)
    ·rw [if_neg c12] at H
     exact absurd H (by simp)

end Go.Proofs.Ytdkncfmlehcjmaa.X
end
