/- What the printed functions of layer 11 come to, in plain words: greatest common divisors, units, linear tables. -/
import Derived.Test.YtdkncfmlehcjmaaTX20
import Derived.Test.YtdkncfmlehcjmaaTX25
set_option linter.unusedVariables false
set_option linter.unusedSimpArgs false
namespace Go.Proofs.Ytdkncfmlehcjmaa.X
open Go.RowKit Go.Proofs.YtdkncfmlehcjmaaW.PrintWords

theorem w64 {x : Int} (h0 : -9223372036854775808 ≤ x) (h1 : x ≤ 9223372036854775807) : wrap64 x = x := by unfold wrap64; omega
theorem rd_nat (l : List Int) (i : Nat) (h : i < l.length) : rd l (i : Int) = l[i] := by
  simp [rd, List.getD_eq_getElem?_getD, List.getElem?_eq_getElem h]
theorem rdL_nat (t : List (List Int)) (i : Nat) (h : i < t.length) : rd_L1 t (i : Int) = t[i] := by
  simp [rd_L1, List.getD_eq_getElem?_getD, List.getElem?_eq_getElem h]
theorem Ev.some_ {α : Type} {g : Nat → Option α} {r : α} (h : ∀ k, g k = some r) : Ev g r := ⟨0, fun k _ => h k⟩
theorem Ev.fun_ {α : Type} {g : Nat → Option α} {r : α} (h : Ev g r) : ∃ K, ∀ k, K ≤ k → g k = some r := h

/-! ### The greatest common divisor -/
theorem mx_neg (x : Int) : mx x (-x) = (x.natAbs : Int) := by unfold mx; split <;> omega
theorem gcd_step (a b : Int) : Int.gcd b (a.tmod b) = Int.gcd a b := by
  have h : Int.gcd a b = Nat.gcd a.natAbs b.natAbs := rfl
  have h2 : Int.gcd b (a.tmod b) = Nat.gcd b.natAbs (a.tmod b).natAbs := rfl
  rw [h, h2, Int.natAbs_tmod, Nat.gcd_comm b.natAbs, ← Nat.gcd_rec, Nat.gcd_comm]
theorem ev_gcd_l (d : Nat) : ∀ (a b : Int), b.natAbs ≤ d → -9223372036854775807 ≤ a → a ≤ 9223372036854775807 → -9223372036854775807 ≤ b → b ≤ 9223372036854775807 → Ev (fun k => serial_gcd.l0 k a b) (Int.gcd a b : Int) := by
  induction d with
  | zero =>
    intro a b hb ha0 ha1 hb0 hb1
    obtain rfl : b = 0 := by omega
    refine Ev.step (f := fun _ => some ((Int.gcd a 0 : Nat) : Int)) (fun k => ?_) (Ev.now _)
    simp only [serial_gcd.l0, if_true]
    rw [w64 (by omega) (by omega), mx_neg, Int.gcd_zero_right]
  | succ d ih =>
    intro a b hb ha0 ha1 hb0 hb1
    by_cases h : b = 0
    · subst h
      exact (ih a 0 (by simp) ha0 ha1 (by omega) (by omega))
    · have hm : (a.tmod b).natAbs < b.natAbs := by rw [Int.natAbs_tmod]; exact Nat.mod_lt _ (by omega)
      rw [← gcd_step a b]
      exact Ev.step (fun k => by simp only [serial_gcd.l0, if_neg h]) (ih b (a.tmod b) (by omega) hb0 hb1 (by omega) (by omega))
theorem ev_gcd (a b : Int) (ha0 : -9223372036854775807 ≤ a) (ha1 : a ≤ 9223372036854775807) (hb0 : -9223372036854775807 ≤ b) (hb1 : b ≤ 9223372036854775807) : Ev (fun k => serial_gcd.f k a b) (Int.gcd a b : Int) :=
  ev_gcd_l b.natAbs a b (Nat.le_refl _) ha0 ha1 hb0 hb1
theorem ev_Gcd_l (d : Nat) : ∀ (a b : Int), b.natAbs ≤ d → 0 ≤ a → 0 ≤ b → Ev (fun k => tickingref11_Gcd.l0 k a b) (Int.gcd a b : Int) := by
  induction d with
  | zero =>
    intro a b hb ha0 hb0
    obtain rfl : b = 0 := by omega
    refine Ev.step (f := fun _ => some ((Int.gcd a 0 : Nat) : Int)) (fun k => ?_) (Ev.now _)
    simp only [tickingref11_Gcd.l0]
    rw [if_neg (by omega), Int.gcd_zero_right]; congr 1; omega
  | succ d ih =>
    intro a b hb ha0 hb0
    by_cases h : b = 0
    · subst h
      exact (ih a 0 (by simp) ha0 (by omega))
    · have hm : (a.tmod b).natAbs < b.natAbs := by rw [Int.natAbs_tmod]; exact Nat.mod_lt _ (by omega)
      rw [← gcd_step a b]
      exact Ev.step (fun k => by simp only [tickingref11_Gcd.l0, if_neg h, if_pos (show b > 0 by omega)]) (ih b (a.tmod b) (by omega) hb0 (Int.tmod_nonneg _ ha0))
theorem ev_Gcd (a b : Int) (ha0 : 0 ≤ a) (hb0 : 0 ≤ b) : Ev (fun k => tickingref11_Gcd.f k a b) (Int.gcd a b : Int) :=
  ev_Gcd_l b.natAbs a b (Nat.le_refl _) ha0 hb0

/-! ### Units -/
def unitB (a n : Int) : Bool := decide (0 ≤ a) && decide (a < n) && decide (Int.gcd a n = 1)
theorem within_eq (a lo hi : Int) : serial_within.f a lo hi = some (decide (lo ≤ a) && decide (a ≤ hi)) := by
  unfold serial_within.f
  by_cases h : lo ≤ a <;> simp [h]
theorem ev_isUnit (a n : Int) (hn : 1 ≤ n) (hn2 : n ≤ 100000) : Ev (fun k => serial_isUnit.f k a n) (unitB a n) := by
  have hw : wrap64 (n - 1) = n - 1 := w64 (by omega) (by omega)
  by_cases h : 0 ≤ a ∧ a < n
  · have e1 : (decide (0 ≤ a) && decide (a ≤ n - 1)) = true := by simp; omega
    refine Ev.congr (f := fun k => (serial_gcd.f k a n).bind fun t => some (t == 1)) (fun k => ?_) ?_
    · unfold serial_isUnit.f; rw [within_eq, hw, e1]; simp only [Option.bind_some, if_true]
    · refine Ev.bind (ev_gcd a n (by omega) (by omega) (by omega) (by omega)) (Ev.some_ fun _ => ?_)
      unfold unitB
      have : ((Int.gcd a n : Int) == 1) = decide (Int.gcd a n = 1) := by
        by_cases e : Int.gcd a n = 1
        · simp [e]
        · simp [e]; omega
      simp [h.1, h.2, this]
  · have e1 : (decide (0 ≤ a) && decide (a ≤ n - 1)) = false := by simp; omega
    have e2 : unitB a n = false := by unfold unitB; simp; omega
    rw [e2]
    refine Ev.some_ fun k => ?_
    unfold serial_isUnit.f; rw [within_eq, hw, e1]; simp
theorem ev_Prime (a n : Int) (hn : 1 ≤ n) (hn2 : n ≤ 100000) : Ev (fun k => tickingref11_Prime.f k a n) (unitB a n) := by
  by_cases h : 0 ≤ a ∧ a < n
  · refine Ev.congr (f := fun k => (tickingref11_Gcd.f k a n).bind fun t => some (t == 1)) (fun k => ?_) ?_
    · unfold tickingref11_Prime.f; rw [if_pos h.1, if_pos h.2]
    · refine Ev.bind (ev_Gcd a n (by omega) (by omega)) (Ev.some_ fun _ => ?_)
      unfold unitB
      have : ((Int.gcd a n : Int) == 1) = decide (Int.gcd a n = 1) := by
        by_cases e : Int.gcd a n = 1
        · simp [e]
        · simp [e]; omega
      simp [h.1, h.2, this]
  · have e2 : unitB a n = false := by unfold unitB; simp; omega
    rw [e2]
    refine Ev.some_ fun k => ?_
    unfold tickingref11_Prime.f
    by_cases h0 : a ≥ 0
    · rw [if_pos h0, if_neg (fun h1 => h ⟨h0, h1⟩)]
    · rw [if_neg h0]

/-! ### Linear tables -/
def linRow (n : Nat) (a b x : Int) : List Int := (List.range n).map fun (y : Nat) => (a * x + b * (y : Int)) % (n : Int)
def linT (n : Nat) (a b : Int) : List (List Int) := (List.range n).map fun (x : Nat) => linRow n a b (x : Int)
theorem lin_cell (n : Nat) (a b : Int) (x y : Nat) (hn : n ≤ 100000) (ha0 : 0 ≤ a) (ha1 : a < n) (hb0 : 0 ≤ b) (hb1 : b < n) (hx : x < n) (hy : y < n) :
    Int.tmod (wrap64 ((wrap64 (a * x)) + (wrap64 (b * y)))) n = (a * x + b * y) % n := by
  have h1 : 0 ≤ a * x := Int.mul_nonneg ha0 (by omega)
  have h2 : 0 ≤ b * y := Int.mul_nonneg hb0 (by omega)
  have h3 : a * x ≤ 100000 * 100000 := Int.mul_le_mul (by omega) (by omega) (by omega) (by omega)
  have h4 : b * y ≤ 100000 * 100000 := Int.mul_le_mul (by omega) (by omega) (by omega) (by omega)
  rw [w64 (x := a * x) (by omega) (by omega), w64 (x := b * y) (by omega) (by omega), w64 (by omega) (by omega), Int.tmod_eq_emod_of_nonneg (by omega)]
theorem ev_linear_in (n : Nat) (a b : Int) (hn0 : 1 ≤ n) (hn : n ≤ 100000) (ha0 : 0 ≤ a) (ha1 : a < n) (hb0 : 0 ≤ b) (hb1 : b < n) (x : Nat) (hx : x < n) (r : List (List Int)) (rows : List (List Int)) (hl : rows.length ≤ 100000)
    (hk : Ev (fun k => serial_linear.l0 k n a b (rows ++ [linRow n a b x]) n ((x : Int) + 1)) r) (d : Nat) : ∀ (y : Nat), y + d = n → Ev (fun k => serial_linear.l1 k n a b rows x ((List.range y).map fun (y : Nat) => (a * (x : Int) + b * (y : Int)) % (n : Int)) n x n y) r := by
  induction d with
  | zero =>
    intro y hy
    obtain rfl : y = n := by omega
    refine Ev.step (fun k => ?_) hk
    simp only [serial_linear.l1]
    rw [if_neg (by omega), if_pos (by omega), w64 (by omega) (by omega)]; rfl
  | succ d ih =>
    intro y hy
    refine Ev.step (fun k => ?_) (ih (y + 1) (by omega))
    simp only [serial_linear.l1]
    rw [if_pos (by omega), if_neg (by omega), if_pos (by simp; omega), lin_cell n a b x y hn ha0 ha1 hb0 hb1 hx (by omega), w64 (by omega) (by omega), List.range_succ, List.map_append]; rfl
theorem ev_linear_l (n : Nat) (a b : Int) (hn0 : 1 ≤ n) (hn : n ≤ 100000) (ha0 : 0 ≤ a) (ha1 : a < n) (hb0 : 0 ≤ b) (hb1 : b < n) (d : Nat) : ∀ (x : Nat), x + d = n → Ev (fun k => serial_linear.l0 k n a b ((List.range x).map fun (x : Nat) => linRow n a b (x : Int)) n x) (linT n a b) := by
  induction d with
  | zero =>
    intro x hx
    obtain rfl : x = n := by omega
    exact Ev.step (f := fun _ => some (linT x a b)) (fun k => by simp only [serial_linear.l0]; rw [if_neg (by omega)]; rfl) (Ev.now _)
  | succ d ih =>
    intro x hx
    have h1 := ih (x + 1) (by omega)
    rw [List.range_succ, List.map_append] at h1
    have h2 := ev_linear_in n a b hn0 hn ha0 ha1 hb0 hb1 x (by omega) (linT n a b) ((List.range x).map fun (x : Nat) => linRow n a b (x : Int)) (by simp; omega) (by simpa using h1) n 0 (by omega)
    refine Ev.step (fun k => ?_) h2
    simp only [serial_linear.l0]
    rw [if_pos (by omega)]; rfl
theorem ev_linear (n : Nat) (a b : Int) (hn0 : 1 ≤ n) (hn : n ≤ 100000) (ha0 : 0 ≤ a) (ha1 : a < n) (hb0 : 0 ≤ b) (hb1 : b < n) : Ev (fun k => serial_linear.f k n a b) (linT n a b) :=
  ev_linear_l n a b hn0 hn ha0 ha1 hb0 hb1 n 0 (by omega)
theorem ev_Linear_in (n : Nat) (a b : Int) (hn0 : 1 ≤ n) (hn : n ≤ 100000) (ha0 : 0 ≤ a) (ha1 : a < n) (hb0 : 0 ≤ b) (hb1 : b < n) (x : Nat) (hx : x < n) (r : List (List Int)) (rows : List (List Int)) (hl : rows.length ≤ 100000)
    (hk : Ev (fun k => tickingref11_Linear.l0 k n a b (rows ++ [linRow n a b x]) ((x : Int) + 1)) r) (d : Nat) : ∀ (y : Nat), y + d = n → Ev (fun k => tickingref11_Linear.l1 k n a b rows x ((List.range y).map fun (y : Nat) => (a * (x : Int) + b * (y : Int)) % (n : Int)) y) r := by
  induction d with
  | zero =>
    intro y hy
    obtain rfl : y = n := by omega
    refine Ev.step (fun k => ?_) hk
    simp only [tickingref11_Linear.l1]
    rw [if_neg (by omega), if_pos (by omega), w64 (by omega) (by omega)]; rfl
  | succ d ih =>
    intro y hy
    refine Ev.step (fun k => ?_) (ih (y + 1) (by omega))
    simp only [tickingref11_Linear.l1]
    rw [if_pos (by omega), if_neg (by omega), if_pos (by simp; omega), lin_cell n a b x y hn ha0 ha1 hb0 hb1 hx (by omega), w64 (by omega) (by omega), List.range_succ, List.map_append]; rfl
theorem ev_Linear_l (n : Nat) (a b : Int) (hn0 : 1 ≤ n) (hn : n ≤ 100000) (ha0 : 0 ≤ a) (ha1 : a < n) (hb0 : 0 ≤ b) (hb1 : b < n) (d : Nat) : ∀ (x : Nat), x + d = n → Ev (fun k => tickingref11_Linear.l0 k n a b ((List.range x).map fun (x : Nat) => linRow n a b (x : Int)) x) (linT n a b) := by
  induction d with
  | zero =>
    intro x hx
    obtain rfl : x = n := by omega
    exact Ev.step (f := fun _ => some (linT x a b)) (fun k => by simp only [tickingref11_Linear.l0]; rw [if_neg (by omega)]; rfl) (Ev.now _)
  | succ d ih =>
    intro x hx
    have h1 := ih (x + 1) (by omega)
    rw [List.range_succ, List.map_append] at h1
    have h2 := ev_Linear_in n a b hn0 hn ha0 ha1 hb0 hb1 x (by omega) (linT n a b) ((List.range x).map fun (x : Nat) => linRow n a b (x : Int)) (by simp; omega) (by simpa using h1) n 0 (by omega)
    refine Ev.step (fun k => ?_) h2
    simp only [tickingref11_Linear.l0]
    rw [if_pos (by omega)]; rfl
theorem ev_Linear (n : Nat) (a b : Int) (hn0 : 1 ≤ n) (hn : n ≤ 100000) (ha0 : 0 ≤ a) (ha1 : a < n) (hb0 : 0 ≤ b) (hb1 : b < n) : Ev (fun k => tickingref11_Linear.f k n a b) (linT n a b) :=
  ev_Linear_l n a b hn0 hn ha0 ha1 hb0 hb1 n 0 (by omega)

/-! ### Lists held against each other; awake; list -/
theorem ev_ints_l (a : List Int) (ha : a.length ≤ 1000000000) (d : Nat) : ∀ (b : List Int) (i : Nat), a.length = b.length → i + d = a.length → a.take i = b.take i → Ev (fun k => tickinglaw11_ints.l0 k a b i) (decide (a = b)) := by
  induction d with
  | zero =>
    intro b i hl hi ht
    have : a = b := by rw [List.take_of_length_le (by omega), List.take_of_length_le (by omega)] at ht; exact ht
    refine Ev.step (f := fun _ => some (decide (a = b))) (fun k => ?_) (Ev.now _)
    simp only [tickinglaw11_ints.l0]; rw [if_neg (by omega)]; simp [this]
  | succ d ih =>
    intro b i hl hi ht
    have e1 : rd a (i : Int) = a[i] := rd_nat a i (by omega)
    have e2 : rd b (i : Int) = b[i] := rd_nat b i (by omega)
    by_cases h : a[i] = b[i]'(by omega)
    · refine Ev.step (fun k => ?_) (ih b (i + 1) hl (by omega) (by rw [List.take_succ_eq_append_getElem (by omega), List.take_succ_eq_append_getElem (by omega), ht, h]))
      simp only [tickinglaw11_ints.l0]; rw [if_pos (by omega), if_pos (by omega), if_pos (by omega), if_pos (by rw [e1, e2]; exact h), w64 (by omega) (by omega)]; rfl
    · have : ¬ a = b := fun e => h (by subst e; rfl)
      refine Ev.step (f := fun _ => some (decide (a = b))) (fun k => ?_) (Ev.now _)
      simp only [tickinglaw11_ints.l0]; rw [if_pos (by omega), if_pos (by omega), if_pos (by omega), if_neg (by rw [e1, e2]; exact h)]; simp [this]
theorem ev_ints (a b : List Int) (ha : a.length ≤ 1000000000) : Ev (fun k => tickinglaw11_ints.f k a b) (decide (a = b)) := by
  by_cases h : a.length = b.length
  · exact Ev.congr (fun k => by unfold tickinglaw11_ints.f; rw [if_pos (by omega)]; rfl) (ev_ints_l a ha a.length b 0 h (by omega) rfl)
  · have : ¬ a = b := fun e => h (by rw [e])
    exact Ev.some_ fun k => by unfold tickinglaw11_ints.f; rw [if_neg (by omega)]; simp [this]
set_option maxRecDepth 100000 in
theorem awake_k : tickinglaw11_awake.f 400 = some true := by decide +kernel
theorem ev_awake : Ev (fun k => tickinglaw11_awake.f k) true := Ev.of (tickinglaw11_awake.mono) awake_k
end Go.Proofs.Ytdkncfmlehcjmaa.X
