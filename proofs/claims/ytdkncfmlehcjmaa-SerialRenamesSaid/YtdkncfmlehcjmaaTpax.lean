/- Texts behind SerialRenames, part 24: contracts of the program's functions and the plain words for them. -/
import Derived.Deep.Matrix
import Derived.ProofKit
import Derived.OpenShut
import Derived.Lib.SmallJoins
import Derived.Test.YtdkncfmlehcjmaaTpaa
import Derived.Test.YtdkncfmlehcjmaaTpar
import Derived.Test.YtdkncfmlehcjmaaTpat
import Derived.Test.YtdkncfmlehcjmaaTpau
import Derived.Test.YtdkncfmlehcjmaaTpaw
section
/- What the printed functions of layer 11 come to, in plain words: greatest common divisors, units, linear tables. -/
set_option linter.unusedVariables false
set_option linter.unusedSimpArgs false
namespace Go.Proofs.Ytdkncfmlehcjmaa.X
open Go.RowKit Go.Proofs.YtdkncfmlehcjmaaW.PrintWords

theorem w64 {x : Int} (h0 : -9223372036854775808 ≤ x) (h1 : x ≤ 9223372036854775807) : wrap64 x = x := by unfold wrap64; omega
theorem Ev.some_ {α : Type} {g : Nat → Option α} {r : α} (h : ∀ k, g k = some r) : Ev g r := ⟨0, fun k _ => h k⟩
theorem mx_neg (x : Int) : mx x (-x) = (x.natAbs : Int) := by unfold mx; split <;> omega
theorem gcd_step (a b : Int) : Int.gcd b (a.tmod b) = Int.gcd a b := by
  have h : Int.gcd a b = Nat.gcd a.natAbs b.natAbs := rfl
  have h2 : Int.gcd b (a.tmod b) = Nat.gcd b.natAbs (a.tmod b).natAbs := rfl
  rw [h, h2, Int.natAbs_tmod, Nat.gcd_comm b.natAbs, ← Nat.gcd_rec, Nat.gcd_comm]
theorem ev_gcd_l (d : Nat) : ∀ (a b : Int), b.natAbs ≤ d → -9223372036854775807 ≤ a → a ≤ 9223372036854775807 → -9223372036854775807 ≤ b → b ≤ 9223372036854775807 → Ev (fun k => serial_gcd.l0 k a b) (Int.gcd a b : Int) := by
  induction d with
  | zero =>
    intro a b hb ha0 ha1 hb0 hb1
    obtain rfl : b = 0 := by omega
    refine Ev.step (f := fun _ => some ((Int.gcd a 0 : Nat) : Int)) (fun k => ?_) (Ev.now _)
    simp only [serial_gcd.l0, if_true]
    rw [w64 (by omega) (by omega), mx_neg, Int.gcd_zero_right]
  | succ d ih =>
    intro a b hb ha0 ha1 hb0 hb1
    by_cases h : b = 0
    · subst h
      exact (ih a 0 (by simp) ha0 ha1 (by omega) (by omega))
    · have hm : (a.tmod b).natAbs < b.natAbs := by rw [Int.natAbs_tmod]; exact Nat.mod_lt _ (by omega)
      rw [← gcd_step a b]
      exact Ev.step (fun k => by simp only [serial_gcd.l0, if_neg h]) (ih b (a.tmod b) (by omega) hb0 hb1 (by omega) (by omega))
theorem ev_Gcd_l (d : Nat) : ∀ (a b : Int), b.natAbs ≤ d → 0 ≤ a → 0 ≤ b → Ev (fun k => tickingref11_Gcd.l0 k a b) (Int.gcd a b : Int) := by
  induction d with
  | zero =>
    intro a b hb ha0 hb0
    obtain rfl : b = 0 := by omega
    refine Ev.step (f := fun _ => some ((Int.gcd a 0 : Nat) : Int)) (fun k => ?_) (Ev.now _)
    simp only [tickingref11_Gcd.l0]
    rw [if_neg (by omega), Int.gcd_zero_right]; congr 1; omega
  | succ d ih =>
    intro a b hb ha0 hb0
    by_cases h : b = 0
    · subst h
      exact (ih a 0 (by simp) ha0 (by omega))
    · have hm : (a.tmod b).natAbs < b.natAbs := by rw [Int.natAbs_tmod]; exact Nat.mod_lt _ (by omega)
      rw [← gcd_step a b]
      exact Ev.step (fun k => by simp only [tickingref11_Gcd.l0, if_neg h, if_pos (show b > 0 by omega)]) (ih b (a.tmod b) (by omega) hb0 (Int.tmod_nonneg _ ha0))
theorem ev_Gcd (a b : Int) (ha0 : 0 ≤ a) (hb0 : 0 ≤ b) : Ev (fun k => tickingref11_Gcd.f k a b) (Int.gcd a b : Int) :=
  ev_Gcd_l b.natAbs a b (Nat.le_refl _) ha0 hb0

end Go.Proofs.Ytdkncfmlehcjmaa.X
end

section
/- Numbers and tables made from whatever comes in: mod, digits, tame. -/
set_option linter.unusedVariables false
set_option linter.unusedSimpArgs false
namespace Go.Proofs.Ytdkncfmlehcjmaa.X
open Go.RowKit Go.Proofs.YtdkncfmlehcjmaaW.PrintWords

theorem wrap_u64 (x : Int) : IntKind.u64.wrap x = x % 18446744073709551616 := by
  simp [IntKind.wrap, IntKind.bits, IntKind.signed]
def modN (x n : Int) : Int := (x % 18446744073709551616) % n
theorem modN_in (x n : Int) (h : 1 ≤ n) : 0 ≤ modN x n ∧ modN x n < n := by
  unfold modN; exact ⟨Int.emod_nonneg _ (by omega), Int.emod_lt_of_pos _ (by omega)⟩
theorem mod_eq (x n : Int) (h : 1 ≤ n) (h2 : n ≤ 1000000) : tickinglaw11_mod.f x n = some (modN x n) := by
  unfold tickinglaw11_mod.f
  have hn : IntKind.u64.wrap n = n := by rw [wrap_u64]; omega
  have hx0 : 0 ≤ x % 18446744073709551616 := Int.emod_nonneg _ (by omega)
  have := modN_in x n h
  rw [hn, if_neg (by omega), wrap_u64, Int.tmod_eq_emod_of_nonneg hx0]
  unfold modN at this ⊢
  rw [w64 (by omega) (by omega)]
end Go.Proofs.Ytdkncfmlehcjmaa.X
end

section
/- SerialRenames: the table of x + y is a group with the neutral element 0, and so is its renamed copy. The finite part is reckoned; written by a small program of this session. -/
set_option linter.unusedVariables false
set_option linter.unusedSimpArgs false
namespace Go.Proofs.Ytdkncfmlehcjmaa.X
open Go.RowKit Go.Proofs.YtdkncfmlehcjmaaW.PrintWords
def rnChk (n k : Nat) : Bool := tickinglaw11_SerialRenames.l1 4000 (n : Int) (k : Int) [] 0 == some true
def rlChk (n : Nat) : Bool := match serial_Linear.f 1000 (n : Int) 1 1 with | some (t, e) => (e == 0) && (serial_Group.f 4000 t == some (0, 0, 0, 0, 0)) | none => false
set_option maxRecDepth 1000000 in
theorem rc_2_1 : rnChk 2 1 = true := by decide +kernel
set_option maxRecDepth 1000000 in
theorem rc_2_3 : rnChk 2 3 = true := by decide +kernel
set_option maxRecDepth 1000000 in
theorem rc_3_1 : rnChk 3 1 = true := by decide +kernel
set_option maxRecDepth 1000000 in
theorem rc_3_2 : rnChk 3 2 = true := by decide +kernel
set_option maxRecDepth 1000000 in
theorem rc_3_4 : rnChk 3 4 = true := by decide +kernel
set_option maxRecDepth 1000000 in
theorem rc_4_1 : rnChk 4 1 = true := by decide +kernel
set_option maxRecDepth 1000000 in
theorem rc_4_3 : rnChk 4 3 = true := by decide +kernel
set_option maxRecDepth 1000000 in
theorem rc_4_5 : rnChk 4 5 = true := by decide +kernel
set_option maxRecDepth 1000000 in
theorem rc_5_1 : rnChk 5 1 = true := by decide +kernel
set_option maxRecDepth 1000000 in
theorem rc_5_2 : rnChk 5 2 = true := by decide +kernel
set_option maxRecDepth 1000000 in
theorem rc_5_3 : rnChk 5 3 = true := by decide +kernel
set_option maxRecDepth 1000000 in
theorem rc_5_4 : rnChk 5 4 = true := by decide +kernel
set_option maxRecDepth 1000000 in
theorem rc_5_6 : rnChk 5 6 = true := by decide +kernel
set_option maxRecDepth 1000000 in
theorem rc_6_1 : rnChk 6 1 = true := by decide +kernel
set_option maxRecDepth 1000000 in
theorem rc_6_5 : rnChk 6 5 = true := by decide +kernel
set_option maxRecDepth 1000000 in
theorem rc_6_7 : rnChk 6 7 = true := by decide +kernel
set_option maxRecDepth 1000000 in
theorem rc_7_1 : rnChk 7 1 = true := by decide +kernel
set_option maxRecDepth 1000000 in
theorem rc_7_2 : rnChk 7 2 = true := by decide +kernel
set_option maxRecDepth 1000000 in
theorem rc_7_3 : rnChk 7 3 = true := by decide +kernel
set_option maxRecDepth 1000000 in
theorem rc_7_4 : rnChk 7 4 = true := by decide +kernel
set_option maxRecDepth 1000000 in
theorem rc_7_5 : rnChk 7 5 = true := by decide +kernel
set_option maxRecDepth 1000000 in
theorem rc_7_6 : rnChk 7 6 = true := by decide +kernel
set_option maxRecDepth 1000000 in
theorem rc_7_8 : rnChk 7 8 = true := by decide +kernel
set_option maxRecDepth 1000000 in
theorem rc_8_1 : rnChk 8 1 = true := by decide +kernel
set_option maxRecDepth 1000000 in
theorem rc_8_3 : rnChk 8 3 = true := by decide +kernel
set_option maxRecDepth 1000000 in
theorem rc_8_5 : rnChk 8 5 = true := by decide +kernel
set_option maxRecDepth 1000000 in
theorem rc_8_7 : rnChk 8 7 = true := by decide +kernel
set_option maxRecDepth 1000000 in
theorem rc_8_9 : rnChk 8 9 = true := by decide +kernel
set_option maxRecDepth 1000000 in
theorem rc_9_1 : rnChk 9 1 = true := by decide +kernel
set_option maxRecDepth 1000000 in
theorem rc_9_2 : rnChk 9 2 = true := by decide +kernel
set_option maxRecDepth 1000000 in
theorem rc_9_4 : rnChk 9 4 = true := by decide +kernel
set_option maxRecDepth 1000000 in
theorem rc_9_5 : rnChk 9 5 = true := by decide +kernel
set_option maxRecDepth 1000000 in
theorem rc_9_7 : rnChk 9 7 = true := by decide +kernel
set_option maxRecDepth 1000000 in
theorem rc_9_8 : rnChk 9 8 = true := by decide +kernel
set_option maxRecDepth 1000000 in
theorem rc_9_10 : rnChk 9 10 = true := by decide +kernel
set_option maxRecDepth 1000000 in
theorem rc_10_1 : rnChk 10 1 = true := by decide +kernel
set_option maxRecDepth 1000000 in
theorem rc_10_3 : rnChk 10 3 = true := by decide +kernel
set_option maxRecDepth 1000000 in
theorem rc_10_7 : rnChk 10 7 = true := by decide +kernel
set_option maxRecDepth 1000000 in
theorem rc_10_9 : rnChk 10 9 = true := by decide +kernel
set_option maxRecDepth 1000000 in
theorem rc_10_11 : rnChk 10 11 = true := by decide +kernel
set_option maxRecDepth 1000000 in
theorem rc_11_1 : rnChk 11 1 = true := by decide +kernel
set_option maxRecDepth 1000000 in
theorem rc_11_2 : rnChk 11 2 = true := by decide +kernel
set_option maxRecDepth 1000000 in
theorem rc_11_3 : rnChk 11 3 = true := by decide +kernel
set_option maxRecDepth 1000000 in
theorem rc_11_4 : rnChk 11 4 = true := by decide +kernel
set_option maxRecDepth 1000000 in
theorem rc_11_5 : rnChk 11 5 = true := by decide +kernel
set_option maxRecDepth 1000000 in
theorem rc_11_6 : rnChk 11 6 = true := by decide +kernel
set_option maxRecDepth 1000000 in
theorem rc_11_7 : rnChk 11 7 = true := by decide +kernel
set_option maxRecDepth 1000000 in
theorem rc_11_8 : rnChk 11 8 = true := by decide +kernel
set_option maxRecDepth 1000000 in
theorem rc_11_9 : rnChk 11 9 = true := by decide +kernel
set_option maxRecDepth 1000000 in
theorem rc_11_10 : rnChk 11 10 = true := by decide +kernel
set_option maxRecDepth 1000000 in
theorem rc_11_12 : rnChk 11 12 = true := by decide +kernel
set_option maxRecDepth 1000000 in
theorem rc_12_1 : rnChk 12 1 = true := by decide +kernel
set_option maxRecDepth 1000000 in
theorem rc_12_5 : rnChk 12 5 = true := by decide +kernel
set_option maxRecDepth 1000000 in
theorem rc_12_7 : rnChk 12 7 = true := by decide +kernel
set_option maxRecDepth 1000000 in
theorem rc_12_11 : rnChk 12 11 = true := by decide +kernel
set_option maxRecDepth 1000000 in
theorem rc_12_13 : rnChk 12 13 = true := by decide +kernel
set_option maxRecDepth 1000000 in
theorem rl_2 : rlChk 2 = true := by decide +kernel
set_option maxRecDepth 1000000 in
theorem rl_3 : rlChk 3 = true := by decide +kernel
set_option maxRecDepth 1000000 in
theorem rl_4 : rlChk 4 = true := by decide +kernel
set_option maxRecDepth 1000000 in
theorem rl_5 : rlChk 5 = true := by decide +kernel
set_option maxRecDepth 1000000 in
theorem rl_6 : rlChk 6 = true := by decide +kernel
set_option maxRecDepth 1000000 in
theorem rl_7 : rlChk 7 = true := by decide +kernel
set_option maxRecDepth 1000000 in
theorem rl_8 : rlChk 8 = true := by decide +kernel
set_option maxRecDepth 1000000 in
theorem rl_9 : rlChk 9 = true := by decide +kernel
set_option maxRecDepth 1000000 in
theorem rl_10 : rlChk 10 = true := by decide +kernel
set_option maxRecDepth 1000000 in
theorem rl_11 : rlChk 11 = true := by decide +kernel
set_option maxRecDepth 1000000 in
theorem rl_12 : rlChk 12 = true := by decide +kernel
theorem rl_all (n : Nat) (h2 : 2 ≤ n) (h12 : n ≤ 12) : rlChk n = true := by
  have h : n = 2 ∨ n = 3 ∨ n = 4 ∨ n = 5 ∨ n = 6 ∨ n = 7 ∨ n = 8 ∨ n = 9 ∨ n = 10 ∨ n = 11 ∨ n = 12 := by omega
  rcases h with rfl | rfl | rfl | rfl | rfl | rfl | rfl | rfl | rfl | rfl | rfl
  · exact rl_2
  · exact rl_3
  · exact rl_4
  · exact rl_5
  · exact rl_6
  · exact rl_7
  · exact rl_8
  · exact rl_9
  · exact rl_10
  · exact rl_11
  · exact rl_12
theorem rc_2 (k : Nat) (h1 : 1 ≤ k) (h2 : k ≤ 3) (hg : Int.gcd ((k % 2 : Nat) : Int) (2 : Int) = 1) : rnChk 2 k = true := by
  have h : k = 1 ∨ k = 2 ∨ k = 3 := by omega
  rcases h with rfl | rfl | rfl
  · exact rc_2_1
  · exact absurd hg (by decide)
  · exact rc_2_3
theorem rc_3 (k : Nat) (h1 : 1 ≤ k) (h2 : k ≤ 4) (hg : Int.gcd ((k % 3 : Nat) : Int) (3 : Int) = 1) : rnChk 3 k = true := by
  have h : k = 1 ∨ k = 2 ∨ k = 3 ∨ k = 4 := by omega
  rcases h with rfl | rfl | rfl | rfl
  · exact rc_3_1
  · exact rc_3_2
  · exact absurd hg (by decide)
  · exact rc_3_4
theorem rc_4 (k : Nat) (h1 : 1 ≤ k) (h2 : k ≤ 5) (hg : Int.gcd ((k % 4 : Nat) : Int) (4 : Int) = 1) : rnChk 4 k = true := by
  have h : k = 1 ∨ k = 2 ∨ k = 3 ∨ k = 4 ∨ k = 5 := by omega
  rcases h with rfl | rfl | rfl | rfl | rfl
  · exact rc_4_1
  · exact absurd hg (by decide)
  · exact rc_4_3
  · exact absurd hg (by decide)
  · exact rc_4_5
theorem rc_5 (k : Nat) (h1 : 1 ≤ k) (h2 : k ≤ 6) (hg : Int.gcd ((k % 5 : Nat) : Int) (5 : Int) = 1) : rnChk 5 k = true := by
  have h : k = 1 ∨ k = 2 ∨ k = 3 ∨ k = 4 ∨ k = 5 ∨ k = 6 := by omega
  rcases h with rfl | rfl | rfl | rfl | rfl | rfl
  · exact rc_5_1
  · exact rc_5_2
  · exact rc_5_3
  · exact rc_5_4
  · exact absurd hg (by decide)
  · exact rc_5_6
theorem rc_6 (k : Nat) (h1 : 1 ≤ k) (h2 : k ≤ 7) (hg : Int.gcd ((k % 6 : Nat) : Int) (6 : Int) = 1) : rnChk 6 k = true := by
  have h : k = 1 ∨ k = 2 ∨ k = 3 ∨ k = 4 ∨ k = 5 ∨ k = 6 ∨ k = 7 := by omega
  rcases h with rfl | rfl | rfl | rfl | rfl | rfl | rfl
  · exact rc_6_1
  · exact absurd hg (by decide)
  · exact absurd hg (by decide)
  · exact absurd hg (by decide)
  · exact rc_6_5
  · exact absurd hg (by decide)
  · exact rc_6_7
theorem rc_7 (k : Nat) (h1 : 1 ≤ k) (h2 : k ≤ 8) (hg : Int.gcd ((k % 7 : Nat) : Int) (7 : Int) = 1) : rnChk 7 k = true := by
  have h : k = 1 ∨ k = 2 ∨ k = 3 ∨ k = 4 ∨ k = 5 ∨ k = 6 ∨ k = 7 ∨ k = 8 := by omega
  rcases h with rfl | rfl | rfl | rfl | rfl | rfl | rfl | rfl
  · exact rc_7_1
  · exact rc_7_2
  · exact rc_7_3
  · exact rc_7_4
  · exact rc_7_5
  · exact rc_7_6
  · exact absurd hg (by decide)
  · exact rc_7_8
theorem rc_8 (k : Nat) (h1 : 1 ≤ k) (h2 : k ≤ 9) (hg : Int.gcd ((k % 8 : Nat) : Int) (8 : Int) = 1) : rnChk 8 k = true := by
  have h : k = 1 ∨ k = 2 ∨ k = 3 ∨ k = 4 ∨ k = 5 ∨ k = 6 ∨ k = 7 ∨ k = 8 ∨ k = 9 := by omega
  rcases h with rfl | rfl | rfl | rfl | rfl | rfl | rfl | rfl | rfl
  · exact rc_8_1
  · exact absurd hg (by decide)
  · exact rc_8_3
  · exact absurd hg (by decide)
  · exact rc_8_5
  · exact absurd hg (by decide)
  · exact rc_8_7
  · exact absurd hg (by decide)
  · exact rc_8_9
theorem rc_9 (k : Nat) (h1 : 1 ≤ k) (h2 : k ≤ 10) (hg : Int.gcd ((k % 9 : Nat) : Int) (9 : Int) = 1) : rnChk 9 k = true := by
  have h : k = 1 ∨ k = 2 ∨ k = 3 ∨ k = 4 ∨ k = 5 ∨ k = 6 ∨ k = 7 ∨ k = 8 ∨ k = 9 ∨ k = 10 := by omega
  rcases h with rfl | rfl | rfl | rfl | rfl | rfl | rfl | rfl | rfl | rfl
  · exact rc_9_1
  · exact rc_9_2
  · exact absurd hg (by decide)
  · exact rc_9_4
  · exact rc_9_5
  · exact absurd hg (by decide)
  · exact rc_9_7
  · exact rc_9_8
  · exact absurd hg (by decide)
  · exact rc_9_10
theorem rc_10 (k : Nat) (h1 : 1 ≤ k) (h2 : k ≤ 11) (hg : Int.gcd ((k % 10 : Nat) : Int) (10 : Int) = 1) : rnChk 10 k = true := by
  have h : k = 1 ∨ k = 2 ∨ k = 3 ∨ k = 4 ∨ k = 5 ∨ k = 6 ∨ k = 7 ∨ k = 8 ∨ k = 9 ∨ k = 10 ∨ k = 11 := by omega
  rcases h with rfl | rfl | rfl | rfl | rfl | rfl | rfl | rfl | rfl | rfl | rfl
  · exact rc_10_1
  · exact absurd hg (by decide)
  · exact rc_10_3
  · exact absurd hg (by decide)
  · exact absurd hg (by decide)
  · exact absurd hg (by decide)
  · exact rc_10_7
  · exact absurd hg (by decide)
  · exact rc_10_9
  · exact absurd hg (by decide)
  · exact rc_10_11
theorem rc_11 (k : Nat) (h1 : 1 ≤ k) (h2 : k ≤ 12) (hg : Int.gcd ((k % 11 : Nat) : Int) (11 : Int) = 1) : rnChk 11 k = true := by
  have h : k = 1 ∨ k = 2 ∨ k = 3 ∨ k = 4 ∨ k = 5 ∨ k = 6 ∨ k = 7 ∨ k = 8 ∨ k = 9 ∨ k = 10 ∨ k = 11 ∨ k = 12 := by omega
  rcases h with rfl | rfl | rfl | rfl | rfl | rfl | rfl | rfl | rfl | rfl | rfl | rfl
  · exact rc_11_1
  · exact rc_11_2
  · exact rc_11_3
  · exact rc_11_4
  · exact rc_11_5
  · exact rc_11_6
  · exact rc_11_7
  · exact rc_11_8
  · exact rc_11_9
  · exact rc_11_10
  · exact absurd hg (by decide)
  · exact rc_11_12
theorem rc_12 (k : Nat) (h1 : 1 ≤ k) (h2 : k ≤ 13) (hg : Int.gcd ((k % 12 : Nat) : Int) (12 : Int) = 1) : rnChk 12 k = true := by
  have h : k = 1 ∨ k = 2 ∨ k = 3 ∨ k = 4 ∨ k = 5 ∨ k = 6 ∨ k = 7 ∨ k = 8 ∨ k = 9 ∨ k = 10 ∨ k = 11 ∨ k = 12 ∨ k = 13 := by omega
  rcases h with rfl | rfl | rfl | rfl | rfl | rfl | rfl | rfl | rfl | rfl | rfl | rfl | rfl
  · exact rc_12_1
  · exact absurd hg (by decide)
  · exact absurd hg (by decide)
  · exact absurd hg (by decide)
  · exact rc_12_5
  · exact absurd hg (by decide)
  · exact rc_12_7
  · exact absurd hg (by decide)
  · exact absurd hg (by decide)
  · exact absurd hg (by decide)
  · exact rc_12_11
  · exact absurd hg (by decide)
  · exact rc_12_13
theorem rc_all (n k : Nat) (h2 : 2 ≤ n) (h12 : n ≤ 12) (h1 : 1 ≤ k) (hk : k ≤ n + 1) (hg : Int.gcd ((k % n : Nat) : Int) (n : Int) = 1) : rnChk n k = true := by
  have h : n = 2 ∨ n = 3 ∨ n = 4 ∨ n = 5 ∨ n = 6 ∨ n = 7 ∨ n = 8 ∨ n = 9 ∨ n = 10 ∨ n = 11 ∨ n = 12 := by omega
  rcases h with rfl | rfl | rfl | rfl | rfl | rfl | rfl | rfl | rfl | rfl | rfl
  · exact rc_2 k h1 (by omega) hg
  · exact rc_3 k h1 (by omega) hg
  · exact rc_4 k h1 (by omega) hg
  · exact rc_5 k h1 (by omega) hg
  · exact rc_6 k h1 (by omega) hg
  · exact rc_7 k h1 (by omega) hg
  · exact rc_8 k h1 (by omega) hg
  · exact rc_9 k h1 (by omega) hg
  · exact rc_10 k h1 (by omega) hg
  · exact rc_11 k h1 (by omega) hg
  · exact rc_12 k h1 (by omega) hg
theorem ev_ren_l1 (n k : Nat) (h2 : 2 ≤ n) (h12 : n ≤ 12) (h1 : 1 ≤ k) (hk : k ≤ n + 1) (hg : Int.gcd ((k % n : Nat) : Int) (n : Int) = 1) : Ev (fun f => tickinglaw11_SerialRenames.l1 f n k [] 0) true :=
  Ev.of (fun f => (tickinglaw11_SerialRenames.mono_l f).2.2.1 _ _ _ _) (eq_of_beq (rc_all n k h2 h12 h1 hk hg))
theorem ev_ren_l0 (n : Nat) (h2 : 2 ≤ n) (h12 : n ≤ 12) (d : Nat) : ∀ k : Nat, k + d = n + 1 → 1 ≤ k → Ev (fun f => tickinglaw11_SerialRenames.l0 f n k) true := by
  induction d with
  | zero =>
    intro k hk h1
    obtain rfl : k = n + 1 := by omega
    have hm : (n + 1) % n = 1 := by rw [Nat.add_mod_left, Nat.mod_eq_of_lt (by omega)]
    have hg : Int.gcd (((n + 1) % n : Nat) : Int) (n : Int) = 1 := by rw [hm]; exact Int.one_gcd
    have hl := ev_ren_l1 n (n + 1) h2 h12 h1 (by omega) hg
    have hge := ev_Gcd (((n + 1) % n : Nat) : Int) (n : Int) (by omega) (by omega)
    rw [hg] at hge
    have ht : Int.tmod ((n + 1 : Nat) : Int) (n : Int) = (((n + 1) % n : Nat) : Int) := by rw [Int.tmod_eq_emod_of_nonneg (by omega)]; exact (Int.natCast_emod _ _).symm
    refine Ev.step (f := fun f => (tickingref11_Gcd.f f (((n + 1) % n : Nat) : Int) n).bind fun t => if t = 1 then tickinglaw11_SerialRenames.l1 f n ((n + 1 : Nat) : Int) [] 0 else tickinglaw11_SerialRenames.l0 f n (wrap64 (((n + 1 : Nat) : Int) + 1))) (fun f => ?_) (Ev.bind hge ?_)
    · simp only [tickinglaw11_SerialRenames.l0]; rw [if_neg (by omega), ht]
    · simp only [Int.ofNat_one, if_true]; exact hl
  | succ d ih =>
    intro k hk h1
    have hge := ev_Gcd ((k % n : Nat) : Int) (n : Int) (by omega) (by omega)
    have ht : Int.tmod (k : Int) (n : Int) = ((k % n : Nat) : Int) := by rw [Int.tmod_eq_emod_of_nonneg (by omega)]; exact (Int.natCast_emod _ _).symm
    have hn := ih (k + 1) (by omega) (by omega)
    refine Ev.step (f := fun f => (tickingref11_Gcd.f f ((k % n : Nat) : Int) n).bind fun t => if t = 1 then tickinglaw11_SerialRenames.l1 f n (k : Int) [] 0 else tickinglaw11_SerialRenames.l0 f n ((k + 1 : Nat) : Int)) (fun f => ?_) (Ev.bind hge ?_)
    · simp only [tickinglaw11_SerialRenames.l0]; rw [if_neg (by omega), ht, w64 (by omega) (by omega)]; rfl
    · by_cases hg : Int.gcd ((k % n : Nat) : Int) (n : Int) = 1
      · simp only [hg, Int.ofNat_one, if_true]
        exact ev_ren_l1 n k h2 h12 h1 (by omega) hg
      · have : ¬ ((Int.gcd ((k % n : Nat) : Int) (n : Int) : Nat) : Int) = 1 := by omega
        simp only [this, if_false]
        exact hn
theorem ev_SerialRenames (a0 a1 : Int) : Ev (fun k => tickinglaw11_SerialRenames.f k a0 a1) true := by
  have hm := modN_in a0 11 (by omega)
  obtain ⟨q, hq⟩ : ∃ q : Nat, modN a0 11 = q := ⟨(modN a0 11).toNat, by omega⟩
  obtain ⟨n, hn⟩ : ∃ n : Nat, n = 2 + q := ⟨_, rfl⟩
  have en : wrap64 (2 + (q : Int)) = (n : Int) := by rw [w64 (by omega) (by omega)]; omega
  have hc := rl_all n (by omega) (by omega)
  unfold rlChk at hc
  have h1 : (1 : Int) ≤ 11 := by decide
  have h2 : (11 : Int) ≤ 1000000 := by decide
  have hmd := mod_eq a0 11 h1 h2
  rw [hq] at hmd
  unfold tickinglaw11_SerialRenames.f
  refine Ev.bind (g := fun _ => tickinglaw11_mod.f a0 11) (Ev.some_ fun _ => hmd) ?_
  rw [en]
  split at hc
  · rename_i t e hl
    rw [Bool.and_eq_true, beq_iff_eq, beq_iff_eq] at hc
    obtain ⟨rfl, hg⟩ := hc
    have el : Ev (fun k => serial_Linear.f k (n : Int) 1 1) (t, 0) := Ev.of (serial_Linear.mono _ _ _) hl
    have eg : Ev (fun k => serial_Group.f k t) (0, 0, 0, 0, 0) := Ev.of (serial_Group.mono _) hg
    refine Ev.bind el (Ev.bind eg ?_)
    have hm1 := modN_in a1 (n : Int) (by omega)
    obtain ⟨p, hp⟩ : ∃ p : Nat, modN a1 (n : Int) = p := ⟨(modN a1 (n : Int)).toNat, by omega⟩
    have hj := ev_ren_l0 n (by omega) (by omega) (n - p) (1 + p) (by omega) (by omega)
    have ep : wrap64 (1 + (p : Int)) = ((1 + p : Nat) : Int) := by rw [w64 (by omega) (by omega)]; omega
    have hj0 : Ev (fun k => tickinglaw11_SerialRenames.j0 k (n : Int) a1 false) true := by
      refine Ev.step (fun k => ?_) hj
      simp only [tickinglaw11_SerialRenames.j0, Bool.false_eq_true, if_false]
      rw [mod_eq a1 (n : Int) (by omega) (by omega), hp, Option.bind_some, ep]
    simp only [eq_self, if_true, beq_self_eq_true, Bool.not_true, Bool.or_false]
    exact hj0
  · cases hc
end Go.Proofs.Ytdkncfmlehcjmaa.X
namespace Go.Proofs.Ytdkncfmlehcjmaa.Pure
open Go.Proofs.Ytdkncfmlehcjmaa.X Go.Proofs.YtdkncfmlehcjmaaW.PrintWords
theorem SerialRenames : ∀ (a0 a1 : Int), (Lit.int .i64 a0).wf = true → (Lit.int .i64 a1).wf = true → ∃ k, tickinglaw11_SerialRenames.f k a0 a1 = some true := fun a0 a1 _ _ => by
  obtain ⟨k, hk⟩ := ev_SerialRenames a0 a1
  exact ⟨k, hk k (Nat.le_refl _)⟩
end Go.Proofs.Ytdkncfmlehcjmaa.Pure
end
