/- The first good weights: 1, 2, 1, 2, and so on; what lets an error pass among them, and in what would come before. -/
import Derived.Test.YtdkncfmlehcjmaaTS8
set_option linter.unusedVariables false
set_option linter.unusedSimpArgs false
set_option linter.unusedSectionVars false
namespace Go.Proofs.Ytdkncfmlehcjmaa.X
open Go.RowKit Go.Proofs.YtdkncfmlehcjmaaW.PrintWords
def patA (i : Nat) : Int := if i % 2 = 0 then 1 else 2
def pat (n : Nat) : List Int := (List.range n).map patA
theorem pat_len (n : Nat) : (pat n).length = n := by simp [pat]
theorem pat_succ (n : Nat) : pat (n + 1) = pat n ++ [patA n] := by simp [pat, List.range_succ]
theorem pat_rd (n i : Nat) (h : i < n) : rd (pat n) (i : Int) = patA i := by
  rw [rd_nat _ i (by rw [pat_len]; exact h)]; simp [pat]
theorem rd_app_lt (l : List Int) (x : Int) (i : Nat) (h : i < l.length) : rd (l ++ [x]) (i : Int) = rd l (i : Int) := by
  rw [rd_nat _ i (by simp; omega), rd_nat _ i h, List.getElem_append_left h]
theorem rd_app_eq (l : List Int) (x : Int) : rd (l ++ [x]) (l.length : Int) = x := by
  rw [rd_nat _ _ (by simp)]; simp
/-- The modulus and the number of weights for which good weights are found. -/
def good (N : Nat) (m : Int) : Prop := N ≤ 24 ∧ m ≤ 97 ∧ ((3 ≤ m ∧ m % 2 = 1) ∨ (N = 1 ∧ 2 ≤ m))
theorem patA_le (i : Nat) : 1 ≤ patA i ∧ patA i ≤ 2 := by unfold patA; split <;> omega
section
variable {N : Nat} {m : Int} (hg : good N m) (j : Nat) (hj : j < N)
include hg hj
theorem good_m : 2 ≤ m ∧ m ≤ 97 := by unfold good at hg; omega
theorem target_lt : patA j < m := by
  have := patA_le j
  unfold good at hg
  rcases hg.2.2 with h | h
  · omega
  · have e : j = 0 := by omega
    subst e
    have : patA 0 = 1 := rfl
    omega
theorem pat_digs (x : Int) (x0 : 0 ≤ x) (x1 : x ≤ patA j) : digs (pat j ++ [x]) m = true := by
  have ht := target_lt hg j hj
  unfold digs
  rw [List.all_eq_true]
  intro y hy
  simp only [List.mem_append, List.mem_singleton] at hy
  rcases hy with hy | rfl
  · unfold pat at hy
    simp only [List.mem_map, List.mem_range] at hy
    obtain ⟨i, hi, rfl⟩ := hy
    have := patA_le i
    have : patA i < m := by
      unfold good at hg
      rcases hg.2.2 with h | h
      · omega
      · omega
    simp; omega
  · simp; omega
/-- What passes among some weights and one more: single digits, neighbors. -/
def passed0 (w : List Int) (m : Int) : List Int := letN w m 0 (w.length - offH 0)
def passed1 (w : List Int) (m : Int) : List Int := letN w m 1 (w.length - offH 1)
omit hg hj in
theorem passed0_snoc (x : Int) : passed0 (pat j ++ [x]) m = letN (pat j ++ [x]) m 0 (j + 1) := by
  unfold passed0; rw [show (pat j ++ [x]).length - offH 0 = j + 1 by simp [pat_len, offH]]
omit hg hj in
theorem passed1_snoc (x : Int) : passed1 (pat j ++ [x]) m = letN (pat j ++ [x]) m 1 j := by
  unfold passed1; rw [show (pat j ++ [x]).length - offH 1 = j by simp [pat_len, offH]]
theorem bad_zero : 0 < (passed0 (pat j ++ [0]) m).length + (passed1 (pat j ++ [0]) m).length := by
  have hm := good_m hg j hj
  rw [passed0_snoc, letN_succ]
  have hc : chg (pat j ++ [0]) 0 j = 0 := by
    show rd (pat j ++ [0]) (j : Int) = 0
    have := rd_app_eq (pat j) 0
    rw [pat_len] at this; exact this
  have : letB (pat j ++ [0]) m 0 j = true := by
    unfold letB; rw [hc, Int.gcd_zero_left]; exact decide_eq_true (by omega)
  rw [this]; simp; omega
theorem bad_one (h2 : patA j = 2) : 0 < (passed0 (pat j ++ [1]) m).length + (passed1 (pat j ++ [1]) m).length := by
  have hm := good_m hg j hj
  obtain ⟨i, rfl⟩ : ∃ i, j = i + 1 := by
    cases j with
    | zero => exact absurd h2 (by decide)
    | succ i => exact ⟨i, rfl⟩
  rw [passed1_snoc, letN_succ]
  have hi : patA i = 1 := by unfold patA at h2 ⊢; split at h2 <;> first | omega | (rw [if_pos (by omega)])
  have hc : chg (pat (i + 1) ++ [1]) 1 i = 0 := by
    have e1 : rd (pat (i + 1) ++ [1]) (i : Int) = 1 := by rw [rd_app_lt _ _ _ (by rw [pat_len]; omega), pat_rd _ _ (by omega), hi]
    have e2 : rd (pat (i + 1) ++ [1]) ((i : Int) + 1) = 1 := by
      have := rd_app_eq (pat (i + 1)) 1
      rw [pat_len] at this; exact this
    show rd (pat (i + 1) ++ [1]) (i : Int) - rd (pat (i + 1) ++ [1]) ((i : Int) + 1) = 0
    rw [e1, e2]; rfl
  have : letB (pat (i + 1) ++ [1]) m 1 i = true := by
    unfold letB; rw [hc, Int.gcd_zero_left]; exact decide_eq_true (by omega)
  rw [this]; simp; omega
omit hg hj in
theorem letN_nil (w : List Int) (m h : Int) (n : Nat) (hb : ∀ i, i < n → letB w m h i = false) : letN w m h n = [] := by
  unfold letN
  rw [List.map_eq_nil_iff, List.filter_eq_nil_iff]
  intro i hi
  rw [hb i (by simpa using hi)]; simp
omit hg hj in
theorem gcd_two : ∀ m : Nat, m < 98 → m % 2 = 1 → Int.gcd 2 (m : Int) = 1 := by decide
theorem good_next : passed0 (pat (j + 1)) m = [] ∧ passed1 (pat (j + 1)) m = [] := by
  have hm := good_m hg j hj
  have g1 : Int.gcd 1 m = 1 := Int.one_gcd
  have gm1 : Int.gcd (-1) m = 1 := by rw [Int.neg_gcd]; exact g1
  constructor
  · rw [pat_succ, passed0_snoc, ← pat_succ]
    refine letN_nil _ _ _ _ fun i hi => ?_
    have hc : chg (pat (j + 1)) 0 i = patA i := pat_rd _ _ hi
    unfold letB
    rw [hc]
    refine decide_eq_false ?_
    by_cases e : i % 2 = 0
    · rw [show patA i = 1 by unfold patA; rw [if_pos e], g1]; decide
    · rw [show patA i = 2 by unfold patA; rw [if_neg e]]
      have : Int.gcd 2 m = 1 := by
        have h3 : m % 2 = 1 := by
          rcases hg.2.2 with h | h
          · exact h.2
          · omega
        have := gcd_two m.toNat (by omega) (by omega)
        rwa [Int.toNat_of_nonneg (by omega)] at this
      rw [this]; decide
  · rw [pat_succ, passed1_snoc, ← pat_succ]
    refine letN_nil _ _ _ _ fun i hi => ?_
    have e1 := pat_rd (j + 1) i (by omega)
    have e2 : rd (pat (j + 1)) ((i : Int) + 1) = patA (i + 1) := pat_rd (j + 1) (i + 1) (by omega)
    have hc : chg (pat (j + 1)) 1 i = patA i - patA (i + 1) := by
      show rd (pat (j + 1)) (i : Int) - rd (pat (j + 1)) ((i : Int) + 1) = _
      rw [e1, e2]
    unfold letB
    rw [hc]
    refine decide_eq_false ?_
    by_cases e : i % 2 = 0
    · rw [show patA i - patA (i + 1) = -1 by unfold patA; rw [if_pos e, if_neg (by omega)]; rfl, gm1]; decide
    · rw [show patA i - patA (i + 1) = 1 by unfold patA; rw [if_neg e, if_pos (by omega)]; rfl, g1]; decide
/-- The two calls of the search at weights and one more. -/
theorem lets_two (x : Int) (x0 : 0 ≤ x) (x1 : x ≤ patA j) : (∃ k, serial_lets.f k (pat j ++ [x]) m 0 = some (passed0 (pat j ++ [x]) m)) ∧ ∃ k, serial_lets.f k (pat j ++ [x]) m 1 = some (passed1 (pat j ++ [x]) m) := by
  have hm := good_m hg j hj
  have hd := pat_digs hg j hj x x0 x1
  have hl : (pat j ++ [x]).length ≤ 24 := by
    rw [List.length_append, pat_len, List.length_singleton]; unfold good at hg; omega
  exact ⟨(ev_lets hm.2 hd hl 0 (by omega) hm.1).rounds, (ev_lets hm.2 hd hl 1 (by omega) hm.1).rounds⟩
end
end Go.Proofs.Ytdkncfmlehcjmaa.X
