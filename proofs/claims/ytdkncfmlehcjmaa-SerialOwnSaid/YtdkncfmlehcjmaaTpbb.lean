/- Texts behind SerialOwn, part 28: contracts of the program's functions and the plain words for them. -/
import Derived.Lib.SliceRun
import Derived.WalkSpells
import Derived.Laws.EntriesVeiled
import Derived.Test.YtdkncfmlehcjmaaTpat
import Derived.Test.YtdkncfmlehcjmaaTpav
import Derived.Test.YtdkncfmlehcjmaaTpba
section
/- The changes of weights, and what a modulus lets pass. -/
set_option linter.unusedVariables false
set_option linter.unusedSimpArgs false
set_option linter.unusedSectionVars false
namespace Go.Proofs.Ytdkncfmlehcjmaa.X
open Go.RowKit Go.Proofs.YtdkncfmlehcjmaaW.PrintWords
/-- How many weights behind its place a change reaches. -/
def offH (h : Int) : Nat := if h = 0 then 0 else if h = 3 then 2 else 1
/-- The weight of a change at a place. -/
def chg (w : List Int) (h : Int) (i : Nat) : Int := if h = 0 then rd w i else if h = 1 then rd w i - rd w ((i : Int) + 1) else if h = 2 then rd w i + rd w ((i : Int) + 1) else rd w i - rd w ((i : Int) + 2)
def chgs (w : List Int) (h : Int) (i : Nat) : List Int := (List.range i).map (chg w h)
section
variable {w : List Int} {m : Int} (h2 : m ≤ 97) (hw : digs w m = true) (hn : w.length ≤ 24) (h : Int) (hh : 0 ≤ h ∧ h ≤ 3)
include h2 hw hn hh
theorem chg_bd (i : Nat) (hi : i + offH h < w.length) : -97 ≤ chg w h i ∧ chg w h i ≤ 194 := by
  have a0 := digs_rd hw i (by omega)
  unfold chg
  unfold offH at hi
  by_cases e0 : h = 0
  · rw [if_pos e0]; omega
  · rw [if_neg e0] at hi ⊢
    by_cases e1 : h = 1
    · rw [if_neg (by omega)] at hi
      have a1 : 0 ≤ rd w ((i : Int) + 1) ∧ rd w ((i : Int) + 1) < m := digs_rd hw (i + 1) (by omega)
      rw [if_pos e1]; omega
    · rw [if_neg e1]
      by_cases e2 : h = 2
      · rw [if_neg (by omega)] at hi
        have a1 : 0 ≤ rd w ((i : Int) + 1) ∧ rd w ((i : Int) + 1) < m := digs_rd hw (i + 1) (by omega)
        rw [if_pos e2]; omega
      · rw [if_pos (by omega)] at hi
        have a1 : 0 ≤ rd w ((i : Int) + 2) ∧ rd w ((i : Int) + 2) < m := digs_rd hw (i + 2) (by omega)
        rw [if_neg e2]; omega
theorem ev_changes_l (d : Nat) : ∀ i : Nat, i + d = w.length → Ev (fun k => serial_changes.l0 k w h (chgs w h (min i (w.length - offH h))) w.length i) (chgs w h (w.length - offH h)) := by
  induction d with
  | zero =>
    intro i hi
    rw [show min i (w.length - offH h) = w.length - offH h by omega]
    refine Ev.step (f := fun _ => some (chgs w h (w.length - offH h))) (fun k => ?_) (Ev.now _)
    simp only [serial_changes.l0]; rw [if_neg (by omega)]
  | succ d ih =>
    intro i hi
    have hI := ih (i + 1) (by omega)
    have a0 := digs_rd hw i (by omega)
    have hlen : (chgs w h (min i (w.length - offH h))).length < 17592186044416 := by simp [chgs]; omega
    have wi : wrap64 ((i : Int) + 1) = (i : Int) + 1 := w64 (by omega) (by omega)
    have wi2 : wrap64 ((i : Int) + 2) = (i : Int) + 2 := w64 (by omega) (by omega)
    by_cases hin : i + offH h < w.length
    · rw [show min (i + 1) (w.length - offH h) = i + 1 by omega] at hI
      rw [show min i (w.length - offH h) = i by omega] at hlen ⊢
      have hs : chgs w h (i + 1) = chgs w h i ++ [chg w h i] := by simp [chgs, List.range_succ]
      rw [hs] at hI
      have hb := chg_bd h2 hw hn h hh i hin
      unfold offH at hin
      by_cases e0 : h = 0
      · have hc : chg w h i = rd w i := by unfold chg; rw [if_pos e0]
        rw [hc] at hI
        refine Ev.step (fun k => ?_) hI
        simp only [serial_changes.l0]
        rw [if_pos (by omega), if_pos e0, if_pos (by omega), if_pos (by omega), if_pos hlen, wi]; rfl
      · rw [if_neg e0] at hin
        by_cases e1 : h = 1
        · rw [if_neg (by omega)] at hin
          have hc : chg w h i = rd w i - rd w ((i : Int) + 1) := by unfold chg; rw [if_neg e0, if_pos e1]
          rw [hc] at hI hb
          refine Ev.step (f := fun k => serial_changes.j1 k w h (chgs w h i) i w.length i true) (fun k => ?_) (Ev.step (fun k => ?_) hI)
          · simp only [serial_changes.l0]
            rw [if_pos (by omega), if_neg e0, if_pos e1, wi, decide_eq_true (by omega)]
          · simp only [serial_changes.j1, if_true]
            rw [wi, if_pos (by omega), if_pos (by omega), if_pos (by omega), if_pos (by omega), if_pos hlen, w64 (by omega) (by omega)]; rfl
        · by_cases e2 : h = 2
          · rw [if_neg (by omega)] at hin
            have hc : chg w h i = rd w i + rd w ((i : Int) + 1) := by unfold chg; rw [if_neg e0, if_neg e1, if_pos e2]
            rw [hc] at hI hb
            refine Ev.step (f := fun k => serial_changes.j1 k w h (chgs w h i) i w.length i false) (fun k => ?_) (Ev.step (f := fun k => serial_changes.j2 k w h (chgs w h i) i w.length i true) (fun k => ?_) (Ev.step (fun k => ?_) hI))
            · simp only [serial_changes.l0]
              rw [if_pos (by omega), if_neg e0, if_neg e1]
            · simp only [serial_changes.j1, Bool.false_eq_true, if_false]
              rw [if_pos e2, wi, decide_eq_true (by omega)]
            · simp only [serial_changes.j2, if_true]
              rw [wi, if_pos (by omega), if_pos (by omega), if_pos (by omega), if_pos (by omega), if_pos hlen, w64 (by omega) (by omega)]; rfl
          · rw [if_pos (by omega)] at hin
            have hc : chg w h i = rd w i - rd w ((i : Int) + 2) := by unfold chg; rw [if_neg e0, if_neg e1, if_neg e2]
            rw [hc] at hI hb
            refine Ev.step (f := fun k => serial_changes.j1 k w h (chgs w h i) i w.length i false) (fun k => ?_) (Ev.step (f := fun k => serial_changes.j2 k w h (chgs w h i) i w.length i false) (fun k => ?_) (Ev.step (fun k => ?_) hI))
            · simp only [serial_changes.l0]
              rw [if_pos (by omega), if_neg e0, if_neg e1]
            · simp only [serial_changes.j1, Bool.false_eq_true, if_false]
              rw [if_neg e2]
            · simp only [serial_changes.j2, Bool.false_eq_true, if_false]
              rw [wi2, wi, if_pos (by omega), if_pos (by omega), if_pos (by omega), if_pos (by omega), if_pos (by omega), if_pos hlen, w64 (by omega) (by omega)]; rfl
    · rw [show min (i + 1) (w.length - offH h) = w.length - offH h by omega] at hI
      rw [show min i (w.length - offH h) = w.length - offH h by omega] at hlen ⊢
      have e0 : ¬ h = 0 := fun e => by unfold offH at hin; rw [if_pos e] at hin; omega
      unfold offH at hin
      rw [if_neg e0] at hin
      by_cases e1 : h = 1
      · rw [if_neg (by omega)] at hin
        refine Ev.step (f := fun k => serial_changes.j1 k w h (chgs w h (w.length - offH h)) i w.length i false) (fun k => ?_) (Ev.step (f := fun k => serial_changes.j2 k w h (chgs w h (w.length - offH h)) i w.length i false) (fun k => ?_) (Ev.step (fun k => ?_) hI))
        · simp only [serial_changes.l0]
          rw [if_pos (by omega), if_neg e0, if_pos e1, wi, decide_eq_false (by omega)]
        · simp only [serial_changes.j1, Bool.false_eq_true, if_false]
          rw [if_neg (by omega)]
        · simp only [serial_changes.j2, Bool.false_eq_true, if_false]
          rw [if_neg (by omega), wi]; rfl
      · by_cases e2 : h = 2
        · rw [if_neg (by omega)] at hin
          refine Ev.step (f := fun k => serial_changes.j1 k w h (chgs w h (w.length - offH h)) i w.length i false) (fun k => ?_) (Ev.step (f := fun k => serial_changes.j2 k w h (chgs w h (w.length - offH h)) i w.length i false) (fun k => ?_) (Ev.step (fun k => ?_) hI))
          · simp only [serial_changes.l0]
            rw [if_pos (by omega), if_neg e0, if_neg e1]
          · simp only [serial_changes.j1, Bool.false_eq_true, if_false]
            rw [if_pos e2, wi, decide_eq_false (by omega)]
          · simp only [serial_changes.j2, Bool.false_eq_true, if_false]
            rw [if_neg (by omega), wi]; rfl
        · rw [if_pos (by omega)] at hin
          refine Ev.step (f := fun k => serial_changes.j1 k w h (chgs w h (w.length - offH h)) i w.length i false) (fun k => ?_) (Ev.step (f := fun k => serial_changes.j2 k w h (chgs w h (w.length - offH h)) i w.length i false) (fun k => ?_) (Ev.step (fun k => ?_) hI))
          · simp only [serial_changes.l0]
            rw [if_pos (by omega), if_neg e0, if_neg e1]
          · simp only [serial_changes.j1, Bool.false_eq_true, if_false]
            rw [if_neg e2]
          · simp only [serial_changes.j2, Bool.false_eq_true, if_false]
            rw [if_pos (by omega), wi2, if_neg (by omega), wi]; rfl
theorem ev_changes : Ev (fun k => serial_changes.f k w h) (chgs w h (w.length - offH h)) := by
  have := ev_changes_l h2 hw hn h hh w.length 0 (by omega)
  simp only [Nat.zero_le, Nat.min_eq_left] at this
  exact this
/-- The places below i whose change has a divisor in common with m. -/
def letB (w : List Int) (m h : Int) (i : Nat) : Bool := decide (1 < (Int.gcd (chg w h i) m : Int))
def letN (w : List Int) (m h : Int) (i : Nat) : List Int := ((List.range i).filter (letB w m h)).map fun (i : Nat) => (i : Int)
omit h2 hw hn hh in
theorem letN_zero (w : List Int) (m h : Int) : letN w m h 0 = [] := rfl
omit h2 hw hn hh in
theorem letN_succ (w : List Int) (m h : Int) (i : Nat) : letN w m h (i + 1) = letN w m h i ++ (if letB w m h i then [(i : Int)] else []) := by
  unfold letN
  rw [List.range_succ, List.filter_append, List.map_append]
  congr 1
  cases hb : letB w m h i <;> simp [List.filter, hb]
omit h2 hw hn hh in
theorem letN_len (w : List Int) (m h : Int) (i : Nat) : (letN w m h i).length ≤ i := by
  unfold letN; rw [List.length_map]; exact Nat.le_trans (List.length_filter_le _ _) (by simp)
omit h2 hw hn hh in
theorem letN_lt (w : List Int) (m h : Int) (i : Nat) (hi : i ≤ 24) : (letN w m h i).length < 17592186044416 := by
  have := letN_len w m h i
  omega
omit h2 hw hn hh in
theorem wrap_succ (i : Nat) (hi : i ≤ 1000) : wrap64 ((i : Int) + 1) = ((i + 1 : Nat) : Int) := w64 (by omega) (by omega)
theorem ev_lets_l (h1 : 2 ≤ m) (N : Nat) (hN : N + offH h ≤ w.length) (d : Nat) : ∀ i : Nat, i + d = N → Ev (fun k => serial_lets.l0 k m (letN w m h i) (chgs w h N) N i) (letN w m h N) := by
  induction d with
  | zero =>
    intro i hi
    obtain rfl : i = N := by omega
    refine Ev.step (f := fun _ => some (letN w m h i)) (fun k => ?_) (Ev.now _)
    simp only [serial_lets.l0]; rw [if_neg (by omega)]
  | succ d ih =>
    intro i hi
    have hlt := letN_lt w m h i (by omega)
    have wi := wrap_succ i (by omega)
    have hI := ih (i + 1) (by omega)
    have hb := chg_bd h2 hw hn h hh i (by omega)
    have hl : (chgs w h N).length = N := by simp [chgs]
    have hr : rd (chgs w h N) (i : Int) = chg w h i := by rw [rd_nat _ i (by omega)]; simp [chgs]
    have hg := ev_gcd (chg w h i) m (by omega) (by omega) (by omega) (by omega)
    rw [letN_succ] at hI
    refine Ev.step (f := fun k => (serial_gcd.f k (chg w h i) m).bind fun t262 => (if t262 > 1 then (if (letN w m h i).length < 17592186044416 then (serial_lets.l0 k m ((letN w m h i) ++ [(i : Int)]) (chgs w h N) N (wrap64 ((i : Int) + 1))) else (none)) else (serial_lets.l0 k m (letN w m h i) (chgs w h N) N (wrap64 ((i : Int) + 1))))) (fun k => ?_) (Ev.bind hg ?_)
    · simp only [serial_lets.l0]; rw [if_pos (by omega), if_pos (by omega), if_pos (by omega), hr]
    · by_cases hB : (Int.gcd (chg w h i) m : Int) > 1
      · rw [show letB w m h i = true from decide_eq_true hB, if_pos rfl] at hI
        simp only [hB, hlt, if_true, wi]; exact hI
      · rw [show letB w m h i = false from decide_eq_false hB] at hI
        simp only [Bool.false_eq_true, if_false, List.append_nil] at hI
        simp only [hB, if_false, wi]; exact hI
theorem ev_lets0 (h1 : 2 ≤ m) (N : Nat) (hN : N = 0 ∨ N + offH h ≤ w.length) : Ev (fun k => serial_lets.l0 k m [] (chgs w h N) N 0) (letN w m h N) := by
  rcases hN with rfl | hN
  · rw [letN_zero]
    refine Ev.step (f := fun _ => some []) (fun k => ?_) (Ev.now _)
    simp only [serial_lets.l0]; rw [if_neg (by omega)]
  · have := ev_lets_l h2 hw hn h hh h1 N hN N 0 (by omega)
    rw [letN_zero] at this
    exact this
theorem ev_lets (h1 : 2 ≤ m) : Ev (fun k => serial_lets.f k w m h) (letN w m h (w.length - offH h)) := by
  have hl : (chgs w h (w.length - offH h)).length = w.length - offH h := by simp [chgs]
  have h3 := ev_lets0 h2 hw hn h hh h1 (w.length - offH h) (by omega)
  rw [← hl] at h3
  refine Ev.congr (f := fun k => (serial_changes.f k w h).bind fun t258 => serial_lets.l0 k m [] t258 t258.length 0) (fun k => by unfold serial_lets.f; rfl) (Ev.bind (ev_changes h2 hw hn h hh) ?_)
  rw [hl] at h3 ⊢
  exact h3
end
end Go.Proofs.Ytdkncfmlehcjmaa.X
end

section
/- The first good weights: 1, 2, 1, 2, and so on; what lets an error pass among them, and in what would come before. -/
set_option linter.unusedVariables false
set_option linter.unusedSimpArgs false
set_option linter.unusedSectionVars false
namespace Go.Proofs.Ytdkncfmlehcjmaa.X
open Go.RowKit Go.Proofs.YtdkncfmlehcjmaaW.PrintWords
def patA (i : Nat) : Int := if i % 2 = 0 then 1 else 2
def pat (n : Nat) : List Int := (List.range n).map patA
theorem pat_len (n : Nat) : (pat n).length = n := by simp [pat]
theorem pat_succ (n : Nat) : pat (n + 1) = pat n ++ [patA n] := by simp [pat, List.range_succ]
theorem pat_rd (n i : Nat) (h : i < n) : rd (pat n) (i : Int) = patA i := by
  rw [rd_nat _ i (by rw [pat_len]; exact h)]; simp [pat]
theorem rd_app_lt (l : List Int) (x : Int) (i : Nat) (h : i < l.length) : rd (l ++ [x]) (i : Int) = rd l (i : Int) := by
  rw [rd_nat _ i (by simp; omega), rd_nat _ i h, List.getElem_append_left h]
theorem rd_app_eq (l : List Int) (x : Int) : rd (l ++ [x]) (l.length : Int) = x := by
  rw [rd_nat _ _ (by simp)]; simp
/-- The modulus and the number of weights for which good weights are found. -/
def good (N : Nat) (m : Int) : Prop := N ≤ 24 ∧ m ≤ 97 ∧ ((3 ≤ m ∧ m % 2 = 1) ∨ (N = 1 ∧ 2 ≤ m))
theorem patA_le (i : Nat) : 1 ≤ patA i ∧ patA i ≤ 2 := by unfold patA; split <;> omega
section
variable {N : Nat} {m : Int} (hg : good N m) (j : Nat) (hj : j < N)
include hg hj
theorem good_m : 2 ≤ m ∧ m ≤ 97 := by unfold good at hg; omega
theorem target_lt : patA j < m := by
  have := patA_le j
  unfold good at hg
  rcases hg.2.2 with h | h
  · omega
  · have e : j = 0 := by omega
    subst e
    have : patA 0 = 1 := rfl
    omega
theorem pat_digs (x : Int) (x0 : 0 ≤ x) (x1 : x ≤ patA j) : digs (pat j ++ [x]) m = true := by
  have ht := target_lt hg j hj
  unfold digs
  rw [List.all_eq_true]
  intro y hy
  simp only [List.mem_append, List.mem_singleton] at hy
  rcases hy with hy | rfl
  · unfold pat at hy
    simp only [List.mem_map, List.mem_range] at hy
    obtain ⟨i, hi, rfl⟩ := hy
    have := patA_le i
    have : patA i < m := by
      unfold good at hg
      rcases hg.2.2 with h | h
      · omega
      · omega
    simp; omega
  · simp; omega
/-- What passes among some weights and one more: single digits, neighbors. -/
def passed0 (w : List Int) (m : Int) : List Int := letN w m 0 (w.length - offH 0)
def passed1 (w : List Int) (m : Int) : List Int := letN w m 1 (w.length - offH 1)
omit hg hj in
theorem passed0_snoc (x : Int) : passed0 (pat j ++ [x]) m = letN (pat j ++ [x]) m 0 (j + 1) := by
  unfold passed0; rw [show (pat j ++ [x]).length - offH 0 = j + 1 by simp [pat_len, offH]]
omit hg hj in
theorem passed1_snoc (x : Int) : passed1 (pat j ++ [x]) m = letN (pat j ++ [x]) m 1 j := by
  unfold passed1; rw [show (pat j ++ [x]).length - offH 1 = j by simp [pat_len, offH]]
theorem bad_zero : 0 < (passed0 (pat j ++ [0]) m).length + (passed1 (pat j ++ [0]) m).length := by
  have hm := good_m hg j hj
  rw [passed0_snoc, letN_succ]
  have hc : chg (pat j ++ [0]) 0 j = 0 := by
    show rd (pat j ++ [0]) (j : Int) = 0
    have := rd_app_eq (pat j) 0
    rw [pat_len] at this; exact this
  have : letB (pat j ++ [0]) m 0 j = true := by
    unfold letB; rw [hc, Int.gcd_zero_left]; exact decide_eq_true (by omega)
  rw [this]; simp; omega
theorem bad_one (h2 : patA j = 2) : 0 < (passed0 (pat j ++ [1]) m).length + (passed1 (pat j ++ [1]) m).length := by
  have hm := good_m hg j hj
  obtain ⟨i, rfl⟩ : ∃ i, j = i + 1 := by
    cases j with
    | zero => exact absurd h2 (by decide)
    | succ i => exact ⟨i, rfl⟩
  rw [passed1_snoc, letN_succ]
  have hi : patA i = 1 := by unfold patA at h2 ⊢; split at h2 <;> first | omega | (rw [if_pos (by omega)])
  have hc : chg (pat (i + 1) ++ [1]) 1 i = 0 := by
    have e1 : rd (pat (i + 1) ++ [1]) (i : Int) = 1 := by rw [rd_app_lt _ _ _ (by rw [pat_len]; omega), pat_rd _ _ (by omega), hi]
    have e2 : rd (pat (i + 1) ++ [1]) ((i : Int) + 1) = 1 := by
      have := rd_app_eq (pat (i + 1)) 1
      rw [pat_len] at this; exact this
    show rd (pat (i + 1) ++ [1]) (i : Int) - rd (pat (i + 1) ++ [1]) ((i : Int) + 1) = 0
    rw [e1, e2]; rfl
  have : letB (pat (i + 1) ++ [1]) m 1 i = true := by
    unfold letB; rw [hc, Int.gcd_zero_left]; exact decide_eq_true (by omega)
  rw [this]; simp; omega
omit hg hj in
theorem letN_nil (w : List Int) (m h : Int) (n : Nat) (hb : ∀ i, i < n → letB w m h i = false) : letN w m h n = [] := by
  unfold letN
  rw [List.map_eq_nil_iff, List.filter_eq_nil_iff]
  intro i hi
  rw [hb i (by simpa using hi)]; simp
omit hg hj in
theorem gcd_two : ∀ m : Nat, m < 98 → m % 2 = 1 → Int.gcd 2 (m : Int) = 1 := by decide
theorem good_next : passed0 (pat (j + 1)) m = [] ∧ passed1 (pat (j + 1)) m = [] := by
  have hm := good_m hg j hj
  have g1 : Int.gcd 1 m = 1 := Int.one_gcd
  have gm1 : Int.gcd (-1) m = 1 := by rw [Int.neg_gcd]; exact g1
  constructor
  · rw [pat_succ, passed0_snoc, ← pat_succ]
    refine letN_nil _ _ _ _ fun i hi => ?_
    have hc : chg (pat (j + 1)) 0 i = patA i := pat_rd _ _ hi
    unfold letB
    rw [hc]
    refine decide_eq_false ?_
    by_cases e : i % 2 = 0
    · rw [show patA i = 1 by unfold patA; rw [if_pos e], g1]; decide
    · rw [show patA i = 2 by unfold patA; rw [if_neg e]]
      have : Int.gcd 2 m = 1 := by
        have h3 : m % 2 = 1 := by
          rcases hg.2.2 with h | h
          · exact h.2
          · omega
        have := gcd_two m.toNat (by omega) (by omega)
        rwa [Int.toNat_of_nonneg (by omega)] at this
      rw [this]; decide
  · rw [pat_succ, passed1_snoc, ← pat_succ]
    refine letN_nil _ _ _ _ fun i hi => ?_
    have e1 := pat_rd (j + 1) i (by omega)
    have e2 : rd (pat (j + 1)) ((i : Int) + 1) = patA (i + 1) := pat_rd (j + 1) (i + 1) (by omega)
    have hc : chg (pat (j + 1)) 1 i = patA i - patA (i + 1) := by
      show rd (pat (j + 1)) (i : Int) - rd (pat (j + 1)) ((i : Int) + 1) = _
      rw [e1, e2]
    unfold letB
    rw [hc]
    refine decide_eq_false ?_
    by_cases e : i % 2 = 0
    · rw [show patA i - patA (i + 1) = -1 by unfold patA; rw [if_pos e, if_neg (by omega)]; rfl, gm1]; decide
    · rw [show patA i - patA (i + 1) = 1 by unfold patA; rw [if_neg e, if_pos (by omega)]; rfl, g1]; decide
/-- The two calls of the search at weights and one more. -/
theorem lets_two (x : Int) (x0 : 0 ≤ x) (x1 : x ≤ patA j) : (∃ k, serial_lets.f k (pat j ++ [x]) m 0 = some (passed0 (pat j ++ [x]) m)) ∧ ∃ k, serial_lets.f k (pat j ++ [x]) m 1 = some (passed1 (pat j ++ [x]) m) := by
  have hm := good_m hg j hj
  have hd := pat_digs hg j hj x x0 x1
  have hl : (pat j ++ [x]).length ≤ 24 := by
    rw [List.length_append, pat_len, List.length_singleton]; unfold good at hg; omega
  exact ⟨(ev_lets hm.2 hd hl 0 (by omega) hm.1).rounds, (ev_lets hm.2 hd hl 1 (by omega) hm.1).rounds⟩
end
end Go.Proofs.Ytdkncfmlehcjmaa.X
end

section
/- slices.Clone of ints, by hand: the same numbers in new memory, nil of nil. -/
set_option linter.unusedVariables false
set_option linter.unusedSimpArgs false
namespace Go.Proofs.Ytdkncfmlehcjmaa.X
open Go.RowKit Go.Proofs.YtdkncfmlehcjmaaW.PrintWords Go.Proofs.YtdkncfmlehcjmaaW.PrintLast Go.Proofs.YtdkncfmlehcjmaaW.PrintMore
theorem R_made0 (w : World) (base : Nat) (hb : base ≤ w.heap.size) : Kd.R (Kd.int .i64) 3 (w.alloc (.cells #[] 3)) base (fun _ => True) (.slice (some ⟨w.heap.size, 0, none⟩) 0 0) [] :=
  ⟨fun _ _ => trivial, [], World.ownsRow_made w #[] 0 hb (Nat.zero_le _) rfl, Reps.none _ _⟩
set_option maxHeartbeats 2000000 in
set_option maxRecDepth 100000 in
theorem clone_some (A : Addr) (c : Nat) (l : List Int) (w : World) (hr : Kd.C (Kd.int .i64) w (some A) l.length l) (hn : l.length ≤ 1000000) :
    Calls Try.prog 65 #[.slice (some A) l.length c] w fun e w' => ∃ v0_ : Value, e = .returned (v0_) ∧ Kd.R (Kd.int .i64) 3 w' w.heap.size (fun _ => True) v0_ l ∧ Below w.heap.size w w' := by
  have HR := Aside0.mk hr
  have HB := Aside0.mk (Below.refl w.heap.size w)
  have HN := Aside0.mk hn
  clear hr hn
  have q23 : ∀ (w : World) (a : Option Addr) (n c n' c' : Nat), (binOp .eql 23 (.slice a n c) (.slice none n' c')).run Try.prog w = .ok (.bool a.isNone) w := fun w a n c n' c' => Lib.run_eql_slice_nil w _ _ a n c n' c' Try.underlying23
  go_enter Try.func65, Try.ntmps65
  go_wp2_with (at_builtin; go_loud (refine Kd.R_append_rows (Kd.int .i64) (w0 := w) w.heap.size rfl (.tmp 5) (.tmp 6) 23 3 (.int .i64 0) 8 rfl Try.underlying23 info3 rfl (by decide) (by omega) (.slice (some ⟨w.heap.size, 0, none⟩) 0 0) ([] : List Int) l _ _ _ (fun _ => True) (fun _ => False) rfl rfl ?aO ?aR (fun _ _ h => h) (fun _ h => h.elim) ?aF ?aB ?aS ?aL ?_); go_loud (case aO => exact R_made0 w _ (Nat.le_refl _)); go_loud (case aR => exact Kd.C_alloc HR.out _); go_loud (case aF => exact fun _ _ => trivial); go_loud (case aB => exact below_alloc HB.out _); go_loud (case aS => first | exact Nat.le_refl _ | exact (below_alloc HB.out _).size); go_loud (case aL => have := HN.out; simp; omega); intro v103 w7 ho hb hg hat; have HO := Aside0.mk ho; have HB2 := Aside0.mk hb; clear ho hb hg hat)
  go_ret
  exact ⟨_, rfl, HO.out, HB2.out⟩
set_option maxHeartbeats 2000000 in
theorem clone_nil (c : Nat) (w : World) :
    Calls Try.prog 65 #[.slice none 0 c] w fun e w' => e = .returned (.slice none 0 0) ∧ w = w' := by
  have q23 : ∀ (w : World) (a : Option Addr) (n c n' c' : Nat), (binOp .eql 23 (.slice a n c) (.slice none n' c')).run Try.prog w = .ok (.bool a.isNone) w := fun w a n c n' c' => Lib.run_eql_slice_nil w _ _ a n c n' c' Try.underlying23
  go_enter Try.func65, Try.ntmps65
  go_wp2
  go_ret
  exact ⟨rfl, rfl⟩
theorem slices_Clone_int_int.calls (A : Option Addr) (c : Nat) (l : List Int) (w : World) (hr : Kd.C (Kd.int .i64) w A l.length l) (hA : A = none → l = []) (hn : l.length ≤ 1000000) :
    Calls Try.prog 65 #[.slice A l.length c] w fun e w' => ∃ v0_ : Value, e = .returned (v0_) ∧ Kd.R (Kd.int .i64) 3 w' w.heap.size (fun _ => True) v0_ l ∧ Below w.heap.size w w' := by
  cases A with
  | none =>
    obtain rfl := hA rfl
    exact (clone_nil c w).mono fun e w' ⟨h1, h2⟩ => ⟨_, h1, Kd.R_nil _ _ _ _ _, by rw [← h2]; exact Below.refl _ _⟩
  | some a => exact clone_some a c l w hr hn
end Go.Proofs.Ytdkncfmlehcjmaa.X
end

section
/- serial.Weights, by hand: the search by a closure that calls itself finds 1, 2, 1, 2 and so on at once. -/
set_option linter.unusedVariables false
set_option linter.unusedSimpArgs false
namespace Go.Proofs.Ytdkncfmlehcjmaa.X
open Go.RowKit Go.Proofs.YtdkncfmlehcjmaaW.PrintWords Go.Proofs.YtdkncfmlehcjmaaW.PrintLast Go.Proofs.YtdkncfmlehcjmaaW.PrintMore
attribute [local go_sem] max2_int min2_int max_two min_two max_three min_three max_four min_four
/-- The closure's value: it holds the two numbers and itself. -/
def extV (gn gm gf : Nat) : Value := .func (.func 64) #[] #[.pointer (some ⟨gn, 0, none⟩), .pointer (some ⟨gm, 0, none⟩), .pointer (some ⟨gf, 0, none⟩)]
/-- What the closure returns: the whole pattern, in its own memory. -/
def Ext (N base : Nat) (W : World) (e : Ending) (w' : World) : Prop := ∃ v0 : Value, e = .returned v0 ∧ Kd.R (Kd.int .i64) 3 w' base (fun _ => True) v0 (pat N) ∧ Below W.heap.size W w'
/-- What Lets returns to the closure. -/
def LetsR (n : Nat) (w : World) (e : Ending) (w' : World) : Prop := ∃ v0 : Value, e = .returned v0 ∧ (∃ A c, v0 = .slice A n c) ∧ Below w.heap.size w w'
def LetsN (l : List Int) (m h : Int) (n : Nat) : Prop := ∃ k r, serial_lets.f k l m h = some r ∧ r.length = n
theorem lets_r (l : List Int) (m h : Int) (n : Nat) (hk : LetsN l m h n) (A : Option Addr) (c : Nat) (w : World) (hr : Kd.C (Kd.int .i64) w A l.length l) (hc : l.length ≤ c) :
    Calls Try.prog 61 #[.slice A l.length c, .int .i64 m, .int .i64 h] w (LetsR n w) := by
  obtain ⟨k, r, hk, rfl⟩ := hk
  exact (serial_lets.calls k A c l m h r w hr hc hk).mono fun e w' ⟨v0, h1, h2, h3⟩ => ⟨v0, h1, Kd.R_slice h2, h3⟩
set_option maxHeartbeats 4000000 in
set_option maxRecDepth 100000 in
theorem ext_end (N : Nat) (m : Int) (gn gm gf base : Nat) (hN : N ≤ 24) (A : Option Addr) (c : Nat) (W : World)
    (hn : W.heap[gn]? = some (.cells #[.int .i64 N] 3 (0, 0))) (hR : Kd.R (Kd.int .i64) 3 W base (fun _ => True) (.slice A (pat N).length c) (pat N)) :
    Calls Try.prog 64 #[.slice A (pat N).length c, .pointer (some ⟨gn, 0, none⟩), .pointer (some ⟨gm, 0, none⟩), .pointer (some ⟨gf, 0, none⟩)] W (Ext N base W) := by
  have HR := Aside0.mk hR
  have hcz : W.cell? ⟨gn, 0, none⟩ = some (.int .i64 N) := (blk_cell hn 0).trans rfl
  have hlen : (pat N).length = N := pat_len N
  have hb0 : (((pat N).length : Int) == (N : Int)) = true := by rw [hlen]; simp
  clear hn hR
  have HL := Aside0.mk hlen
  clear hlen
  go_enter Try.func64, Try.ntmps64
  go_wp2
  go_ret
  exact ⟨_, rfl, HR.out, Below.refl _ _⟩
theorem sum_iff {N : Nat} {m : Int} (hg : good N m) (j : Nat) (hj : j < N) (x : Nat) (hx : (x : Int) ≤ patA j) (nx : List Int) (hnx : nx = pat j ++ [(x : Int)]) (n0 n1 : Nat) (h0 : n0 = (passed0 nx m).length) (h1 : n1 = (passed1 nx m).length) (su : Int) (hs : su = n0 + n1) : 0 < su ↔ (x : Int) < patA j := by
  have hp := patA_le j
  constructor
  · intro h
    refine Int.lt_iff_le_and_ne.2 ⟨hx, fun e => ?_⟩
    rw [e, ← pat_succ] at hnx
    have := good_next hg j hj
    rw [hnx, this.1] at h0
    rw [hnx, this.2] at h1
    simp at h0 h1; omega
  · intro h
    have hc : x = 0 ∨ (x = 1 ∧ patA j = 2) := by omega
    have : 0 < (passed0 nx m).length + (passed1 nx m).length := by
      rcases hc with rfl | ⟨rfl, h2⟩
      · rw [hnx]; exact bad_zero hg j hj
      · rw [hnx]; exact bad_one hg j hj h2
    omega
theorem keepS {w6 W w2 : World} {gm : Nat} {m : Int} (hm : w6.heap[gm]? = some (.cells #[.int .i64 m] 3 (0, 0))) (h : Aside0 (Below w6.heap.size w6 W)) (hb : Below W.heap.size W w2) : w2.cell? ⟨gm, 0, none⟩ = some (.int .i64 m) ∧ Aside0 (Below w6.heap.size w6 w2) :=
  have h3 := below_step h.out hb
  ⟨(blk_cell (blk_below hm h3) 0).trans rfl, ⟨h3⟩⟩
set_option maxHeartbeats 8000000 in
set_option maxRecDepth 100000 in
theorem ext_step (N : Nat) (m : Int) (gn gm gf base : Nat) (hg : good N m) (j : Nat) (hj : j < N)
    (ih : ∀ (base : Nat) (A : Option Addr) (c : Nat) (W : World), base ≤ W.heap.size → W.heap[gn]? = some (.cells #[.int .i64 N] 3 (0, 0)) → W.heap[gm]? = some (.cells #[.int .i64 m] 3 (0, 0)) → W.heap[gf]? = some (.cells #[extV gn gm gf] 30 (0, 0)) → Kd.R (Kd.int .i64) 3 W base (fun _ => True) (.slice A (pat (j + 1)).length c) (pat (j + 1)) →
      Calls Try.prog 64 #[.slice A (pat (j + 1)).length c, .pointer (some ⟨gn, 0, none⟩), .pointer (some ⟨gm, 0, none⟩), .pointer (some ⟨gf, 0, none⟩)] W (Ext N base W))
    (A : Option Addr) (c : Nat) (W : World) (hbase : base ≤ W.heap.size)
    (hn : W.heap[gn]? = some (.cells #[.int .i64 N] 3 (0, 0))) (hm : W.heap[gm]? = some (.cells #[.int .i64 m] 3 (0, 0))) (hf : W.heap[gf]? = some (.cells #[extV gn gm gf] 30 (0, 0))) (hR : Kd.R (Kd.int .i64) 3 W base (fun _ => True) (.slice A (pat j).length c) (pat j)) (hA : A = none → pat j = []) :
    Calls Try.prog 64 #[.slice A (pat j).length c, .pointer (some ⟨gn, 0, none⟩), .pointer (some ⟨gm, 0, none⟩), .pointer (some ⟨gf, 0, none⟩)] W (Ext N base W) := by
  have HR := Aside0.mk hR
  have HN := Aside0.mk hn
  have HM := Aside0.mk hm
  have HF := Aside0.mk hf
  have HBA := Aside0.mk hbase
  have HAA := Aside0.mk hA
  have IH := Aside0.mk ih
  have HG := Aside0.mk hg
  have HJ := Aside0.mk hj
  have hlen : (pat j).length = j := pat_len j
  have HL := Aside0.mk hlen
  have HT := Aside0.mk (target_lt hg j hj)
  have HTP := Aside0.mk (patA_le j)
  have hm97 := good_m hg j hj
  have HM97 := Aside0.mk hm97
  have hN24 : N ≤ 24 := hg.1
  have HN24 := Aside0.mk hN24
  have hcz : W.cell? ⟨gn, 0, none⟩ = some (.int .i64 N) := (blk_cell hn 0).trans rfl
  have hcm : W.cell? ⟨gm, 0, none⟩ = some (.int .i64 m) := (blk_cell hm 0).trans rfl
  have hb0 : (((pat j).length : Int) == (N : Int)) = false := by rw [hlen]; simp; omega
  have HB := Aside0.mk (Below.refl W.heap.size W)
  clear hn hm hf hR hbase hA ih hg hj hlen hm97 hN24
  go_enter Try.func64, Try.ntmps64
  go_wp2
  go_loopg [15] (patA j).toNat (fun kq v15 w' => ∃ x : Nat, v15 = .int .i64 x ∧ Aside0 (kq + x = (patA j).toNat) ∧ Aside0 (Below W.heap.size W w'))
  case atStart => exact ⟨0, rfl, ⟨by omega⟩, HB⟩
  case round =>
    clear HB
    obtain ⟨x, rfl, HK, HB⟩ := hrel
    obtain ⟨k1, rfl⟩ : ∃ k1, k1 = gk := ⟨_, rfl⟩
    have hx1 : (x : Int) ≤ patA j := by have := HK.out; have := HTP.out; omega
    have hxm : decide ((x : Int) < m) = true := decide_eq_true (by have := HT.out; omega)
    have HX1 := Aside0.mk hx1
    clear hx1
    go_upto_region 7 with (first | (go_at_call 65; refine (slices_Clone_int_int.calls A c (pat j) _ (Kd.C_below (Kd.R_reads' HR.out).2.2 HB.out) HAA.out (by rw [HL.out]; have := HJ.out; have := HN24.out; omega)).mono ?_; rintro e w5 ⟨v1, rfl, ho, hb⟩; have HO := Aside0.mk (Kd.R_lower ho (below_size HB.out)); have HBs := Aside0.mk (below_step HB.out hb); clear HB; have HB := HBs; clear HBs ho hb) | (at_builtin; go_loud (refine Kd.R_append (Kd.int .i64) (w0 := W) W.heap.size rfl (.tmp 19) (.tmp 21) 23 3 (.int .i64 0) 8 rfl Try.underlying23 info3 rfl (by decide) (by omega) v1 (pat j) x [.int .i64 x] (fun _ => True) (fun _ => False) rfl rfl ?aP (fun _ hk => hk.elim) ?aF ?aO ?aB ?aS ?aL ?_); go_loud (case aP => exact rfl); go_loud (case aB => first | exact HB.out | exact below_alloc HB.out _); go_loud (case aF => exact fun _ _ => trivial); go_loud (case aO => first | exact HO.out | exact Kd.R_alloc HO.out _); go_loud (case aS => first | exact below_size HB.out | exact below_size (below_alloc HB.out _)); go_loud (case aL => rw [HL.out]; have := HJ.out; have := HN24.out; omega); intro v2 w6 ho hb hg hat; have HO2 := Aside0.mk ho; have HBs := Aside0.mk hb; clear HB; have HB := HBs; clear HBs ho hb hg hat HO))
    obtain ⟨nx, hnx⟩ : ∃ nx, nx = pat j ++ [(x : Int)] := ⟨_, rfl⟩
    rw [← hnx] at HO2
    obtain ⟨A2, c2, rfl⟩ := Kd.R_slice HO2.out
    have L2 := lets_two HG.out j HJ.out x (by omega) HX1.out
    rw [← hnx] at L2
    obtain ⟨n0, hn0⟩ : ∃ n0, n0 = (passed0 nx m).length := ⟨_, rfl⟩
    obtain ⟨n1, hn1⟩ : ∃ n1, n1 = (passed1 nx m).length := ⟨_, rfl⟩
    have L0 : Aside0 (LetsN nx m 0 n0) := ⟨by obtain ⟨k, hk⟩ := L2.1; exact ⟨k, _, hk, hn0.symm⟩⟩
    have L1 : Aside0 (LetsN nx m 1 n1) := ⟨by obtain ⟨k, hk⟩ := L2.2; exact ⟨k, _, hk, hn1.symm⟩⟩
    clear L2
    have hl0 : n0 ≤ 24 := by rw [hn0]; refine Nat.le_trans (letN_len _ _ _ _) ?_; rw [hnx, List.length_append, HL.out]; have := HJ.out; have := HN24.out; simp; omega
    have hl1 : n1 ≤ 24 := by rw [hn1]; refine Nat.le_trans (letN_len _ _ _ _) ?_; rw [hnx, List.length_append, HL.out]; have := HJ.out; have := HN24.out; simp; omega
    have N0 := Aside0.mk hn0
    have N1 := Aside0.mk hn1
    clear hn0 hn1
    obtain ⟨su, hsu⟩ : ∃ su : Int, IntKind.i64.wrap ((n0 : Int) + (n1 : Int)) = su := ⟨_, rfl⟩
    have SU : Aside0 (su = n0 + n1) := ⟨by rw [← hsu, IntKind.wrap_i64]; omega⟩
    clear hl0 hl1
    obtain ⟨bb, hbb⟩ : ∃ bb, decide (0 < su) = bb := ⟨_, rfl⟩
    have NX := Aside0.mk hnx
    clear hnx
    have BM6 := Aside0.mk (blk_below HM.out HB.out)
    have hcm6 : w6.cell? ⟨gm, 0, none⟩ = some (.int .i64 m) := (blk_cell BM6.out 0).trans rfl
    have HC6 := Aside0.mk (Kd.R_reads' HO2.out)
    have hB6 := Aside0.mk (Below.refl w6.heap.size w6)
    go_region_held3 (fun w' => w'.cell? ⟨gm, 0, none⟩ = some (.int .i64 m) ∧ Aside0 (Below w6.heap.size w6 w')) ((first | exact ⟨hcm6, ⟨below_drew hB6.out⟩⟩ | exact keepS BM6.out (show (_ : World).cell? ⟨gm, 0, none⟩ = some (.int .i64 m) ∧ Aside0 (Below w6.heap.size w6 _) from by with_reducible assumption).2 hb))
      (first | (go_at_call 61; (with_reducible refine (lets_r nx m 0 n0 L0.out A2 c2 _ ?side1 ?side2).mono ?_); (case side1 => exact Kd.C_below HC6.out.2.2 (show (_ : World).cell? ⟨gm, 0, none⟩ = some (.int .i64 m) ∧ Aside0 (Below w6.heap.size w6 _) from by with_reducible assumption).2.out); (case side2 => exact HC6.out.2.1); rintro e w9 ⟨v0, rfl, ⟨A3, c3, rfl⟩, hb⟩) | (go_at_call 61; (with_reducible refine (lets_r nx m 1 n1 L1.out A2 c2 _ ?side1 ?side2).mono ?_); (case side1 => exact Kd.C_below HC6.out.2.2 (show (_ : World).cell? ⟨gm, 0, none⟩ = some (.int .i64 m) ∧ Aside0 (Below w6.heap.size w6 _) from by with_reducible assumption).2.out); (case side2 => exact HC6.out.2.1); rintro e w9 ⟨v0, rfl, ⟨A3, c3, rfl⟩, hb⟩))
    have HS9 : Aside0 (Below w6.heap.size w6 w9) := (show w9.cell? ⟨gm, 0, none⟩ = some (.int .i64 m) ∧ Aside0 (Below w6.heap.size w6 w9) from by assumption).2
    have HB9 := Aside0.mk (below_step HB.out HS9.out)
    have hiff := sum_iff HG.out j HJ.out x HX1.out nx NX.out n0 n1 N0.out N1.out su SU.out
    cases bb with
    | true =>
      have hlt : (x : Int) < patA j := hiff.1 (of_decide_eq_true hbb)
      have HLT := Aside0.mk hlt
      clear hiff hlt hsu hbb hb
      go_wp2
      go_roundg (k1 - 1)
      case measure => have := HK.out; have := HLT.out; omega
      case rel => have h2 := HTP.out; have h3 := HLT.out; exact ⟨x + 1, (by first | (rw [w64 (by omega) (by omega)]; rfl) | (rw [IntKind.wrap_i64, w64 (by omega) (by omega)]; rfl) | go_num), ⟨by have := HK.out; have := HLT.out; omega⟩, HB9⟩
    | false =>
      have hlt : ¬ (x : Int) < patA j := fun h => of_decide_eq_false hbb (hiff.2 h)
      have hxe : (x : Int) = patA j := by have := HX1.out; omega
      have hnx : nx = pat (j + 1) := by rw [NX.out, hxe, pat_succ]
      subst hnx
      clear hiff hlt hsu hbb hb hxe NX
      have hcf : w9.cell? ⟨gf, 0, none⟩ = some (.func (.func 64) #[] #[.pointer (some ⟨gn, 0, none⟩), .pointer (some ⟨gm, 0, none⟩), .pointer (some ⟨gf, 0, none⟩)]) := (blk_cell (blk_below HF.out HB9.out) 0).trans rfl
      have HO9 := Aside0.mk (Kd.R_below HO2.out HS9.out)
      clear HO2
      have q23 : ∀ (w : World) (a : Option Addr) (n c n' c' : Nat), (binOp .neq 23 (.slice a n c) (.slice none n' c')).run Try.prog w = .ok (.bool (!a.isNone)) w := fun w a n c n' c' => run_neq_slice_nil_any w _ _ a n c n' c' Try.underlying23
      go_wp2_with (go_at_call 64; (with_reducible refine (IH.out W.heap.size A2 c2 _ ?s1 ?s2 ?s3 ?s4 ?s5).mono ?_); (case s1 => exact below_size HB9.out); (case s2 => exact blk_below HN.out HB9.out); (case s3 => exact blk_below HM.out HB9.out); (case s4 => exact blk_below HF.out HB9.out); (case s5 => exact HO9.out); rintro e w10 ⟨v3, rfl, ho, hb⟩; have HO10 := Aside0.mk ho; have HB10 := Aside0.mk (below_step HB9.out hb); clear hb; obtain ⟨g3, c3, rfl, _, _, _⟩ := Kd.R_form ho (by rw [pat_len]; have := HJ.out; omega); clear ho)
      go_ret
      exact ⟨_, rfl, Kd.R_lower HO10.out HBA.out, HB10.out⟩
theorem ext_calls (N : Nat) (m : Int) (gn gm gf : Nat) (hg : good N m) (d : Nat) : ∀ (j : Nat), j + d = N → ∀ (base : Nat) (A : Option Addr) (c : Nat) (W : World), base ≤ W.heap.size → W.heap[gn]? = some (.cells #[.int .i64 N] 3 (0, 0)) → W.heap[gm]? = some (.cells #[.int .i64 m] 3 (0, 0)) → W.heap[gf]? = some (.cells #[extV gn gm gf] 30 (0, 0)) → Kd.R (Kd.int .i64) 3 W base (fun _ => True) (.slice A (pat j).length c) (pat j) →
    Calls Try.prog 64 #[.slice A (pat j).length c, .pointer (some ⟨gn, 0, none⟩), .pointer (some ⟨gm, 0, none⟩), .pointer (some ⟨gf, 0, none⟩)] W (Ext N base W) := by
  induction d with
  | zero =>
    intro j hj base A c W hbase hn hm hf hR
    obtain rfl : j = N := by omega
    exact ext_end j m gn gm gf base hg.1 A c W hn hR
  | succ d ih =>
    intro j hj base A c W hbase hn hm hf hR
    refine ext_step N m gn gm gf base hg j (by omega) (ih (j + 1) (by omega)) A c W hbase hn hm hf hR (fun hA => ?_)
    rcases Nat.eq_zero_or_pos j with h | h
    · subst h; rfl
    · obtain ⟨g, cap, he, _⟩ := Kd.R_form hR (by rw [pat_len]; exact h)
      rw [hA] at he; injection he with h1 _ _; cases h1

theorem size_alloc' (w : World) (o : Obj) : (w.alloc o).heap.size = w.heap.size + 1 := by first | (simp; done) | exact Array.size_push _ | rfl
theorem blk_3 (w : World) (o1 o2 o3 : Obj) : (((w.alloc o1).alloc o2).alloc o3).heap[w.heap.size]? = some o1 ∧ (((w.alloc o1).alloc o2).alloc o3).heap[w.heap.size + 1]? = some o2 ∧ (((w.alloc o1).alloc o2).alloc o3).heap[w.heap.size + 1 + 1]? = some o3 := by
  refine ⟨blk_alloc (blk_alloc (blk_new w o1) o2) o3, ?_, ?_⟩
  · have := blk_alloc (blk_new (w.alloc o1) o2) o3
    rwa [size_alloc'] at this
  · have := blk_new ((w.alloc o1).alloc o2) o3
    rwa [size_alloc', size_alloc'] at this
def serial_Weights.f (n m : Int) : Option (List Int × Int) := some (if ¬ ((1 ≤ n ∧ n ≤ 24) ∧ (2 ≤ m ∧ m ≤ 97)) then ([], 2) else if m % 2 = 0 ∧ n > 1 then ([], 6) else (pat n.toNat, 0))
def WPost (w : World) (l : List Int) (er : Int) (e : Ending) (w' : World) : Prop := ∃ v0_ : Value, e = .returned (.tuple #[v0_, .int .i64 er]) ∧ Kd.R (Kd.int .i64) 3 w' w.heap.size (fun _ => True) v0_ l ∧ Below w.heap.size w w'
set_option maxHeartbeats 4000000 in
set_option maxRecDepth 100000 in
theorem weights_arg (n m : Int) (w : World) (h : ¬ ((1 ≤ n ∧ n ≤ 24) ∧ (2 ≤ m ∧ m ≤ 97))) : Calls Try.prog 48 #[.int .i64 n, .int .i64 m] w (WPost w [] 2) := by
  have HB := Aside0.mk (Below.refl w.heap.size w)
  by_cases h1 : 1 ≤ n ∧ n ≤ 24
  · have g1 : (decide (1 ≤ n) && decide (n ≤ 24)) = true := by simp [h1]
    have g2 : (decide (2 ≤ m) && decide (m ≤ 97)) = false := by
      have : ¬ (2 ≤ m ∧ m ≤ 97) := fun h2 => h ⟨h1, h2⟩
      simp only [Bool.and_eq_false_iff, decide_eq_false_iff_not]; omega
    have G1 := Aside0.mk g1
    have G2 := Aside0.mk g2
    clear h h1 g1 g2
    go_enter Try.func48, Try.ntmps48
    go_wp2_with (first | (go_at_call 56; (with_reducible refine (within_n n 1 24 _).mono ?_); rintro e w' ⟨rfl, rfl⟩; rw [G1.out]) | (go_at_call 56; (with_reducible refine (within_n m 2 97 _).mono ?_); rintro e w' ⟨rfl, rfl⟩; rw [G2.out]))
    go_ret2
    exact ⟨_, rfl, Kd.R_nil _ _ _ _ _, below_alloc (below_alloc HB.out _) _⟩
  · have g1 : (decide (1 ≤ n) && decide (n ≤ 24)) = false := by
      simp only [Bool.and_eq_false_iff, decide_eq_false_iff_not]; omega
    have G1 := Aside0.mk g1
    clear h h1 g1
    go_enter Try.func48, Try.ntmps48
    go_wp2_with (first | (go_at_call 56; (with_reducible refine (within_n n 1 24 _).mono ?_); rintro e w' ⟨rfl, rfl⟩; rw [G1.out]))
    go_ret2
    exact ⟨_, rfl, Kd.R_nil _ _ _ _ _, below_alloc (below_alloc HB.out _) _⟩
set_option maxHeartbeats 4000000 in
set_option maxRecDepth 100000 in
theorem weights_none (n m : Int) (w : World) (h : (1 ≤ n ∧ n ≤ 24) ∧ (2 ≤ m ∧ m ≤ 97)) (h2 : m % 2 = 0 ∧ n > 1) : Calls Try.prog 48 #[.int .i64 n, .int .i64 m] w (WPost w [] 6) := by
  have HB := Aside0.mk (Below.refl w.heap.size w)
  have g1 : (decide (1 ≤ n) && decide (n ≤ 24)) = true := by simp [h.1]
  have g2 : (decide (2 ≤ m) && decide (m ≤ 97)) = true := by simp [h.2]
  have G1 := Aside0.mk g1
  have G2 := Aside0.mk g2
  have ht : Int.tmod m 2 = 0 := by rw [Int.tmod_eq_emod_of_nonneg (by omega)]; exact h2.1
  have hn1 : decide (1 < n) = true := decide_eq_true h2.2
  clear h h2 g1 g2
  go_enter Try.func48, Try.ntmps48
  go_wp2_with (first | (go_at_call 56; (with_reducible refine (within_n n 1 24 _).mono ?_); rintro e w' ⟨rfl, rfl⟩; rw [G1.out]) | (go_at_call 56; (with_reducible refine (within_n m 2 97 _).mono ?_); rintro e w' ⟨rfl, rfl⟩; rw [G2.out]))
  go_ret2
  exact ⟨_, rfl, Kd.R_nil _ _ _ _ _, below_alloc (below_alloc (below_alloc HB.out _) _) _⟩
theorem ext_top (N : Nat) (m : Int) (gn gm gf base : Nat) (hg : good N m) (W : World) (hbase : base ≤ W.heap.size) (hn : W.heap[gn]? = some (.cells #[.int .i64 N] 3 (0, 0))) (hm : W.heap[gm]? = some (.cells #[.int .i64 m] 3 (0, 0))) (hf : W.heap[gf]? = some (.cells #[extV gn gm gf] 30 (0, 0))) :
    Calls Try.prog 64 #[.slice none 0 0, .pointer (some ⟨gn, 0, none⟩), .pointer (some ⟨gm, 0, none⟩), .pointer (some ⟨gf, 0, none⟩)] W (Ext N base W) :=
  ext_calls N m gn gm gf hg N 0 (Nat.zero_add _) base none 0 W hbase hn hm hf (Kd.R_nil _ _ _ _ _)
set_option maxHeartbeats 4000000 in
set_option maxRecDepth 100000 in
theorem weights_good (n m : Int) (w : World) (h : (1 ≤ n ∧ n ≤ 24) ∧ (2 ≤ m ∧ m ≤ 97)) (h2 : ¬ (m % 2 = 0 ∧ n > 1)) : Calls Try.prog 48 #[.int .i64 n, .int .i64 m] w (WPost w (pat n.toNat) 0) := by
  have HB := Aside0.mk (Below.refl w.heap.size w)
  have g1 : (decide (1 ≤ n) && decide (n ≤ 24)) = true := by simp [h.1]
  have g2 : (decide (2 ≤ m) && decide (m ≤ 97)) = true := by simp [h.2]
  have G1 := Aside0.mk g1
  have G2 := Aside0.mk g2
  have hgood : good n.toNat m := by unfold good; omega
  have HG := Aside0.mk hgood
  obtain ⟨N, hN⟩ : ∃ N : Nat, n = N := ⟨n.toNat, by omega⟩
  subst hN
  simp only [Int.toNat_natCast] at HG ⊢
  clear hgood g1 g2
  have B3 := blk_3 w (.cells #[.int .i64 N] 3 (0, 0)) (.cells #[.int .i64 m] 3 (0, 0)) (.cells #[extV w.heap.size (w.heap.size + 1) (w.heap.size + 1 + 1)] 30 (0, 0))
  have HB3 := Aside0.mk (below_alloc (below_alloc (below_alloc HB.out (.cells #[.int .i64 N] 3 (0, 0))) (.cells #[.int .i64 m] 3 (0, 0))) (.cells #[extV w.heap.size (w.heap.size + 1) (w.heap.size + 1 + 1)] 30 (0, 0)))
  have B3 := Aside0.mk B3
  by_cases h3 : m % 2 = 0
  · have ht : Int.tmod m 2 = 0 := by rw [Int.tmod_eq_emod_of_nonneg (by omega)]; exact h3
    have hn1 : decide ((1 : Int) < (N : Int)) = false := decide_eq_false (by omega)
    clear h h2 h3
    go_enter Try.func48, Try.ntmps48
    go_wp2_with (first | (go_at_call 56; (with_reducible refine (within_n N 1 24 _).mono ?_); rintro e w' ⟨rfl, rfl⟩; rw [G1.out]) | (go_at_call 56; (with_reducible refine (within_n m 2 97 _).mono ?_); rintro e w' ⟨rfl, rfl⟩; rw [G2.out]) | (go_at_call 64; (with_reducible refine (ext_top N m w.heap.size (w.heap.size + 1) (w.heap.size + 1 + 1) w.heap.size HG.out _ ?s1 ?s2 ?s3 ?s4).mono ?_); go_loud (case s1 => exact below_size HB3.out); go_loud (case s2 => exact B3.out.1); go_loud (case s3 => exact B3.out.2.1); go_loud (case s4 => exact B3.out.2.2); rintro e w10 ⟨v3, rfl, ho, hb⟩; have HO10 := Aside0.mk ho; have HB10 := Aside0.mk (below_step HB3.out hb); clear ho hb))
    go_ret2
    exact ⟨_, rfl, HO10.out, HB10.out⟩
  · obtain ⟨r2, hr2⟩ : ∃ r2, Int.tmod m 2 = r2 := ⟨_, rfl⟩
    have hr0 : (r2 == 0) = false := by rw [← hr2, Int.tmod_eq_emod_of_nonneg (by omega)]; simpa using h3
    clear h h2 h3
    go_enter Try.func48, Try.ntmps48
    go_wp2_with (first | (go_at_call 56; (with_reducible refine (within_n N 1 24 _).mono ?_); rintro e w' ⟨rfl, rfl⟩; rw [G1.out]) | (go_at_call 56; (with_reducible refine (within_n m 2 97 _).mono ?_); rintro e w' ⟨rfl, rfl⟩; rw [G2.out]) | (go_at_call 64; (with_reducible refine (ext_top N m w.heap.size (w.heap.size + 1) (w.heap.size + 1 + 1) w.heap.size HG.out _ ?s1 ?s2 ?s3 ?s4).mono ?_); go_loud (case s1 => exact below_size HB3.out); go_loud (case s2 => exact B3.out.1); go_loud (case s3 => exact B3.out.2.1); go_loud (case s4 => exact B3.out.2.2); rintro e w10 ⟨v3, rfl, ho, hb⟩; have HO10 := Aside0.mk ho; have HB10 := Aside0.mk (below_step HB3.out hb); clear ho hb))
    go_ret2
    exact ⟨_, rfl, HO10.out, HB10.out⟩
theorem serial_Weights.calls (a0 : Int) (a1 : Int) (r1 : List Int) (r2 : Int) (w : World) (h : serial_Weights.f a0 a1 = some (r1, r2)) :
    Calls Try.prog 48 #[.int .i64 a0, .int .i64 a1] w fun e w' => ∃ v0_ : Value, e = .returned (.tuple #[v0_, .int .i64 r2]) ∧ Kd.R (Kd.int .i64) 3 w' w.heap.size (fun _ => True) v0_ r1 ∧ Below w.heap.size w w' := by
  unfold serial_Weights.f at h
  have h := Option.some.inj h
  by_cases c : ¬ ((1 ≤ a0 ∧ a0 ≤ 24) ∧ (2 ≤ a1 ∧ a1 ≤ 97))
  · rw [if_pos c] at h
    obtain ⟨rfl, rfl⟩ := Prod.mk.inj h
    exact weights_arg a0 a1 w c
  · rw [if_neg c] at h
    have c' := Classical.not_not.1 c
    by_cases d : a1 % 2 = 0 ∧ a0 > 1
    · rw [if_pos d] at h
      obtain ⟨rfl, rfl⟩ := Prod.mk.inj h
      exact weights_none a0 a1 w c' d
    · rw [if_neg d] at h
      obtain ⟨rfl, rfl⟩ := Prod.mk.inj h
      exact weights_good a0 a1 w c' d
end Go.Proofs.Ytdkncfmlehcjmaa.X
end

section
namespace Go.Proofs.Ytdkncfmlehcjmaa.X
open Go.RowKit Go.Proofs.YtdkncfmlehcjmaaW.PrintWords Go.Proofs.YtdkncfmlehcjmaaW.PrintLast Go.Proofs.YtdkncfmlehcjmaaW.PrintMore
attribute [local go_sem] max2_int min2_int max_two min_two max_three min_three max_four min_four   -- for this text's walks alone
set_option linter.unusedVariables false
set_option linter.unusedSimpArgs false

def tickinglaw11_mod.f (a0 : Int) (a1 : Int) : Option (Int) := if (IntKind.u64.wrap (a1)) = 0 then (none) else (some (wrap64 (Int.tmod (IntKind.u64.wrap (a0)) (IntKind.u64.wrap (a1)))))
set_option maxHeartbeats 8000000 in
set_option maxRecDepth 100000 in
theorem tickinglaw11_mod.calls (a0 : Int) (a1 : Int) (r : Int) (w : World) (h : tickinglaw11_mod.f a0 a1 = some r) :
  Calls Try.prog 19 #[.int .i64 a0, .int .i64 a1] w fun e w' => e = .returned (.int .i64 r) ∧ Drawn0 w w' := by
 have H : (if (IntKind.u64.wrap (a1)) = 0 then (none) else (some (wrap64 (Int.tmod (IntKind.u64.wrap (a0)) (IntKind.u64.wrap (a1)))))) = some r := h
 clear h
 by_cases c3 : (IntKind.u64.wrap (a1)) = 0
 ·rw [if_pos c3] at H
  exact absurd H (by simp)
 ·rw [if_neg c3] at H
  have c3b0 : ((IntKind.u64.wrap (a1)) == 0) = false := beq_eq_false_iff_ne.mpr c3
  have c3b1 : ((IntKind.u64.wrap (a1)) != 0) = true := bne_iff_ne.mpr c3
  obtain rfl := Option.some.inj H
  go_enter Try.func19, Try.ntmps19
  go_wp2
  go_ret
  exact ⟨by first | rfl | (simp; done) | (simp [*]; done), by repeat (first | exact Drawn0.refl _ | apply Drawn0.step)⟩

end Go.Proofs.Ytdkncfmlehcjmaa.X
end
