/- The changes of weights, and what a modulus lets pass. -/
import Derived.Test.YtdkncfmlehcjmaaTS4
import Derived.Test.YtdkncfmlehcjmaaTX20
set_option linter.unusedVariables false
set_option linter.unusedSimpArgs false
set_option linter.unusedSectionVars false
namespace Go.Proofs.Ytdkncfmlehcjmaa.X
open Go.RowKit Go.Proofs.YtdkncfmlehcjmaaW.PrintWords
/-- How many weights behind its place a change reaches. -/
def offH (h : Int) : Nat := if h = 0 then 0 else if h = 3 then 2 else 1
/-- The weight of a change at a place. -/
def chg (w : List Int) (h : Int) (i : Nat) : Int := if h = 0 then rd w i else if h = 1 then rd w i - rd w ((i : Int) + 1) else if h = 2 then rd w i + rd w ((i : Int) + 1) else rd w i - rd w ((i : Int) + 2)
def chgs (w : List Int) (h : Int) (i : Nat) : List Int := (List.range i).map (chg w h)
section
variable {w : List Int} {m : Int} (h2 : m ≤ 97) (hw : digs w m = true) (hn : w.length ≤ 24) (h : Int) (hh : 0 ≤ h ∧ h ≤ 3)
include h2 hw hn hh
theorem chg_bd (i : Nat) (hi : i + offH h < w.length) : -97 ≤ chg w h i ∧ chg w h i ≤ 194 := by
  have a0 := digs_rd hw i (by omega)
  unfold chg
  unfold offH at hi
  by_cases e0 : h = 0
  · rw [if_pos e0]; omega
  · rw [if_neg e0] at hi ⊢
    by_cases e1 : h = 1
    · rw [if_neg (by omega)] at hi
      have a1 : 0 ≤ rd w ((i : Int) + 1) ∧ rd w ((i : Int) + 1) < m := digs_rd hw (i + 1) (by omega)
      rw [if_pos e1]; omega
    · rw [if_neg e1]
      by_cases e2 : h = 2
      · rw [if_neg (by omega)] at hi
        have a1 : 0 ≤ rd w ((i : Int) + 1) ∧ rd w ((i : Int) + 1) < m := digs_rd hw (i + 1) (by omega)
        rw [if_pos e2]; omega
      · rw [if_pos (by omega)] at hi
        have a1 : 0 ≤ rd w ((i : Int) + 2) ∧ rd w ((i : Int) + 2) < m := digs_rd hw (i + 2) (by omega)
        rw [if_neg e2]; omega
theorem ev_changes_l (d : Nat) : ∀ i : Nat, i + d = w.length → Ev (fun k => serial_changes.l0 k w h (chgs w h (min i (w.length - offH h))) w.length i) (chgs w h (w.length - offH h)) := by
  induction d with
  | zero =>
    intro i hi
    rw [show min i (w.length - offH h) = w.length - offH h by omega]
    refine Ev.step (f := fun _ => some (chgs w h (w.length - offH h))) (fun k => ?_) (Ev.now _)
    simp only [serial_changes.l0]; rw [if_neg (by omega)]
  | succ d ih =>
    intro i hi
    have hI := ih (i + 1) (by omega)
    have a0 := digs_rd hw i (by omega)
    have hlen : (chgs w h (min i (w.length - offH h))).length < 17592186044416 := by simp [chgs]; omega
    have wi : wrap64 ((i : Int) + 1) = (i : Int) + 1 := w64 (by omega) (by omega)
    have wi2 : wrap64 ((i : Int) + 2) = (i : Int) + 2 := w64 (by omega) (by omega)
    by_cases hin : i + offH h < w.length
    · rw [show min (i + 1) (w.length - offH h) = i + 1 by omega] at hI
      rw [show min i (w.length - offH h) = i by omega] at hlen ⊢
      have hs : chgs w h (i + 1) = chgs w h i ++ [chg w h i] := by simp [chgs, List.range_succ]
      rw [hs] at hI
      have hb := chg_bd h2 hw hn h hh i hin
      unfold offH at hin
      by_cases e0 : h = 0
      · have hc : chg w h i = rd w i := by unfold chg; rw [if_pos e0]
        rw [hc] at hI
        refine Ev.step (fun k => ?_) hI
        simp only [serial_changes.l0]
        rw [if_pos (by omega), if_pos e0, if_pos (by omega), if_pos (by omega), if_pos hlen, wi]; rfl
      · rw [if_neg e0] at hin
        by_cases e1 : h = 1
        · rw [if_neg (by omega)] at hin
          have hc : chg w h i = rd w i - rd w ((i : Int) + 1) := by unfold chg; rw [if_neg e0, if_pos e1]
          rw [hc] at hI hb
          refine Ev.step (f := fun k => serial_changes.j1 k w h (chgs w h i) i w.length i true) (fun k => ?_) (Ev.step (fun k => ?_) hI)
          · simp only [serial_changes.l0]
            rw [if_pos (by omega), if_neg e0, if_pos e1, wi, decide_eq_true (by omega)]
          · simp only [serial_changes.j1, if_true]
            rw [wi, if_pos (by omega), if_pos (by omega), if_pos (by omega), if_pos (by omega), if_pos hlen, w64 (by omega) (by omega)]; rfl
        · by_cases e2 : h = 2
          · rw [if_neg (by omega)] at hin
            have hc : chg w h i = rd w i + rd w ((i : Int) + 1) := by unfold chg; rw [if_neg e0, if_neg e1, if_pos e2]
            rw [hc] at hI hb
            refine Ev.step (f := fun k => serial_changes.j1 k w h (chgs w h i) i w.length i false) (fun k => ?_) (Ev.step (f := fun k => serial_changes.j2 k w h (chgs w h i) i w.length i true) (fun k => ?_) (Ev.step (fun k => ?_) hI))
            · simp only [serial_changes.l0]
              rw [if_pos (by omega), if_neg e0, if_neg e1]
            · simp only [serial_changes.j1, Bool.false_eq_true, if_false]
              rw [if_pos e2, wi, decide_eq_true (by omega)]
            · simp only [serial_changes.j2, if_true]
              rw [wi, if_pos (by omega), if_pos (by omega), if_pos (by omega), if_pos (by omega), if_pos hlen, w64 (by omega) (by omega)]; rfl
          · rw [if_pos (by omega)] at hin
            have hc : chg w h i = rd w i - rd w ((i : Int) + 2) := by unfold chg; rw [if_neg e0, if_neg e1, if_neg e2]
            rw [hc] at hI hb
            refine Ev.step (f := fun k => serial_changes.j1 k w h (chgs w h i) i w.length i false) (fun k => ?_) (Ev.step (f := fun k => serial_changes.j2 k w h (chgs w h i) i w.length i false) (fun k => ?_) (Ev.step (fun k => ?_) hI))
            · simp only [serial_changes.l0]
              rw [if_pos (by omega), if_neg e0, if_neg e1]
            · simp only [serial_changes.j1, Bool.false_eq_true, if_false]
              rw [if_neg e2]
            · simp only [serial_changes.j2, Bool.false_eq_true, if_false]
              rw [wi2, wi, if_pos (by omega), if_pos (by omega), if_pos (by omega), if_pos (by omega), if_pos (by omega), if_pos hlen, w64 (by omega) (by omega)]; rfl
    · rw [show min (i + 1) (w.length - offH h) = w.length - offH h by omega] at hI
      rw [show min i (w.length - offH h) = w.length - offH h by omega] at hlen ⊢
      have e0 : ¬ h = 0 := fun e => by unfold offH at hin; rw [if_pos e] at hin; omega
      unfold offH at hin
      rw [if_neg e0] at hin
      by_cases e1 : h = 1
      · rw [if_neg (by omega)] at hin
        refine Ev.step (f := fun k => serial_changes.j1 k w h (chgs w h (w.length - offH h)) i w.length i false) (fun k => ?_) (Ev.step (f := fun k => serial_changes.j2 k w h (chgs w h (w.length - offH h)) i w.length i false) (fun k => ?_) (Ev.step (fun k => ?_) hI))
        · simp only [serial_changes.l0]
          rw [if_pos (by omega), if_neg e0, if_pos e1, wi, decide_eq_false (by omega)]
        · simp only [serial_changes.j1, Bool.false_eq_true, if_false]
          rw [if_neg (by omega)]
        · simp only [serial_changes.j2, Bool.false_eq_true, if_false]
          rw [if_neg (by omega), wi]; rfl
      · by_cases e2 : h = 2
        · rw [if_neg (by omega)] at hin
          refine Ev.step (f := fun k => serial_changes.j1 k w h (chgs w h (w.length - offH h)) i w.length i false) (fun k => ?_) (Ev.step (f := fun k => serial_changes.j2 k w h (chgs w h (w.length - offH h)) i w.length i false) (fun k => ?_) (Ev.step (fun k => ?_) hI))
          · simp only [serial_changes.l0]
            rw [if_pos (by omega), if_neg e0, if_neg e1]
          · simp only [serial_changes.j1, Bool.false_eq_true, if_false]
            rw [if_pos e2, wi, decide_eq_false (by omega)]
          · simp only [serial_changes.j2, Bool.false_eq_true, if_false]
            rw [if_neg (by omega), wi]; rfl
        · rw [if_pos (by omega)] at hin
          refine Ev.step (f := fun k => serial_changes.j1 k w h (chgs w h (w.length - offH h)) i w.length i false) (fun k => ?_) (Ev.step (f := fun k => serial_changes.j2 k w h (chgs w h (w.length - offH h)) i w.length i false) (fun k => ?_) (Ev.step (fun k => ?_) hI))
          · simp only [serial_changes.l0]
            rw [if_pos (by omega), if_neg e0, if_neg e1]
          · simp only [serial_changes.j1, Bool.false_eq_true, if_false]
            rw [if_neg e2]
          · simp only [serial_changes.j2, Bool.false_eq_true, if_false]
            rw [if_pos (by omega), wi2, if_neg (by omega), wi]; rfl
theorem ev_changes : Ev (fun k => serial_changes.f k w h) (chgs w h (w.length - offH h)) := by
  have := ev_changes_l h2 hw hn h hh w.length 0 (by omega)
  simp only [Nat.zero_le, Nat.min_eq_left] at this
  exact this
/-- The places below i whose change has a divisor in common with m. -/
def letB (w : List Int) (m h : Int) (i : Nat) : Bool := decide (1 < (Int.gcd (chg w h i) m : Int))
def letN (w : List Int) (m h : Int) (i : Nat) : List Int := ((List.range i).filter (letB w m h)).map fun (i : Nat) => (i : Int)
omit h2 hw hn hh in
theorem letN_zero (w : List Int) (m h : Int) : letN w m h 0 = [] := rfl
omit h2 hw hn hh in
theorem letN_succ (w : List Int) (m h : Int) (i : Nat) : letN w m h (i + 1) = letN w m h i ++ (if letB w m h i then [(i : Int)] else []) := by
  unfold letN
  rw [List.range_succ, List.filter_append, List.map_append]
  congr 1
  cases hb : letB w m h i <;> simp [List.filter, hb]
omit h2 hw hn hh in
theorem letN_len (w : List Int) (m h : Int) (i : Nat) : (letN w m h i).length ≤ i := by
  unfold letN; rw [List.length_map]; exact Nat.le_trans (List.length_filter_le _ _) (by simp)
omit h2 hw hn hh in
theorem letN_lt (w : List Int) (m h : Int) (i : Nat) (hi : i ≤ 24) : (letN w m h i).length < 17592186044416 := by
  have := letN_len w m h i
  omega
omit h2 hw hn hh in
theorem wrap_succ (i : Nat) (hi : i ≤ 1000) : wrap64 ((i : Int) + 1) = ((i + 1 : Nat) : Int) := w64 (by omega) (by omega)
omit h2 hw hn hh in
theorem letN_pre (w : List Int) (m h : Int) (i d : Nat) : ∃ r, letN w m h (i + d) = letN w m h i ++ r := by
  induction d with
  | zero => exact ⟨[], by simp⟩
  | succ d ih => obtain ⟨r, hr⟩ := ih; exact ⟨r ++ _, by rw [← Nat.add_assoc, letN_succ, hr, List.append_assoc]⟩
theorem ev_lets_l (h1 : 2 ≤ m) (N : Nat) (hN : N + offH h ≤ w.length) (d : Nat) : ∀ i : Nat, i + d = N → Ev (fun k => serial_lets.l0 k m (letN w m h i) (chgs w h N) N i) (letN w m h N) := by
  induction d with
  | zero =>
    intro i hi
    obtain rfl : i = N := by omega
    refine Ev.step (f := fun _ => some (letN w m h i)) (fun k => ?_) (Ev.now _)
    simp only [serial_lets.l0]; rw [if_neg (by omega)]
  | succ d ih =>
    intro i hi
    have hlt := letN_lt w m h i (by omega)
    have wi := wrap_succ i (by omega)
    have hI := ih (i + 1) (by omega)
    have hb := chg_bd h2 hw hn h hh i (by omega)
    have hl : (chgs w h N).length = N := by simp [chgs]
    have hr : rd (chgs w h N) (i : Int) = chg w h i := by rw [rd_nat _ i (by omega)]; simp [chgs]
    have hg := ev_gcd (chg w h i) m (by omega) (by omega) (by omega) (by omega)
    rw [letN_succ] at hI
    refine Ev.step (f := fun k => (serial_gcd.f k (chg w h i) m).bind fun t262 => (if t262 > 1 then (if (letN w m h i).length < 17592186044416 then (serial_lets.l0 k m ((letN w m h i) ++ [(i : Int)]) (chgs w h N) N (wrap64 ((i : Int) + 1))) else (none)) else (serial_lets.l0 k m (letN w m h i) (chgs w h N) N (wrap64 ((i : Int) + 1))))) (fun k => ?_) (Ev.bind hg ?_)
    · simp only [serial_lets.l0]; rw [if_pos (by omega), if_pos (by omega), if_pos (by omega), hr]
    · by_cases hB : (Int.gcd (chg w h i) m : Int) > 1
      · rw [show letB w m h i = true from decide_eq_true hB, if_pos rfl] at hI
        simp only [hB, hlt, if_true, wi]; exact hI
      · rw [show letB w m h i = false from decide_eq_false hB] at hI
        simp only [Bool.false_eq_true, if_false, List.append_nil] at hI
        simp only [hB, if_false, wi]; exact hI
theorem ev_lets0 (h1 : 2 ≤ m) (N : Nat) (hN : N = 0 ∨ N + offH h ≤ w.length) : Ev (fun k => serial_lets.l0 k m [] (chgs w h N) N 0) (letN w m h N) := by
  rcases hN with rfl | hN
  · rw [letN_zero]
    refine Ev.step (f := fun _ => some []) (fun k => ?_) (Ev.now _)
    simp only [serial_lets.l0]; rw [if_neg (by omega)]
  · have := ev_lets_l h2 hw hn h hh h1 N hN N 0 (by omega)
    rw [letN_zero] at this
    exact this
theorem ev_lets (h1 : 2 ≤ m) : Ev (fun k => serial_lets.f k w m h) (letN w m h (w.length - offH h)) := by
  have hl : (chgs w h (w.length - offH h)).length = w.length - offH h := by simp [chgs]
  have h3 := ev_lets0 h2 hw hn h hh h1 (w.length - offH h) (by omega)
  rw [← hl] at h3
  refine Ev.congr (f := fun k => (serial_changes.f k w h).bind fun t258 => serial_lets.l0 k m [] t258 t258.length 0) (fun k => by unfold serial_lets.f; rfl) (Ev.bind (ev_changes h2 hw hn h hh) ?_)
  rw [hl] at h3 ⊢
  exact h3
end
theorem ev_sLets_yes {w : List Int} {m h : Int} (hw : wtsB w m = true) (hh : 0 ≤ h ∧ h ≤ 3) : Ev (fun k => serial_Lets.f k w m h) (letN w m h (w.length - offH h), 0) := by
  obtain ⟨a, b, c, d⟩ := wts_of hw
  refine Ev.congr (f := fun k => (serial_lets.f k w m h).bind fun t268 => some (t268, (0 : Int))) (fun k => ?_) (Ev.bind (ev_lets b c d h hh a) (Ev.now _))
  unfold serial_Lets.f
  rw [areWeights_eq, hw, within_eq]
  simp [hh.1, hh.2]
theorem ev_sLets_no {w : List Int} {m h : Int} (hn : ¬ (wtsB w m = true ∧ (0 ≤ h ∧ h ≤ 3))) : Ev (fun k => serial_Lets.f k w m h) ([], 2) := by
  refine Ev.some_ fun k => ?_
  unfold serial_Lets.f
  rw [areWeights_eq, within_eq]
  cases hw : wtsB w m with
  | false => simp
  | true =>
    have : (decide (0 ≤ h) && decide (h ≤ 3)) = false := by
      simp only [Bool.and_eq_false_iff, decide_eq_false_iff_not]
      by_cases h0 : 0 ≤ h
      · exact .inr fun h3 => hn ⟨hw, h0, h3⟩
      · exact .inl h0
    simp [this]
end Go.Proofs.Ytdkncfmlehcjmaa.X
