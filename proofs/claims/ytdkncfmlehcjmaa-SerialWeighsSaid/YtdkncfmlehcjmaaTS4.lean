/- Weighed sums, and the search loops over a table: the program's and the reference's find the same. -/
import Derived.Test.YtdkncfmlehcjmaaTS2
import Derived.Test.YtdkncfmlehcjmaaTX39
import Derived.Test.YtdkncfmlehcjmaaTX40
import Derived.Test.YtdkncfmlehcjmaaTX41
import Derived.Test.YtdkncfmlehcjmaaTX42
import Derived.Test.YtdkncfmlehcjmaaTX43
import Derived.Test.YtdkncfmlehcjmaaTX63
set_option linter.unusedVariables false
set_option linter.unusedSimpArgs false
namespace Go.Proofs.Ytdkncfmlehcjmaa.X
open Go.RowKit Go.Proofs.YtdkncfmlehcjmaaW.PrintWords

/-! ### Weighed sums -/
/-- The sum of the products of the first i. -/
def dotN (w l : List Int) : Nat → Int
  | 0 => 0
  | i + 1 => dotN w l i + rd w i * rd l i
/-- Weights as they may be: 2 ≤ m ≤ 97, each in [0, m). -/
def wOk (w : List Int) (m : Int) : Prop := 2 ≤ m ∧ m ≤ 97 ∧ digs w m = true
theorem mul_lt_97 {a b m : Int} (h2 : m ≤ 97) (a0 : 0 ≤ a) (a1 : a < m) (b0 : 0 ≤ b) (b1 : b < m) : 0 ≤ a * b ∧ a * b ≤ 9216 := by
  refine ⟨Int.mul_nonneg a0 b0, ?_⟩
  have h1 : a * b ≤ 96 * b := Int.mul_le_mul_of_nonneg_right (by omega) b0
  omega
theorem digs_rd {l : List Int} {n : Int} (h : digs l n = true) (i : Nat) (hi : i < l.length) : 0 ≤ rd l i ∧ rd l i < n := by
  rw [rd_nat l i hi]; exact digs_at h i hi
theorem dotN_bd {w l : List Int} {m : Int} (h2 : m ≤ 97) (hw : digs w m = true) (hl : digs l m = true) : ∀ i, i ≤ w.length → i ≤ l.length → 0 ≤ dotN w l i ∧ dotN w l i ≤ 9216 * i := by
  intro i
  induction i with
  | zero => intro _ _; simp [dotN]
  | succ i ih =>
    intro h3 h4
    have h5 := ih (by omega) (by omega)
    have h6 := digs_rd hw i (by omega)
    have h7 := digs_rd hl i (by omega)
    have h8 := mul_lt_97 h2 h6.1 h6.2 h7.1 h7.2
    have h9 : dotN w l (i + 1) = dotN w l i + rd w i * rd l i := rfl
    rw [h9]; omega
theorem ev_weighed_l (w l : List Int) (m : Int) (h1 : 2 ≤ m) (h2 : m ≤ 97) (hw : digs w m = true) (hl : digs l m = true) (hle : l.length ≤ w.length) (hln : l.length ≤ 1000) (d : Nat) : ∀ i : Nat, i + d = l.length → Ev (fun k => serial_weighed.l0 k w m (dotN w l i) l l.length i) (dotN w l l.length % m) := by
  induction d with
  | zero =>
    intro i hi
    obtain rfl : i = l.length := by omega
    have hb := dotN_bd h2 hw hl l.length hle (by omega)
    refine Ev.step (f := fun _ => some (dotN w l l.length % m)) (fun k => ?_) (Ev.now _)
    simp only [serial_weighed.l0]
    rw [if_neg (by omega), if_neg (by omega), Int.tmod_eq_emod_of_nonneg hb.1]
  | succ d ih =>
    intro i hi
    have hb := dotN_bd h2 hw hl i (by omega) (by omega)
    have h6 := digs_rd hw i (by omega)
    have h7 := digs_rd hl i (by omega)
    have h8 := mul_lt_97 h2 h7.1 h7.2 h6.1 h6.2
    refine Ev.step (fun k => ?_) (ih (i + 1) (by omega))
    simp only [serial_weighed.l0]
    rw [if_pos (by omega), if_pos (by omega), if_pos (by omega), if_pos (by omega), w64 (x := rd l i * rd w i) (by omega) (by omega), w64 (by omega) (by omega), w64 (by omega) (by omega)]
    rw [show dotN w l (i + 1) = dotN w l i + rd l i * rd w i from by rw [Int.mul_comm]; rfl]; rfl
theorem ev_weighed (w l : List Int) (m : Int) (h1 : 2 ≤ m) (h2 : m ≤ 97) (hw : digs w m = true) (hl : digs l m = true) (hle : l.length ≤ w.length) (hln : l.length ≤ 1000) : Ev (fun k => serial_weighed.f k w m l) (dotN w l l.length % m) :=
  ev_weighed_l w l m h1 h2 hw hl hle hln l.length 0 (by omega)
theorem ev_rSum_l (w l : List Int) (m : Int) (h1 : 2 ≤ m) (h2 : m ≤ 97) (hw : digs w m = true) (hl : digs l m = true) (hle : l.length ≤ w.length) (hln : l.length ≤ 1000) (d : Nat) : ∀ i : Nat, i + d = l.length → Ev (fun k => tickingref11_Sum.l0 k w m l (dotN w l i) i) (dotN w l l.length % m) := by
  induction d with
  | zero =>
    intro i hi
    obtain rfl : i = l.length := by omega
    have hb := dotN_bd h2 hw hl l.length hle (by omega)
    refine Ev.step (f := fun _ => some (dotN w l l.length % m)) (fun k => ?_) (Ev.now _)
    simp only [tickingref11_Sum.l0]
    rw [if_neg (by omega), if_neg (by omega), Int.tmod_eq_emod_of_nonneg hb.1]
  | succ d ih =>
    intro i hi
    have hb := dotN_bd h2 hw hl i (by omega) (by omega)
    have h6 := digs_rd hw i (by omega)
    have h7 := digs_rd hl i (by omega)
    have h8 := mul_lt_97 h2 h6.1 h6.2 h7.1 h7.2
    refine Ev.step (fun k => ?_) (ih (i + 1) (by omega))
    simp only [tickingref11_Sum.l0]
    rw [if_pos (by omega), if_pos (by omega), if_pos (by omega), w64 (x := rd w i * rd l i) (by omega) (by omega), w64 (by omega) (by omega), w64 (by omega) (by omega)]; rfl
theorem ev_rSum (w l : List Int) (m : Int) (h1 : 2 ≤ m) (h2 : m ≤ 97) (hw : digs w m = true) (hl : digs l m = true) (hle : l.length ≤ w.length) (hln : l.length ≤ 1000) : Ev (fun k => tickingref11_Sum.f k w m l) (dotN w l l.length % m) :=
  ev_rSum_l w l m h1 h2 hw hl hle hln l.length 0 (by omega)

/-- Weights and their modulus are as they may be. -/
def wtsB (w : List Int) (m : Int) : Bool := (decide (2 ≤ m) && decide (m ≤ 97)) && (digs w m && decide ((w.length : Int) ≤ 24))
theorem areWeights_eq (w : List Int) (m : Int) : serial_areWeights.f w m = some (wtsB w m) := by
  unfold serial_areWeights.f serial_isNumber.f
  rw [within_eq]
  simp only [Option.bind_some]
  unfold wtsB
  by_cases h : 2 ≤ m ∧ m ≤ 97
  · rw [isNum_eq w m 24 (by omega) (by omega)]; simp [h.1, h.2]
  · have : (decide (2 ≤ m) && decide (m ≤ 97)) = false := by simp; omega
    rw [this]; simp
theorem ev_Weighted (w : List Int) (m : Int) (hl : w.length ≤ 1000000000) : Ev (fun k => tickingref11_Weighted.f k w m) (wtsB w m) := by
  unfold tickingref11_Weighted.f wtsB
  by_cases h1 : 2 ≤ m
  · by_cases h2 : m ≤ 97
    · simp only [ge_iff_le, h1, h2, if_true, decide_true, Bool.true_and]
      exact Ev.bind (ev_Digits w 24 m hl) (Ev.now _)
    · simp only [ge_iff_le, h1, h2, if_true, if_false, decide_true, decide_false, Bool.true_and, Bool.false_and]; exact Ev.now _
  · simp only [ge_iff_le, h1, if_false, decide_false, Bool.false_and]; exact Ev.now _
theorem ev_sSum_no (w l : List Int) (m : Int) (h : ¬ (wtsB w m = true ∧ l.length = w.length ∧ digs l m = true)) : Ev (fun k => serial_Sum.f k w m l) (0, 2) := by
  refine Ev.some_ fun k => ?_
  unfold serial_Sum.f
  rw [areWeights_eq]
  simp only [Option.bind_some]
  by_cases h1 : wtsB w m = true
  · rw [if_pos h1]
    by_cases h2 : l.length = w.length
    · have hm : 2 ≤ m ∧ m ≤ 97 := by unfold wtsB at h1; simp at h1; omega
      have hw : w.length ≤ 24 := by unfold wtsB at h1; simp at h1; omega
      have hd : digs l m = false := by cases hd : digs l m with
        | false => rfl
        | true => exact absurd ⟨h1, h2, hd⟩ h
      rw [if_pos (by omega)]
      unfold serial_isNumber.f
      rw [isNum_eq l m _ (by omega) (by omega), hd]; simp
    · rw [if_neg (by omega)]
  · rw [if_neg h1]
theorem wts_of {w : List Int} {m : Int} (h : wtsB w m = true) : 2 ≤ m ∧ m ≤ 97 ∧ digs w m = true ∧ w.length ≤ 24 := by
  unfold wtsB at h; simp only [Bool.and_eq_true, decide_eq_true_eq] at h; exact ⟨h.1.1, h.1.2, h.2.1, by omega⟩
theorem ev_sSum_yes (w l : List Int) (m : Int) (h1 : wtsB w m = true) (h2 : l.length = w.length) (h3 : digs l m = true) : Ev (fun k => serial_Sum.f k w m l) (dotN w l l.length % m, 0) := by
  obtain ⟨a, b, c, d⟩ := wts_of h1
  have hw := ev_weighed w l m a b c h3 (by omega) (by omega)
  refine Ev.congr (f := fun k => (serial_weighed.f k w m l).bind fun t416 => (some (t416, 0))) (fun k => ?_) (Ev.bind hw (Ev.now _))
  unfold serial_Sum.f serial_isNumber.f
  rw [areWeights_eq, isNum_eq l m _ (by omega) (by omega), h1, h3, if_pos (by omega), decide_eq_true (by omega)]; rfl

/-! ### The last digit of a weighed number -/
theorem ev_sLast_l (w l : List Int) (m s : Int) (h1 : 2 ≤ m) (h2 : m ≤ 97) (hw : digs w m = true) (hl : l.length < w.length) (hlw : w.length ≤ 24) (hs0 : 0 ≤ s) (hs1 : s < m) (d : Nat) : ∀ i : Nat, ((i + d : Nat) : Int) = m → ∃ r ok, Ev (fun k => serial_Last.l0 k w m l s m i) (r, if ok then 0 else 6) ∧ (ok = false → r = 0) ∧ ∀ (hsum : Ev (fun k => tickingref11_Sum.f k w m l) s), Ev (fun k => tickingref11_Last.l0 k w m l i) (r, ok) := by
  induction d with
  | zero =>
    intro i hi
    refine ⟨0, false, Ev.step (f := fun _ => some (0, 6)) (fun k => ?_) (Ev.now _), fun _ => rfl, fun _ => Ev.step (f := fun _ => some (0, false)) (fun k => ?_) (Ev.now _)⟩
    · simp only [serial_Last.l0]; rw [if_neg (by omega)]
    · simp only [tickingref11_Last.l0]; rw [if_neg (by omega)]
  | succ d ih =>
    intro i hi
    obtain ⟨r, ok, e1, e2, e3⟩ := ih (i + 1) (by omega)
    have hd := digs_rd hw l.length hl
    have hm := mul_lt_97 h2 (show 0 ≤ (i : Int) by omega) (show (i : Int) < m by omega) hd.1 hd.2
    have hc : (i : Int) * rd w l.length = rd w l.length * (i : Int) := Int.mul_comm _ _
    by_cases hz : (s + (i : Int) * rd w l.length) % m = 0
    · refine ⟨i, true, Ev.step (f := fun _ => some ((i : Int), 0)) (fun k => ?_) (Ev.now _), by simp, fun hsum => Ev.step (f := fun k => (tickingref11_Sum.f k w m l).bind fun t520 => if (Int.tmod (wrap64 (t520 + (wrap64 ((rd w (l.length : Int)) * i)))) m) = 0 then (some ((i : Int), true)) else (tickingref11_Last.l0 k w m l (wrap64 ((i : Int) + 1)))) (fun k => ?_) (Ev.bind hsum ?_)⟩
      · simp only [serial_Last.l0]
        rw [if_pos (by omega), if_pos (by omega), if_pos (by omega), if_neg (by omega), w64 (x := (i : Int) * rd w l.length) (by omega) (by omega), w64 (by omega) (by omega), Int.tmod_eq_emod_of_nonneg (by omega), if_pos hz]
      · simp only [tickingref11_Last.l0]
        rw [if_pos (by omega)]
        congr 1; funext t
        rw [if_pos (by omega), if_pos (by omega), if_neg (by omega)]
      · refine Ev.some_ fun k => ?_
        rw [← hc, w64 (x := (i : Int) * rd w l.length) (by omega) (by omega), w64 (by omega) (by omega), Int.tmod_eq_emod_of_nonneg (by omega), if_pos hz]
    · refine ⟨r, ok, Ev.step (fun k => ?_) e1, e2, fun hsum => Ev.step (f := fun k => (tickingref11_Sum.f k w m l).bind fun t520 => if (Int.tmod (wrap64 (t520 + (wrap64 ((rd w (l.length : Int)) * i)))) m) = 0 then (some ((i : Int), true)) else (tickingref11_Last.l0 k w m l (wrap64 ((i : Int) + 1)))) (fun k => ?_) (Ev.bind hsum ?_)⟩
      · simp only [serial_Last.l0]
        rw [if_pos (by omega), if_pos (by omega), if_pos (by omega), if_neg (by omega), w64 (x := (i : Int) * rd w l.length) (by omega) (by omega), w64 (x := s + _) (by omega) (by omega), Int.tmod_eq_emod_of_nonneg (by omega), if_neg hz, w64 (by omega) (by omega)]; rfl
      · simp only [tickingref11_Last.l0]
        rw [if_pos (by omega)]
        congr 1; funext t
        rw [if_pos (by omega), if_pos (by omega), if_neg (by omega)]
      · refine Ev.congr (fun k => ?_) (e3 hsum)
        rw [← hc, w64 (x := (i : Int) * rd w l.length) (by omega) (by omega), w64 (x := s + _) (by omega) (by omega), Int.tmod_eq_emod_of_nonneg (by omega), if_neg hz, w64 (by omega) (by omega)]; rfl
theorem ev_Last (w l : List Int) (m : Int) (h1 : wtsB w m = true) (h2 : l.length + 1 = w.length) (h3 : digs l m = true) : ∃ r ok, Ev (fun k => serial_Last.f k w m l) (r, if ok then 0 else 6) ∧ (ok = false → r = 0) ∧ Ev (fun k => tickingref11_Last.f k w m l) (r, ok) := by
  obtain ⟨a, b, c, d⟩ := wts_of h1
  have hs := ev_rSum w l m a b c h3 (by omega) (by omega)
  have hw := ev_weighed w l m a b c h3 (by omega) (by omega)
  have hb : 0 ≤ dotN w l l.length % m ∧ dotN w l l.length % m < m := ⟨Int.emod_nonneg _ (by omega), Int.emod_lt_of_pos _ (by omega)⟩
  obtain ⟨r, ok, e1, e2, e3⟩ := ev_sLast_l w l m _ a b c (by omega) d hb.1 hb.2 m.toNat 0 (by omega)
  refine ⟨r, ok, ?_, e2, e3 hs⟩
  refine Ev.congr (f := fun k => serial_Last.j0 k w m l false) (fun k => ?_) (Ev.step (f := fun k => (serial_weighed.f k w m l).bind fun t515 => serial_Last.l0 k w m l t515 m 0) (fun k => by simp [serial_Last.j0]) (Ev.bind hw e1))
  unfold serial_Last.f serial_isNumber.f
  rw [areWeights_eq, isNum_eq l m _ (by omega) (by omega), h1, h3, w64 (by omega) (by omega), if_pos (by omega), decide_eq_true (by omega)]; rfl
theorem ev_sLast_no (w l : List Int) (m : Int) (hwl : w.length ≤ 1000) (h : ¬ (wtsB w m = true ∧ l.length + 1 = w.length ∧ digs l m = true)) : Ev (fun k => serial_Last.f k w m l) (0, 2) := by
  refine Ev.congr (f := fun k => serial_Last.j0 k w m l true) (fun k => ?_) (Ev.step (f := fun _ => some (0, 2)) (fun k => by simp [serial_Last.j0]) (Ev.now _))
  unfold serial_Last.f
  rw [areWeights_eq]
  simp only [Option.bind_some]
  by_cases h1 : wtsB w m = true
  · rw [if_pos h1, w64 (by omega) (by omega)]
    by_cases h2 : l.length + 1 = w.length
    · obtain ⟨a, b, c, d⟩ := wts_of h1
      have hd : digs l m = false := by cases hd : digs l m with
        | false => rfl
        | true => exact absurd ⟨h1, h2, hd⟩ h
      rw [if_pos (by omega)]
      unfold serial_isNumber.f
      rw [isNum_eq l m _ (by omega) (by omega), hd]; simp
    · rw [if_neg (by omega)]
  · rw [if_neg h1]
end Go.Proofs.Ytdkncfmlehcjmaa.X
