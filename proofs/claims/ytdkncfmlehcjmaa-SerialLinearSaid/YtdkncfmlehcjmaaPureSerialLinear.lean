/- SerialLinear: for all ints, Linear returns the linear table of the reference, Fine its first numbers, or the errors of the document. No condition beside the ints' own range. -/
import Derived.Test.YtdkncfmlehcjmaaX4
import Derived.Test.YtdkncfmlehcjmaaS1
set_option linter.unusedVariables false
set_option linter.unusedSimpArgs false
namespace Go.Proofs.Ytdkncfmlehcjmaa.X
open Go.RowKit Go.Proofs.YtdkncfmlehcjmaaW.PrintWords Go.Proofs.YtdkncfmlehcjmaaW.PrintLast

/-! ### Fine: eleven numbers, each reckoned -/
def fineChk (n : Int) : Bool := match serial_Fine.f 8000 n, tickingref11_Fine.f 8000 n with
  | some (a, b, e), some (c, d, ok) => a == c && b == d && (e == if ok then 0 else 6) && (ok || (a == 0 && b == 0))
  | _, _ => false
set_option maxRecDepth 1000000 in
theorem fine_all : (List.range 13).all (fun n => n < 2 || fineChk n) = true := by decide +kernel
theorem ev_fine (n : Int) (h0 : 2 ≤ n) (h1 : n ≤ 12) : ∃ a b ok, Ev (fun k => serial_Fine.f k n) (a, b, if ok then 0 else 6) ∧ Ev (fun k => tickingref11_Fine.f k n) (a, b, ok) ∧ (ok = false → a = 0 ∧ b = 0) := by
  have h := fine_all
  rw [List.all_eq_true] at h
  have h2 := h n.toNat (by simp; omega)
  rw [Int.toNat_of_nonneg (by omega)] at h2
  have h3 : fineChk n = true := by
    rcases Bool.or_eq_true _ _ ▸ h2 with h4 | h4
    · simp at h4; omega
    · exact h4
  unfold fineChk at h3
  split at h3
  · rename_i a b e c d ok e1 e2
    simp only [Bool.and_eq_true, beq_iff_eq, Bool.or_eq_true] at h3
    obtain ⟨⟨⟨rfl, rfl⟩, rfl⟩, h5⟩ := h3
    refine ⟨a, b, ok, Ev.of (serial_Fine.mono n) e1, Ev.of (tickingref11_Fine.mono n) e2, fun ho => ?_⟩
    rcases h5 with h5 | h5
    · rw [ho] at h5; cases h5
    · exact h5
  · cases h3
theorem fine_out (n : Int) (h : ¬ (2 ≤ n ∧ n ≤ 12)) : Ev (fun k => serial_Fine.f k n) (0, 0, 2) := by
  refine Ev.some_ fun k => ?_
  unfold serial_Fine.f
  rw [within_eq]
  have : (decide (2 ≤ n) && decide (n ≤ 12)) = false := by simp; omega
  rw [this]; simp

/-! ### Linear -/
theorem linear_in (n : Int) (a b : Int) (h0 : 2 ≤ n) (h1 : n ≤ 12) : Ev (fun k => serial_Linear.f k n a b) (if unitB a n && unitB b n then (linT n.toNat a b, 0) else ([], 2)) := by
  have hw : (decide (2 ≤ n) && decide (n ≤ 12)) = true := by simp; omega
  have hn : ((n.toNat : Nat) : Int) = n := by omega
  refine Ev.congr (f := fun k => (serial_isUnit.f k a n).bind fun t328 => (if t328 = true then ((serial_isUnit.f k b n).bind fun t329 => (if t329 = true then ((serial_linear.f k n a b).bind fun t330 => (some (t330, 0))) else (some (([] : List (List Int)), 2)))) else (some (([] : List (List Int)), 2)))) (fun k => ?_) ?_
  · unfold serial_Linear.f; rw [within_eq, hw]; simp
  · refine Ev.bind (ev_isUnit a n (by omega) (by omega)) ?_
    cases ha : unitB a n with
    | false => exact Ev.some_ fun k => by simp
    | true =>
      simp only [if_true, Bool.true_and]
      refine Ev.bind (ev_isUnit b n (by omega) (by omega)) ?_
      cases hb : unitB b n with
      | false => exact Ev.some_ fun k => by simp
      | true =>
        simp only [if_true]
        unfold unitB at ha hb
        simp only [Bool.and_eq_true, decide_eq_true_eq] at ha hb
        have := ev_linear n.toNat a b (by omega) (by omega) ha.1.1 (by omega) hb.1.1 (by omega)
        rw [hn] at this
        exact Ev.bind this (Ev.some_ fun k => rfl)
theorem linear_out (n a b : Int) (h : ¬ (2 ≤ n ∧ n ≤ 12)) : Ev (fun k => serial_Linear.f k n a b) ([], 2) := by
  refine Ev.some_ fun k => ?_
  unfold serial_Linear.f
  rw [within_eq]
  have : (decide (2 ≤ n) && decide (n ≤ 12)) = false := by simp; omega
  rw [this]; simp

/-! ### The law -/
theorem lin_j0_out (n a b : Int) : Ev (fun k => tickinglaw11_SerialLinear.j0 k n a b [] 2 0 0 2 true) true := by
  refine Ev.step (f := fun k => (tickinglaw11_awake.f k).bind fun t => some t) (fun k => ?_) (Ev.bind ev_awake (Ev.now true))
  simp [tickinglaw11_SerialLinear.j0]
theorem lin_l0 (n : Nat) (t : List (List Int)) (ht : t.length = n) (hn : n ≤ 12) (hr : ∀ i (h : i < t.length), t[i].length ≤ 1000000) (d : Nat) : ∀ i, i + d = n → Ev (fun k => tickinglaw11_SerialLinear.l0 k n t t i) true := by
  induction d with
  | zero =>
    intro i hi
    refine Ev.step (f := fun k => (tickinglaw11_awake.f k).bind fun t => some t) (fun k => ?_) (Ev.bind ev_awake (Ev.now true))
    simp only [tickinglaw11_SerialLinear.l0]; rw [if_neg (by omega)]
  | succ d ih =>
    intro i hi
    have e := rdL_nat t i (by omega)
    refine Ev.step (f := fun k => (tickinglaw11_ints.f k t[i] t[i]).bind fun t378 => if t378 = true then tickinglaw11_SerialLinear.l0 k n t t ((i + 1 : Nat) : Int) else some false) (fun k => ?_) ?_
    · simp only [tickinglaw11_SerialLinear.l0]; rw [if_pos (by omega), if_pos (by omega), if_pos (by omega), if_pos (by omega), e, w64 (by omega) (by omega)]; rfl
    · refine Ev.bind (ev_ints _ _ (by have := hr i (by omega); omega)) ?_
      simp only [decide_true, if_true]
      exact ih (i + 1) (by omega)
theorem lin_j1 (n a b : Int) (h0 : 2 ≤ n) (h1 : n ≤ 12) (t : List (List Int)) (e : Int) (he : (t, e) = (if unitB a n && unitB b n then (linT n.toNat a b, 0) else (([] : List (List Int)), 2))) : Ev (fun k => tickinglaw11_SerialLinear.j1 k n a b t e false) true := by
  have hn : ((n.toNat : Nat) : Int) = n := by omega
  refine Ev.step (f := fun k => (tickingref11_Prime.f k a n).bind fun t370 => (if t370 = true then ((tickingref11_Prime.f k b n).bind fun t371 => (tickinglaw11_SerialLinear.j2 k n a b t e (!t371))) else (tickinglaw11_SerialLinear.j2 k n a b t e true))) (fun k => by simp [tickinglaw11_SerialLinear.j1]) ?_
  refine Ev.bind (ev_Prime a n (by omega) (by omega)) ?_
  have no : ((unitB a n && unitB b n) = false) → Ev (fun k => tickinglaw11_SerialLinear.j2 k n a b t e true) true := by
    intro hu
    rw [hu] at he
    simp only [Bool.false_eq_true, if_false, Prod.mk.injEq] at he
    obtain ⟨rfl, rfl⟩ := he
    refine Ev.step (f := fun k => (tickinglaw11_awake.f k).bind fun t => some t) (fun k => ?_) (Ev.bind ev_awake (Ev.now true))
    simp [tickinglaw11_SerialLinear.j2]
  cases ha : unitB a n with
  | false => simp only [Bool.false_eq_true, if_false]; exact no (by rw [ha]; rfl)
  | true =>
    simp only [if_true]
    refine Ev.bind (ev_Prime b n (by omega) (by omega)) ?_
    cases hb : unitB b n with
    | false => exact no (by rw [ha, hb]; rfl)
    | true =>
      rw [ha, hb] at he
      simp only [Bool.and_self, if_true, Prod.mk.injEq] at he
      obtain ⟨rfl, rfl⟩ := he
      unfold unitB at ha hb
      simp only [Bool.and_eq_true, decide_eq_true_eq] at ha hb
      have hL := ev_Linear n.toNat a b (by omega) (by omega) ha.1.1 (by omega) hb.1.1 (by omega)
      rw [hn] at hL
      have hlen : (linT n.toNat a b).length = n.toNat := by simp [linT]
      refine Ev.step (f := fun k => (tickingref11_Linear.f k n a b).bind fun t373 => (if ((linT n.toNat a b).length : Int) = n then (tickinglaw11_SerialLinear.j3 k n (linT n.toNat a b) t373 ((0 : Int) != 0)) else (tickinglaw11_SerialLinear.j3 k n (linT n.toNat a b) t373 true))) (fun k => by simp [tickinglaw11_SerialLinear.j2]) ?_
      refine Ev.bind hL ?_
      simp only [show ((linT n.toNat a b).length : Int) = n by rw [hlen]; exact hn, if_true]
      refine Ev.step (f := fun k => tickinglaw11_SerialLinear.l0 k n (linT n.toNat a b) (linT n.toNat a b) 0) (fun k => by simp [tickinglaw11_SerialLinear.j3]) ?_
      have := lin_l0 n.toNat (linT n.toNat a b) hlen (by omega) (by intro i h; simp [linT, linRow]; omega) n.toNat 0 (by omega)
      rw [hn] at this
      exact this
theorem ev_SerialLinear (n a b : Int) : Ev (fun k => tickinglaw11_SerialLinear.f k n a b) true := by
  by_cases h : 2 ≤ n ∧ n ≤ 12
  · obtain ⟨h0, h1⟩ := h
    obtain ⟨p, q, ok, f1, f2, f3⟩ := ev_fine n h0 h1
    obtain ⟨t, e, he⟩ : ∃ t e, (t, e) = (if unitB a n && unitB b n then (linT n.toNat a b, 0) else (([] : List (List Int)), (2 : Int))) := ⟨_, _, rfl⟩
    have hl := linear_in n a b h0 h1
    rw [← he] at hl
    refine Ev.bind hl ?_
    refine Ev.bind f1 ?_
    simp only [show ¬ n < 2 by omega, if_false, show decide (n > 12) = false from decide_eq_false (by omega)]
    refine Ev.step (f := fun k => (tickingref11_Fine.f k n).bind fun bt367 => (if bt367.2.2 = true then (if p = bt367.1 then (if q = bt367.2.1 then (if (if ok then (0 : Int) else 6) = 0 then (tickinglaw11_SerialLinear.j1 k n a b t e false) else (tickinglaw11_SerialLinear.j1 k n a b t e true)) else (tickinglaw11_SerialLinear.j1 k n a b t e true)) else (tickinglaw11_SerialLinear.j1 k n a b t e true)) else (if p = 0 then (if q = 0 then (tickinglaw11_SerialLinear.j1 k n a b t e ((if ok then (0 : Int) else 6) != 6)) else (tickinglaw11_SerialLinear.j1 k n a b t e true)) else (tickinglaw11_SerialLinear.j1 k n a b t e true)))) (fun k => by simp [tickinglaw11_SerialLinear.j0]) ?_
    refine Ev.bind f2 ?_
    cases ok with
    | true => simpa using lin_j1 n a b h0 h1 t e he
    | false =>
      obtain ⟨rfl, rfl⟩ := f3 rfl
      simpa using lin_j1 n a b h0 h1 t e he
  · refine Ev.bind (linear_out n a b h) ?_
    refine Ev.bind (fine_out n h) ?_
    by_cases h2 : n < 2
    · simp only [h2, if_true]; exact lin_j0_out n a b
    · simp only [h2, if_false, show decide (n > 12) = true from decide_eq_true (by omega)]; exact lin_j0_out n a b
end Go.Proofs.Ytdkncfmlehcjmaa.X
namespace Go.Proofs.Ytdkncfmlehcjmaa.Pure
open Go.Proofs.Ytdkncfmlehcjmaa.X Go.Proofs.YtdkncfmlehcjmaaW.PrintWords
theorem SerialLinear : tickinglaw11_SerialLinear.Pure := fun a0 a1 a2 _ _ _ => (ev_SerialLinear a0 a1 a2).rounds
end Go.Proofs.Ytdkncfmlehcjmaa.Pure
