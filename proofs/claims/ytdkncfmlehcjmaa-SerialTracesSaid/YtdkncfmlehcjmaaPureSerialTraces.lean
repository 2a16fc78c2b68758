/- SerialTraces: Trace and Digit return what the reference reckons, or the errors of the document, for all tables and numbers. -/
import Derived.Test.YtdkncfmlehcjmaaX7
import Derived.Test.YtdkncfmlehcjmaaS5
set_option linter.unusedVariables false
set_option linter.unusedSimpArgs false
namespace Go.Proofs.Ytdkncfmlehcjmaa.X
open Go.RowKit Go.Proofs.YtdkncfmlehcjmaaW.PrintWords
theorem isTab_ok {t : List (List Int)} (h : isTab t = true) : TabOk t := of_decide_eq_true h
theorem ev_traces_j0 (t : List (List Int)) (l : List Int) (htl : t.length ≤ 1000000) (hll : l.length ≤ 25) (a b c d : Int) (hT : Ev (fun k => serial_Trace.f k t l) (a, b)) (hD : Ev (fun k => serial_Digit.f k t l) (c, d)) (z : Bool)
    (hz : z = false → isTab t = true ∧ digs l t.length = true ∧ l.length ≤ 24) (hn : z = true → ¬ (isTab t = true ∧ digs l t.length = true ∧ l.length ≤ 24)) : Ev (fun k => tickinglaw11_SerialTraces.j0 k t l a b c d z) true := by
  cases z with
  | true =>
    have hn := hn rfl
    obtain ⟨rfl, rfl⟩ := Prod.mk.inj (Ev.uniq hT (ev_sTrace_no t l (by omega) htl hn))
    obtain ⟨rfl, rfl⟩ := Prod.mk.inj (Ev.uniq hD (ev_sDigit_no t l htl (fun h => hn ⟨h.1, h.2.1, by omega⟩)))
    refine Ev.step (f := fun k => (tickinglaw11_awake.f k).bind fun t => some t) (fun k => ?_) (Ev.bind ev_awake (Ev.now true))
    simp [tickinglaw11_SerialTraces.j0]
  | false =>
    obtain ⟨h1, h2, h3⟩ := hz rfl
    have ht := isTab_ok h1
    have hT2 := sTrace_eq t l (by omega) htl
    rw [h1, h2, decide_eq_true (show (l.length : Int) ≤ 24 by omega), if_pos (by rfl)] at hT2
    obtain ⟨rfl, rfl⟩ := Prod.mk.inj (Ev.uniq hT hT2)
    refine Ev.step (f := fun k => (tickingref11_Trace.f k t l).bind fun t478 => (if traceP t 0 l = t478 then (tickinglaw11_SerialTraces.j1 k t l c d false) else (tickinglaw11_SerialTraces.j1 k t l c d true))) (fun k => by simp [tickinglaw11_SerialTraces.j0]) (Ev.bind (ev_Trace ht l h2 (by omega)) ?_)
    simp only [if_true]
    by_cases h24 : l.length = 24
    · obtain ⟨rfl, rfl⟩ := Prod.mk.inj (Ev.uniq hD (ev_sDigit_no t l htl (fun h => by omega)))
      refine Ev.step (f := fun k => (tickinglaw11_awake.f k).bind fun t => some t) (fun k => ?_) (Ev.bind ev_awake (Ev.now true))
      simp [tickinglaw11_SerialTraces.j1, h24]
    · obtain ⟨j, _, _, _, hj, hr⟩ := ev_sDigit_yes ht l h2 (by omega)
      obtain ⟨rfl, rfl⟩ := Prod.mk.inj (Ev.uniq hD hj)
      refine Ev.step (f := fun k => (tickingref11_Digit.f k t l).bind fun t480 => if c = t480 then (if (0 : Int) = 0 then ((tickinglaw11_awake.f k).bind fun t481 => (some t481)) else (some false)) else (some false)) (fun k => ?_) (Ev.bind hr ?_)
      · simp only [tickinglaw11_SerialTraces.j1, Bool.false_eq_true, if_false]; rw [if_neg (by omega)]
      · simp only [if_true]; exact Ev.bind ev_awake (Ev.now true)
theorem ev_SerialTraces (l0 : List (List Int)) (l1 : List Int) : Ev (fun k => tickinglaw11_SerialTraces.f k l0 l1) true := by
  have hl : ∀ l, tickinglaw11_list.f l = some (l.take 25) := fun _ => rfl
  have htl := tabOf_len l0
  have hll : (l1.take 25).length ≤ 25 := by simp; omega
  refine Ev.bind (ev_table l0) ?_
  simp only [hl, Option.bind_some]
  generalize tabOf l0 = t at *
  generalize l1.take 25 = l at *
  have htl2 : t.length ≤ 1000000 := by omega
  obtain ⟨c, d, hD⟩ : ∃ a b, Ev (fun k => serial_Digit.f k t l) (a, b) := by
    by_cases h : isTab t = true ∧ digs l t.length = true ∧ l.length ≤ 23
    · obtain ⟨j, _, _, _, hj, _⟩ := ev_sDigit_yes (isTab_ok h.1) l h.2.1 h.2.2; exact ⟨_, _, hj⟩
    · exact ⟨_, _, ev_sDigit_no t l htl2 h⟩
  have hT := sTrace_eq t l (by omega) htl2
  generalize (if isTab t && (digs l t.length && decide ((l.length : Int) ≤ 24)) then (traceP t 0 l, (0 : Int)) else ((0 : Int), (2 : Int))) = ab at hT
  obtain ⟨a, b⟩ := ab
  refine Ev.bind hT (Ev.bind hD (Ev.bind (ev_Table t) ?_))
  cases h1 : isTab t with
  | false =>
    simp only [Bool.false_eq_true, if_false]
    exact ev_traces_j0 t l htl2 hll a b c d hT hD true (by simp) (fun _ h => by rw [h1] at h; cases h.1)
  | true =>
    simp only [if_true]
    refine Ev.bind (ev_Digits l 24 t.length (by omega)) ?_
    refine ev_traces_j0 t l htl2 hll a b c d hT hD _ (fun h => ?_) (fun h h' => ?_)
    · simp at h; exact ⟨h1, h.1, by omega⟩
    · simp [h'.2.1] at h; omega
end Go.Proofs.Ytdkncfmlehcjmaa.X
namespace Go.Proofs.Ytdkncfmlehcjmaa.Pure
open Go.Proofs.Ytdkncfmlehcjmaa.X Go.Proofs.YtdkncfmlehcjmaaW.PrintWords
theorem SerialTraces : ∀ (l0 : List (List Int)) (l1 : List Int), l0.length ≤ maxLen → (∀ r ∈ l0, ∀ x ∈ r, (Lit.int .i64 x).wf = true) → l1.length ≤ maxLen → (∀ x ∈ l1, (Lit.int .i64 x).wf = true) → ∃ k, tickinglaw11_SerialTraces.f k l0 l1 = some true := fun l0 l1 _ _ _ _ => by
  obtain ⟨k, hk⟩ := ev_SerialTraces l0 l1
  exact ⟨k, hk k (Nat.le_refl _)⟩
end Go.Proofs.Ytdkncfmlehcjmaa.Pure
