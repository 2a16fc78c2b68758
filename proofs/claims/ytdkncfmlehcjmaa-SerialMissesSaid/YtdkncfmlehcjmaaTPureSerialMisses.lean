/- SerialMisses: Miss finds the first pair of sound numbers that the reference finds, or the errors of the document, for all tables and kinds. -/
import Derived.Test.YtdkncfmlehcjmaaTX14
import Derived.Test.YtdkncfmlehcjmaaTS16
set_option linter.unusedVariables false
set_option linter.unusedSimpArgs false
namespace Go.Proofs.Ytdkncfmlehcjmaa.X
open Go.RowKit Go.Proofs.YtdkncfmlehcjmaaW.PrintWords
theorem miss_no {t : List (List Int)} {a : Int} (h : ¬ (isTab t = true ∧ t.length ≤ 6 ∧ 0 ≤ a ∧ a ≤ 3)) : serial_Miss.f t a = some ([], [], 2) := by
  unfold serial_Miss.f; rw [if_neg h]
theorem miss_yes {t : List (List Int)} {kd : Nat} (h : isTab t = true) (h6 : t.length ≤ 6) (hk : kd < 4) : serial_Miss.f t kd = some (missV t kd) := by
  unfold serial_Miss.f; rw [if_pos ⟨h, h6, by omega, by omega⟩]; rfl
theorem find_mem {t : List (List Int)} {kd : Nat} {l : List Int} (h : (allTo t.length 6).find? (goodM t kd) = some l) : goodM t kd l = true ∧ l ∈ allTo t.length 6 := ⟨List.find?_some h, List.mem_of_find?_eq_some h⟩
theorem allTo_ok {n : Nat} (hn : 0 < n) {l : List Int} (h : l ∈ allTo n 6) : digs l n = true ∧ l.length ≤ 5 := by
  unfold allTo at h
  obtain ⟨s, hs, h⟩ := List.mem_flatMap.1 h
  have hs := List.mem_range.1 hs
  rw [ext_dig n hn] at h
  obtain ⟨v, _, rfl⟩ := List.mem_map.1 h
  exact ⟨digN_digs n hn s v, by rw [digN_len]; omega⟩
/-- Either there is none, or there are two numbers that are as they should be. -/
theorem missV_cases {t : List (List Int)} (ht : TabOk t) {kd : Nat} (hk : kd < 4) : missV t kd = ([], [], 6) ∨ ∃ l, missV t kd = (l, bestOf t (errsOf kd l t.length), 0) ∧ traceP t 0 l = 0 ∧ digs l t.length = true ∧ l.length ≤ 5 ∧ bestOf t (errsOf kd l t.length) ∈ errsOf kd l t.length ∧ traceP t 0 (bestOf t (errsOf kd l t.length)) = 0 := by
  have hn : 0 < t.length := by have := ht.1; omega
  unfold missV
  cases h : (allTo t.length 6).find? (goodM t kd) with
  | none => exact .inl rfl
  | some l =>
    obtain ⟨h1, h2⟩ := find_mem h
    obtain ⟨h3, h4⟩ := allTo_ok hn h2
    unfold goodM at h1
    rw [Bool.and_eq_true, decide_eq_true_eq] at h1
    refine .inr ⟨l, rfl, h1.1, h3, h4, ?_⟩
    have hb := best_is t (errsOf kd l t.length) (fun m hm e => by have := (errs_ok h3 hk m hm).2; have := errs_pos m hm; subst e; simp at *; omega)
    rcases hb with ⟨e, _⟩ | ⟨e1, e2, _⟩
    · rw [e] at h1; simp at h1
    · exact ⟨e1, e2⟩
theorem ev_SerialMisses (l0 : List (List Int)) (a1 : Int) : Ev (fun k => tickinglaw11_SerialMisses.f k l0 a1) true := by
  have htl := tabOf_len l0
  refine Ev.bind (ev_table l0) ?_
  generalize tabOf l0 = t at *
  have jt : ∀ (x : Int), Ev (fun k => tickinglaw11_SerialMisses.j0 k x t [] [] 2 true) true := fun x => by
    refine Ev.step (fun k => by simp only [tickinglaw11_SerialMisses.j0]; rfl) ?_
    simp; exact ev_awake
  by_cases hc : isTab t = true ∧ t.length ≤ 6 ∧ 0 ≤ a1 ∧ a1 ≤ 3
  · obtain ⟨h, h6, h0, h3⟩ := hc
    obtain ⟨kd, rfl⟩ : ∃ kd : Nat, a1 = kd := ⟨a1.toNat, by omega⟩
    have hk : kd < 4 := by omega
    have ht : TabOk t := of_decide_eq_true h
    rw [miss_yes h h6 hk]
    simp only [Option.bind_some]
    refine Ev.bind (ev_Table t) ?_
    rw [h]
    simp only [if_true]
    simp only [show ¬ ((t.length : Int) > 6) by omega, show ¬ ((kd : Int) < 0) by omega, show ¬ ((kd : Int) > 3) by omega, if_false, decide_false]
    refine Ev.step (fun k => by simp only [tickinglaw11_SerialMisses.j0]; rfl) ?_
    simp only [Bool.false_eq_true, if_false]
    refine Ev.bind (ev_rMiss ht hk h6) ?_
    rcases missV_cases ht hk with e | ⟨l, e, _, _, h5, h6, _⟩
    · rw [e]; simp; exact ev_awake
    · rw [e]
      simp only [decide_true, if_true]
      have i1 := ev_ints l l (by omega)
      have i2 := ev_ints (bestOf t (errsOf kd l t.length)) (bestOf t (errsOf kd l t.length)) (by rw [(errs_ok (n := t.length) ‹_› hk _ h6).2]; omega)
      refine Ev.bind i1 ?_
      simp only [decide_true, if_true]
      refine Ev.bind i2 ?_
      simp; exact ev_awake
  · rw [miss_no hc]
    simp only [Option.bind_some]
    refine Ev.bind (ev_Table t) ?_
    cases h : isTab t with
    | false => simpa using jt a1
    | true =>
      simp only [if_true]
      by_cases h6 : t.length ≤ 6
      · by_cases h0 : a1 < 0
        · simp only [show ¬ ((t.length : Int) > 6) by omega, h0, if_false, if_true]; exact jt a1
        · have h3 : a1 > 3 := by
            rcases Int.lt_or_le 3 a1 with h3 | h3
            · exact h3
            · exact absurd ⟨h, h6, by omega, h3⟩ hc
          simp only [show ¬ ((t.length : Int) > 6) by omega, h0, h3, if_false, decide_true]
          exact jt a1
      · simp only [show ((t.length : Int) > 6) by omega, if_true]; exact jt a1
end Go.Proofs.Ytdkncfmlehcjmaa.X
namespace Go.Proofs.Ytdkncfmlehcjmaa.Pure
open Go.Proofs.Ytdkncfmlehcjmaa.X Go.Proofs.YtdkncfmlehcjmaaW.PrintWords
theorem SerialMisses : ∀ (l0 : List (List Int)) (a1 : Int), l0.length ≤ maxLen → (∀ r ∈ l0, ∀ x ∈ r, (Lit.int .i64 x).wf = true) → (Lit.int .i64 a1).wf = true → ∃ k, tickinglaw11_SerialMisses.f k l0 a1 = some true := fun l0 a1 _ _ _ => by
  obtain ⟨k, hk⟩ := ev_SerialMisses l0 a1
  exact ⟨k, hk k (Nat.le_refl _)⟩
end Go.Proofs.Ytdkncfmlehcjmaa.Pure
