/- SerialSums: Sum and Last return what the reference reckons, or the errors of the document, for all lists and any modulus. -/
import Derived.Test.YtdkncfmlehcjmaaX9
import Derived.Test.YtdkncfmlehcjmaaS4
import Derived.Test.YtdkncfmlehcjmaaWLast
set_option linter.unusedVariables false
set_option linter.unusedSimpArgs false
namespace Go.Proofs.Ytdkncfmlehcjmaa.X
open Go.RowKit Go.Proofs.YtdkncfmlehcjmaaW.PrintWords
theorem ev_sums_j1 (w l : List Int) (m : Int) (hwl : w.length ≤ 25) (hll : l.length ≤ 25) (h1 : wtsB w m = true) (h3 : digs l m = true) (a b : Int)
    (hE : Ev (fun k => serial_Last.f k w m l) (a, b)) : Ev (fun k => tickinglaw11_SerialSums.j1 k m w l a b) true := by
  by_cases h2 : l.length + 1 = w.length
  · obtain ⟨r, ok, e1, e2, e3⟩ := ev_Last w l m h1 h2 h3
    obtain ⟨rfl, rfl⟩ := Prod.mk.inj (Ev.uniq hE e1)
    refine Ev.step (f := fun k => (tickingref11_Last.f k w m l).bind fun bt537 => (if bt537.2 = true then (if a = bt537.1 then (if (if ok then (0 : Int) else 6) = 0 then ((tickinglaw11_awake.f k).bind fun t539 => (some t539)) else (some false)) else (some false)) else (if a = 0 then (if (if ok then (0 : Int) else 6) = 6 then ((tickinglaw11_awake.f k).bind fun t540 => (some t540)) else (some false)) else (some false)))) (fun k => ?_) (Ev.bind e3 ?_)
    · simp only [tickinglaw11_SerialSums.j1]; rw [w64 (by omega) (by omega), if_pos (by omega)]
    · cases ok with
      | true => simp only [if_true]; exact Ev.bind ev_awake (Ev.now true)
      | false => simp [e2 rfl]; exact ev_awake
  · obtain ⟨rfl, rfl⟩ := Prod.mk.inj (Ev.uniq hE (ev_sLast_no w l m (by omega) (fun h => h2 h.2.1)))
    refine Ev.step (f := fun k => (tickinglaw11_awake.f k).bind fun t => some t) (fun k => ?_) (Ev.bind ev_awake (Ev.now true))
    simp only [tickinglaw11_SerialSums.j1]; rw [w64 (by omega) (by omega), if_neg (by omega)]; simp
theorem ev_sums_j0 (w l : List Int) (m : Int) (hwl : w.length ≤ 25) (hll : l.length ≤ 25) (a b c d : Int) (hS : Ev (fun k => serial_Sum.f k w m l) (a, b)) (hE : Ev (fun k => serial_Last.f k w m l) (c, d)) (z : Bool)
    (hz : z = false → wtsB w m = true ∧ digs l m = true) (hn : z = true → ¬ (wtsB w m = true ∧ digs l m = true ∧ l.length ≤ 24)) : Ev (fun k => tickinglaw11_SerialSums.j0 k m w l a b c d z) true := by
  cases z with
  | true =>
    have hn := hn rfl
    have w24 : wtsB w m = true → w.length ≤ 24 := fun h => (wts_of h).2.2.2
    obtain ⟨rfl, rfl⟩ := Prod.mk.inj (Ev.uniq hE (ev_sLast_no w l m (by omega) (fun h => hn ⟨h.1, h.2.2, by have := w24 h.1; omega⟩)))
    obtain ⟨rfl, rfl⟩ := Prod.mk.inj (Ev.uniq hS (ev_sSum_no w l m (fun h => hn ⟨h.1, h.2.2, by have := w24 h.1; omega⟩)))
    refine Ev.step (f := fun k => (tickinglaw11_awake.f k).bind fun t => some t) (fun k => ?_) (Ev.bind ev_awake (Ev.now true))
    simp [tickinglaw11_SerialSums.j0]
  | false =>
    obtain ⟨h1, h3⟩ := hz rfl
    have hj := ev_sums_j1 w l m hwl hll h1 h3 c d hE
    by_cases h2 : l.length = w.length
    · obtain ⟨rfl, rfl⟩ := Prod.mk.inj (Ev.uniq hS (ev_sSum_yes w l m h1 h2 h3))
      obtain ⟨p, q, r, s⟩ := wts_of h1
      refine Ev.step (f := fun k => (tickingref11_Sum.f k w m l).bind fun t535 => (if dotN w l l.length % m = t535 then (tickinglaw11_SerialSums.j1 k m w l c d) else (some false))) (fun k => ?_) (Ev.bind (ev_rSum w l m p q r h3 (by omega) (by omega)) (by simpa using hj))
      simp only [tickinglaw11_SerialSums.j0, Bool.false_eq_true, if_false]; rw [if_pos (by omega)]; simp
    · obtain ⟨rfl, rfl⟩ := Prod.mk.inj (Ev.uniq hS (ev_sSum_no w l m (fun h => h2 h.2.1)))
      refine Ev.step (fun k => ?_) hj
      simp only [tickinglaw11_SerialSums.j0, Bool.false_eq_true, if_false]; rw [if_neg (by omega)]; simp
theorem ev_SerialSums (l0 : List Int) (a1 : Int) (l2 : List Int) : Ev (fun k => tickinglaw11_SerialSums.f k l0 a1 l2) true := by
  have hl : ∀ l, tickinglaw11_list.f l = some (l.take 25) := fun _ => rfl
  have hw : (l0.take 25).length ≤ 25 := by simp; omega
  have hll : (l2.take 25).length ≤ 25 := by simp; omega
  unfold tickinglaw11_SerialSums.f
  simp only [hl, Option.bind_some]
  generalize l0.take 25 = w at *
  generalize l2.take 25 = l at *
  obtain ⟨a, b, hS⟩ : ∃ a b, Ev (fun k => serial_Sum.f k w a1 l) (a, b) := by
    by_cases h : wtsB w a1 = true ∧ l.length = w.length ∧ digs l a1 = true
    · exact ⟨_, _, ev_sSum_yes w l a1 h.1 h.2.1 h.2.2⟩
    · exact ⟨_, _, ev_sSum_no w l a1 h⟩
  obtain ⟨c, d, hE⟩ : ∃ a b, Ev (fun k => serial_Last.f k w a1 l) (a, b) := by
    by_cases h : wtsB w a1 = true ∧ l.length + 1 = w.length ∧ digs l a1 = true
    · obtain ⟨r, ok, e1, _⟩ := ev_Last w l a1 h.1 h.2.1 h.2.2; exact ⟨_, _, e1⟩
    · exact ⟨_, _, ev_sLast_no w l a1 (by omega) h⟩
  refine Ev.bind hS (Ev.bind hE (Ev.bind (ev_Weighted w a1 (by omega)) ?_))
  cases h1 : wtsB w a1 with
  | false =>
    simp only [Bool.false_eq_true, if_false]
    exact ev_sums_j0 w l a1 hw hll a b c d hS hE true (by simp) (fun _ h => by rw [h1] at h; cases h.1)
  | true =>
    simp only [if_true]
    refine Ev.bind (ev_Digits l 24 a1 (by omega)) ?_
    refine ev_sums_j0 w l a1 hw hll a b c d hS hE _ (fun h => ?_) (fun h h' => ?_)
    · simp at h; exact ⟨h1, h.1⟩
    · simp [h'.2.1] at h; omega
end Go.Proofs.Ytdkncfmlehcjmaa.X
namespace Go.Proofs.Ytdkncfmlehcjmaa.Pure
open Go.Proofs.Ytdkncfmlehcjmaa.X Go.Proofs.YtdkncfmlehcjmaaW.PrintWords
theorem SerialSums : ∀ (l0 : List Int) (a1 : Int) (l2 : List Int), l0.length ≤ maxLen → (∀ x ∈ l0, (Lit.int .i64 x).wf = true) → (Lit.int .i64 a1).wf = true → l2.length ≤ maxLen → (∀ x ∈ l2, (Lit.int .i64 x).wf = true) → ∃ k, tickinglaw11_SerialSums.f k l0 a1 l2 = some true := fun l0 a1 l2 _ _ _ _ _ => by
  obtain ⟨k, hk⟩ := ev_SerialSums l0 a1 l2
  exact ⟨k, hk k (Nat.le_refl _)⟩
end Go.Proofs.Ytdkncfmlehcjmaa.Pure
