/- SerialTables: Weak and Group find what the reference finds, or the errors of the document, for all tables. -/
import Derived.Test.YtdkncfmlehcjmaaTX10
import Derived.Test.YtdkncfmlehcjmaaTS6
set_option linter.unusedVariables false
set_option linter.unusedSimpArgs false
namespace Go.Proofs.Ytdkncfmlehcjmaa.X
open Go.RowKit Go.Proofs.YtdkncfmlehcjmaaW.PrintWords
theorem ev_tables_j0 (t : List (List Int)) (ht : TabOk t) (g : Int × Int × Int × Int × Int) (hg : Ev (fun k => serial_Group.f k t) g) : Ev (fun k => tickinglaw11_SerialTables.j0 k t g.1 g.2.2.2.2 false g.2.1 g.2.2.1 g.2.2.2.1) true := by
  obtain ⟨f, ok, r, h1, h2, h3, h4⟩ := group_both ht
  obtain rfl := Ev.uniq hg h2
  refine Ev.step (fun k => by simp only [tickinglaw11_SerialTables.j0, Bool.false_eq_true, if_false]; rfl) (Ev.bind h3 ?_)
  cases ok with
  | false => simp; exact ev_awake
  | true =>
    simp only [if_true]
    refine Ev.bind h4 ?_
    rcases h1 with h1 | rfl
    · simp [Grp, h1]; exact ev_awake
    · simp [Grp]; exact ev_awake
theorem ev_SerialTables (l0 : List (List Int)) : Ev (fun k => tickinglaw11_SerialTables.f k l0) true := by
  have htl := tabOf_len l0
  refine Ev.bind (ev_table l0) ?_
  generalize tabOf l0 = t at *
  cases h : isTab t with
  | false =>
    refine Ev.bind (ev_sWeak_no h) (Ev.bind (ev_sGroup_no h) (Ev.bind (ev_Table t) ?_))
    simp [h]; exact ev_awake
  | true =>
    have ht : TabOk t := of_decide_eq_true h
    obtain ⟨r, h1, h2, h3⟩ := ev_sWeak_yes ht
    obtain ⟨g, hg⟩ : ∃ g, Ev (fun k => serial_Group.f k t) g := by
      obtain ⟨f, ok, r, _, h2, _⟩ := group_both ht; exact ⟨_, h2⟩
    have hj := ev_tables_j0 t ht g hg
    refine Ev.bind h2 (Ev.bind hg (Ev.bind (ev_Table t) ?_))
    rw [h]
    simp only [if_true]
    refine Ev.bind h3 ?_
    rcases h1 with h1 | rfl
    · simp only [h1, if_true]; simpa using hj
    · simpa using hj
end Go.Proofs.Ytdkncfmlehcjmaa.X
namespace Go.Proofs.Ytdkncfmlehcjmaa.Pure
open Go.Proofs.Ytdkncfmlehcjmaa.X Go.Proofs.YtdkncfmlehcjmaaW.PrintWords
theorem SerialTables : ∀ (l0 : List (List Int)), l0.length ≤ maxLen → (∀ r ∈ l0, ∀ x ∈ r, (Lit.int .i64 x).wf = true) → ∃ k, tickinglaw11_SerialTables.f k l0 = some true := fun l0 _ _ => by
  obtain ⟨k, hk⟩ := ev_SerialTables l0
  exact ⟨k, hk k (Nat.le_refl _)⟩
end Go.Proofs.Ytdkncfmlehcjmaa.Pure
