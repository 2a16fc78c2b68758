/- SerialParts: the trace of a number over a table taken by its first digits and then its last one is the trace of the whole. Tables and digits are made from whatever comes in. -/
import Derived.Test.YtdkncfmlehcjmaaX3
import Derived.Test.YtdkncfmlehcjmaaS3
set_option linter.unusedVariables false
set_option linter.unusedSimpArgs false
namespace Go.Proofs.Ytdkncfmlehcjmaa.X
open Go.RowKit Go.Proofs.YtdkncfmlehcjmaaW.PrintWords
theorem traceP_snoc (t : List (List Int)) (x : Int) (l : List Int) (d : Int) : traceP t x (l ++ [d]) = rd (rd_L1 t (traceP t x l)) d := by
  simp [traceP, List.foldl_append]
theorem digs_snoc (l : List Int) (n d : Int) (h : digs l n = true) (h0 : 0 ≤ d) (h1 : d < n) : digs (l ++ [d]) n = true := by
  unfold digs at *; simp only [List.all_append, h, Bool.true_and, List.all_cons, List.all_nil, Bool.and_true, Bool.and_eq_true, decide_eq_true_eq]; exact ⟨h0, h1⟩
theorem isTab_of {t : List (List Int)} (h : TabOk t) : isTab t = true := decide_eq_true h
theorem ev_sTrace {t : List (List Int)} (ht : TabOk t) (l : List Int) (hl : digs l t.length = true) (hn : l.length ≤ 24) : Ev (fun k => serial_Trace.f k t l) (traceP t 0 l, 0) := by
  have := sTrace_eq t l (by omega) (by have := ht.2.1; omega)
  rwa [isTab_of ht, hl, decide_eq_true (show (l.length : Int) ≤ 24 by omega), if_pos (by rfl)] at this
theorem list_id (l : List Int) (h : l.length ≤ 24) (k : Nat) : tickinglaw11_list.f l = some l := by
  have : tickinglaw11_list.f l = some (l.take 25) := rfl
  rw [this, List.take_of_length_le (by omega)]
theorem ev_SerialParts (l0 : List (List Int)) (l1 : List Int) (a2 : Int) (h0 : l0.length ≤ maxLen) : Ev (fun k => tickinglaw11_SerialParts.f k l0 l1 a2) true := by
  obtain ⟨t, ht, hl, ev⟩ := ev_tame l0 12 (by omega) (by omega) h0
  have hn : 2 ≤ t.length := ht.1
  have hd := digitsOf_digs l1 23 (t.length : Int) (by omega)
  have hdl := digitsOf_len l1 23 (t.length : Int)
  have hm := modN_in a2 (t.length : Int) (by omega)
  have hd2 := digs_snoc _ _ _ hd hm.1 hm.2
  have hi := trace_in ht _ hd 0 (by omega) (by omega)
  have hr := tab_row ht _ hi.1 hi.2
  refine Ev.bind ev (Ev.bind (ev_digits l1 23 _ (by omega) (by omega) (by omega)) ?_)
  rw [show tickinglaw11_mod.f a2 (t.length : Int) = some (modN a2 t.length) from mod_eq _ _ (by omega) (by omega)]
  simp only [Option.bind_some]
  refine Ev.bind (ev_sTrace ht _ hd (by omega)) ?_
  rw [list_id _ (by omega) 0]
  simp only [Option.bind_some]
  refine Ev.congr (f := fun k => (serial_Trace.f k t (digitsOf l1 23 (t.length : Int) ++ [modN a2 t.length])).bind fun bt322 => if bt322.2 = 0 then (if bt322.1 = rd (rd_L1 t (traceP t 0 (digitsOf l1 23 (t.length : Int)))) (modN a2 t.length) then (tickinglaw11_awake.f k).bind fun t326 => some t326 else some false) else some false) (fun k => ?_) ?_
  · rw [if_pos (by omega)]
    congr 1; funext bt
    by_cases hb : bt.2 = 0
    · rw [if_pos trivial, if_pos hb, if_pos hi.1, if_pos hi.2, if_pos hi.1, if_pos hm.1, if_pos (by rw [hr]; exact hm.2), if_pos hb]
    · rw [if_pos trivial, if_neg hb, if_neg hb]
  · refine Ev.bind (ev_sTrace ht _ hd2 (by simp; omega)) ?_
    simp only [traceP_snoc, if_true]
    exact Ev.bind ev_awake (Ev.now true)
end Go.Proofs.Ytdkncfmlehcjmaa.X
namespace Go.Proofs.Ytdkncfmlehcjmaa.Pure
open Go.Proofs.Ytdkncfmlehcjmaa.X Go.Proofs.YtdkncfmlehcjmaaW.PrintWords
theorem SerialParts : ∀ (l0 : List (List Int)) (l1 : List Int) (a2 : Int), l0.length ≤ maxLen → (∀ r ∈ l0, ∀ x ∈ r, (Lit.int .i64 x).wf = true) → l1.length ≤ maxLen → (∀ x ∈ l1, (Lit.int .i64 x).wf = true) → (Lit.int .i64 a2).wf = true → ∃ k, tickinglaw11_SerialParts.f k l0 l1 a2 = some true := fun l0 l1 a2 h0 _ _ _ _ => by
  obtain ⟨k, hk⟩ := ev_SerialParts l0 l1 a2 h0
  exact ⟨k, hk k (Nat.le_refl _)⟩
end Go.Proofs.Ytdkncfmlehcjmaa.Pure
