/- SerialSound: of all last digits only the right one brings a trace to 0, and one changed digit is noticed. -/
import Derived.Test.YtdkncfmlehcjmaaTX8
import Derived.Test.YtdkncfmlehcjmaaTS7
set_option linter.unusedVariables false
set_option linter.unusedSimpArgs false
set_option linter.unusedSectionVars false
namespace Go.Proofs.Ytdkncfmlehcjmaa.X
open Go.RowKit Go.Proofs.YtdkncfmlehcjmaaW.PrintWords
section
variable {t : List (List Int)} (ht : TabOk t) (l : List Int) (hl : digs l t.length = true) (hn : l.length ≤ 23) (c : Int) (c0 : 0 ≤ c) (c1 : c < t.length) (hz : rd (rd_L1 t (traceP t 0 l)) c = 0)
include ht hl hn c0 c1 hz
theorem trace_snoc0 (d : Int) (d0 : 0 ≤ d) (d1 : d < t.length) : traceP t 0 (l ++ [d]) = 0 ↔ d = c := by
  have n2 := ht.1
  have hi := trace_in ht l hl 0 (by omega) (by omega)
  rw [traceP_app]
  show rd (rd_L1 t (traceP t 0 l)) d = 0 ↔ d = c
  constructor
  · intro e
    exact row_inj ht _ d c hi.1 hi.2 d0 d1 c0 c1 (by rw [e, hz])
  · rintro rfl; exact hz
theorem ev_sound_end (a b : Int) : Ev (fun k => ((tickinglaw11_list.f l).bind fun t499 => (if t499.length < 17592186044416 then ((some (t499 ++ [c] : List Int)).bind fun y502 => ((tickinglaw11_mod.f a (y502.length : Int)).bind fun t505 => (if 0 ≤ t505 then (if t505 < (y502.length : Int) then ((tickinglaw11_mod.f b t.length).bind fun t507 => ((some (y502.set (t505 : Int).toNat t507 : List Int)).bind fun y508 => ((serial_Trace.f k t y508).bind fun bt509 => (if bt509.2 = 0 then (if ((bt509.1 == 0) == ((rd y508 t505) == (rd y502 t505))) = true then ((tickinglaw11_awake.f k).bind fun t512 => (some t512)) else (some false)) else (some false))))) else (none)) else (none)))) else (none)))) true := by
  have n2 := ht.1
  have n12 := ht.2.1
  have hli : tickinglaw11_list.f l = some l := (show tickinglaw11_list.f l = some (l.take 25) from rfl).trans (by rw [List.take_of_length_le (by omega)])
  have hp := modN_in a ((l ++ [c]).length : Int) (by simp; omega)
  have hv := modN_in b (t.length : Int) (by omega)
  have hm1 : tickinglaw11_mod.f a ((l ++ [c]).length : Int) = some (modN a ((l ++ [c]).length : Int)) := mod_eq _ _ (by simp; omega) (by simp; omega)
  have hm2 : tickinglaw11_mod.f b (t.length : Int) = some (modN b (t.length : Int)) := mod_eq _ _ (by omega) (by omega)
  obtain ⟨i, hi⟩ : ∃ i : Nat, (i : Int) = modN a ((l ++ [c]).length : Int) := ⟨(modN a ((l ++ [c]).length : Int)).toNat, by omega⟩
  obtain ⟨v, hvE⟩ : ∃ v, v = modN b (t.length : Int) := ⟨_, rfl⟩
  obtain ⟨y, hy⟩ : ∃ y, y = l ++ [c] := ⟨_, rfl⟩
  have hyd : digs y t.length = true := by rw [hy, digs_app, digs_cons]; exact ⟨hl, ⟨c0, c1⟩, rfl⟩
  have hyl : y.length ≤ 24 := by rw [hy]; simp; omega
  rw [← hy] at hi hp hm1
  rw [← hvE] at hv hm2
  have hiy : i < y.length := by omega
  have hyz : traceP t 0 y = 0 := by rw [hy]; exact (trace_snoc0 ht l hl hn c c0 c1 hz c c0 c1).2 rfl
  have hs := split_one y i hiy
  have hset := set_one y i hiy v
  have hA : digs (y.take i) t.length = true ∧ (0 ≤ y[i] ∧ y[i] < t.length) ∧ digs (y.drop (i + 1)) t.length = true := by
    rw [hs, digs_app, digs_cons] at hyd; exact hyd
  have hd2 : digs (y.set i v) t.length = true := by rw [hset, digs_app, digs_cons]; exact ⟨hA.1, hv, hA.2.2⟩
  have h1 := trace_one ht _ _ v y[i] hA.1 hA.2.2 hv.1 hv.2 hA.2.1.1 hA.2.1.2
  rw [← hset, ← hs, hyz] at h1
  have e1 : rd (y.set i v) (i : Int) = v := by rw [rd_nat _ i (by simp; exact hiy)]; simp
  have e2 : rd y (i : Int) = y[i] := rd_nat y i hiy
  refine Ev.congr (f := fun k => (serial_Trace.f k t (y.set i v)).bind fun bt509 => (if bt509.2 = 0 then (if ((bt509.1 == 0) == (v == y[i])) = true then ((tickinglaw11_awake.f k).bind fun t512 => (some t512)) else (some false)) else (some false))) (fun k => ?_) ?_
  · rw [hli, Option.bind_some, if_pos (by omega), ← hy, Option.bind_some, hm1, Option.bind_some, ← hi, if_pos (by omega), if_pos (by omega), hm2, Option.bind_some, Option.bind_some, Int.toNat_natCast, e1, e2]
  · refine Ev.bind (ev_sTrace' ht _ hd2 (by simp; omega)) ?_
    have : ((traceP t 0 (y.set i v) == 0) == (v == y[i])) = true := by
      rw [beq_iff_eq, Bool.eq_iff_iff, beq_iff_eq, beq_iff_eq]; exact h1
    simp only [this, if_true]
    exact Ev.bind ev_awake (Ev.now true)
theorem ev_sound_l0 (a b : Int) (d : Nat) : ∀ i : Nat, i + d = t.length → Ev (fun k => tickinglaw11_SerialSound.l0 k t t.length l c i a b) true := by
  have n2 := ht.1
  have n12 := ht.2.1
  have hli : tickinglaw11_list.f l = some l := (show tickinglaw11_list.f l = some (l.take 25) from rfl).trans (by rw [List.take_of_length_le (by omega)])
  induction d with
  | zero =>
    intro i hi
    refine Ev.step (fun k => ?_) (ev_sound_end ht l hl hn c c0 c1 hz a b)
    simp only [tickinglaw11_SerialSound.l0]; rw [if_neg (by omega)]
  | succ d ih =>
    intro i hi
    have hd : digs (l ++ [(i : Int)]) t.length = true := by rw [digs_app, digs_cons]; exact ⟨hl, ⟨by omega, by omega⟩, rfl⟩
    have h0 := trace_snoc0 ht l hl hn c c0 c1 hz i (by omega) (by omega)
    refine Ev.step (f := fun k => (serial_Trace.f k t (l ++ [(i : Int)])).bind fun bt497 => (if bt497.2 = 0 then (if ((bt497.1 == 0) != ((i : Int) == c)) = true then (some false) else (tickinglaw11_SerialSound.l0 k t t.length l c ((i + 1 : Nat) : Int) a b)) else (some false))) (fun k => ?_) (Ev.bind (ev_sTrace' ht _ hd (by simp; omega)) ?_)
    · simp only [tickinglaw11_SerialSound.l0]
      rw [if_pos (by omega), hli, Option.bind_some, if_pos (by omega), w64 (by omega) (by omega)]; rfl
    · have : ((traceP t 0 (l ++ [(i : Int)]) == 0) != ((i : Int) == c)) = false := by
        rw [bne_eq_false_iff_eq, Bool.eq_iff_iff, beq_iff_eq, beq_iff_eq]; exact h0
      simp only [this, if_true, Bool.false_eq_true, if_false]
      exact ih (i + 1) (by omega)
end
theorem ev_SerialSound (l0 : List (List Int)) (l1 : List Int) (a b : Int) (h0 : l0.length ≤ maxLen) : Ev (fun k => tickinglaw11_SerialSound.f k l0 l1 a b) true := by
  obtain ⟨t, ht, hl, ev⟩ := ev_tame l0 12 (by omega) (by omega) h0
  have n2 := ht.1
  have hd := digitsOf_digs l1 23 (t.length : Int) (by omega)
  obtain ⟨c, c0, c1, hz, hj, _⟩ := ev_sDigit_yes ht _ hd (digitsOf_len l1 23 (t.length : Int))
  refine Ev.bind ev (Ev.bind (ev_digits l1 23 _ (by omega) (by omega) (by omega)) (Ev.bind hj ?_))
  simp only [if_true, show ¬ c < 0 by omega, if_false, decide_eq_false (show ¬ c ≥ (t.length : Int) by omega)]
  refine Ev.step (fun k => ?_) (ev_sound_l0 ht _ hd (digitsOf_len l1 23 (t.length : Int)) c c0 c1 hz a b t.length 0 (by omega))
  simp [tickinglaw11_SerialSound.j0]
end Go.Proofs.Ytdkncfmlehcjmaa.X
namespace Go.Proofs.Ytdkncfmlehcjmaa.Pure
open Go.Proofs.Ytdkncfmlehcjmaa.X Go.Proofs.YtdkncfmlehcjmaaW.PrintWords
theorem SerialSound : ∀ (l0 : List (List Int)) (l1 : List Int) (a2_0 a2_1 : Int), l0.length ≤ maxLen → (∀ r ∈ l0, ∀ x ∈ r, (Lit.int .i64 x).wf = true) → l1.length ≤ maxLen → (∀ x ∈ l1, (Lit.int .i64 x).wf = true) → (Lit.int .i64 a2_0).wf = true → (Lit.int .i64 a2_1).wf = true → ∃ k, tickinglaw11_SerialSound.f k l0 l1 a2_0 a2_1 = some true := fun l0 l1 a b h0 _ _ _ _ _ => by
  obtain ⟨k, hk⟩ := ev_SerialSound l0 l1 a b h0
  exact ⟨k, hk k (Nat.le_refl _)⟩
end Go.Proofs.Ytdkncfmlehcjmaa.Pure
