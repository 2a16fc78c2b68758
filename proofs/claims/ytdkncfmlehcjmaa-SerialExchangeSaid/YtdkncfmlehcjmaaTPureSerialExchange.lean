/- SerialExchange: a fine table's trace changes when two unlike neighbours change places. -/
import Derived.Test.YtdkncfmlehcjmaaTX5
import Derived.Test.YtdkncfmlehcjmaaTS7
set_option linter.unusedVariables false
set_option linter.unusedSimpArgs false
namespace Go.Proofs.Ytdkncfmlehcjmaa.X
open Go.RowKit Go.Proofs.YtdkncfmlehcjmaaW.PrintWords
def noWeak (t : List (List Int)) : Bool := (List.range t.length).all fun x => (List.range t.length).all fun c => (List.range t.length).all fun d => c == d || rd (rd_L1 t (rd (rd_L1 t (x : Int)) (c : Int))) (d : Int) != rd (rd_L1 t (rd (rd_L1 t (x : Int)) (d : Int))) (c : Int)
/-- The fine tables, row by row. -/
def fineT : Nat → List (List Int)
  | 3 => [[0, 1, 2], [2, 0, 1], [1, 2, 0]]
  | 5 => [[0, 1, 2, 3, 4], [2, 3, 4, 0, 1], [4, 0, 1, 2, 3], [1, 2, 3, 4, 0], [3, 4, 0, 1, 2]]
  | 7 => [[0, 1, 2, 3, 4, 5, 6], [2, 3, 4, 5, 6, 0, 1], [4, 5, 6, 0, 1, 2, 3], [6, 0, 1, 2, 3, 4, 5], [1, 2, 3, 4, 5, 6, 0], [3, 4, 5, 6, 0, 1, 2], [5, 6, 0, 1, 2, 3, 4]]
  | 9 => [[0, 1, 2, 3, 4, 5, 6, 7, 8], [2, 3, 4, 5, 6, 7, 8, 0, 1], [4, 5, 6, 7, 8, 0, 1, 2, 3], [6, 7, 8, 0, 1, 2, 3, 4, 5], [8, 0, 1, 2, 3, 4, 5, 6, 7], [1, 2, 3, 4, 5, 6, 7, 8, 0], [3, 4, 5, 6, 7, 8, 0, 1, 2], [5, 6, 7, 8, 0, 1, 2, 3, 4], [7, 8, 0, 1, 2, 3, 4, 5, 6]]
  | 11 => [[0, 1, 2, 3, 4, 5, 6, 7, 8, 9, 10], [2, 3, 4, 5, 6, 7, 8, 9, 10, 0, 1], [4, 5, 6, 7, 8, 9, 10, 0, 1, 2, 3], [6, 7, 8, 9, 10, 0, 1, 2, 3, 4, 5], [8, 9, 10, 0, 1, 2, 3, 4, 5, 6, 7], [10, 0, 1, 2, 3, 4, 5, 6, 7, 8, 9], [1, 2, 3, 4, 5, 6, 7, 8, 9, 10, 0], [3, 4, 5, 6, 7, 8, 9, 10, 0, 1, 2], [5, 6, 7, 8, 9, 10, 0, 1, 2, 3, 4], [7, 8, 9, 10, 0, 1, 2, 3, 4, 5, 6], [9, 10, 0, 1, 2, 3, 4, 5, 6, 7, 8]]
  | _ => []
def exChk1 (m : Nat) : Bool := serial_Fine.f 3000 (m : Int) == some (2, 1, 0)
def exChk2 (m : Nat) : Bool := serial_Linear.f 3000 (m : Int) 2 1 == some (fineT m, 0)
def exChk3 (m : Nat) : Bool := serial_Weak.f 3000 (fineT m) == some (0, 0, 0, 6)
def exChk4 (m : Nat) : Bool := isTab (fineT m)
def exChk5 (m : Nat) : Bool := ((fineT m).length == m) && noWeak (fineT m)
set_option maxRecDepth 1000000 in
theorem ex_1 : [3, 5, 7, 9, 11].all exChk1 = true := by decide +kernel
set_option maxRecDepth 1000000 in
theorem ex_2 : [3, 5, 7, 9, 11].all exChk2 = true := by decide +kernel
set_option maxRecDepth 1000000 in
theorem ex_4 : [3, 5, 7, 9, 11].all exChk4 = true := by decide +kernel
set_option maxRecDepth 1000000 in
theorem ex_5 : [3, 5, 7, 9, 11].all exChk5 = true := by decide +kernel
set_option maxRecDepth 1000000 in
theorem ex_3 : [3, 5, 7, 9, 11].all exChk3 = true := by decide +kernel
theorem ex_fine (m : Int) (hm : m ∈ [3, 5, 7, 9, 11]) : ∃ p q t a b c, Ev (fun k => serial_Fine.f k m) (p, q, 0) ∧ Ev (fun k => serial_Linear.f k m p q) (t, 0) ∧ Ev (fun k => serial_Weak.f k t) (a, b, c, 6) ∧ TabOk t ∧ (t.length : Int) = m ∧ noWeak t = true := by
  obtain ⟨n, rfl, hn⟩ : ∃ n : Nat, m = n ∧ n ∈ [3, 5, 7, 9, 11] := by
    simp only [List.mem_cons, List.not_mem_nil, or_false] at hm ⊢
    exact ⟨m.toNat, by omega, by omega⟩
  have h1 := List.all_eq_true.1 ex_1 n hn
  have h2 := List.all_eq_true.1 ex_2 n hn
  have h3 := List.all_eq_true.1 ex_3 n hn
  have h4 := List.all_eq_true.1 ex_4 n hn
  have h5 := List.all_eq_true.1 ex_5 n hn
  unfold exChk1 at h1
  unfold exChk2 at h2
  unfold exChk3 at h3
  unfold exChk4 at h4
  unfold exChk5 at h5
  rw [beq_iff_eq] at h1 h2 h3
  rw [Bool.and_eq_true, beq_iff_eq] at h5
  exact ⟨2, 1, fineT n, 0, 0, 0, Ev.of (serial_Fine.mono _) h1, Ev.of (serial_Linear.mono _ 2 1) h2, Ev.of (serial_Weak.mono _) h3, of_decide_eq_true h4, by rw [h5.1], h5.2⟩
theorem noWeak_at {t : List (List Int)} (h : noWeak t = true) (x c d : Int) (x0 : 0 ≤ x) (x1 : x < t.length) (c0 : 0 ≤ c) (c1 : c < t.length) (d0 : 0 ≤ d) (d1 : d < t.length) (e : rd (rd_L1 t (rd (rd_L1 t x) c)) d = rd (rd_L1 t (rd (rd_L1 t x) d)) c) : c = d := by
  unfold noWeak at h
  have h1 := List.all_eq_true.1 h x.toNat (by simp; omega)
  have h2 := List.all_eq_true.1 h1 c.toNat (by simp; omega)
  have h3 := List.all_eq_true.1 h2 d.toNat (by simp; omega)
  rw [Int.toNat_of_nonneg x0, Int.toNat_of_nonneg c0, Int.toNat_of_nonneg d0, e] at h3
  simp at h3; omega
theorem exchange_step (t : List (List Int)) (l : List Int) (a2 : Int) (i : Nat) (hi : (i : Int) = modN a2 ((l.length : Int) - 1)) (hi1 : i + 1 < l.length) (hn : l.length ≤ 24) (k : Nat) : tickinglaw11_SerialExchange.j0 (k + 1) a2 t l false = (serial_Trace.f k t l).bind fun bt405 => ((serial_Trace.f k t ((l.set i l[i + 1]).set (i + 1) l[i])).bind fun bt407 => (if bt405.2 = 0 then (if bt407.2 = 0 then (if ((bt405.1 == bt407.1) == (l[i] == l[i + 1])) = true then ((tickinglaw11_awake.f k).bind fun t411 => (some t411)) else (some false)) else (some false)) else (some false))) := by
  have ei : rd l (i : Int) = l[i] := rd_nat l i (by omega)
  have ei1 : rd l ((i : Int) + 1) = l[i + 1] := rd_nat l (i + 1) hi1
  have hli : tickinglaw11_list.f l = some l := (show tickinglaw11_list.f l = some (l.take 25) from rfl).trans (by rw [List.take_of_length_le (by omega)])
  have w1 : wrap64 ((l.length : Int) - 1) = (l.length : Int) - 1 := w64 (by omega) (by omega)
  have w2 : wrap64 ((i : Int) + 1) = (i : Int) + 1 := w64 (by omega) (by omega)
  have hm : tickinglaw11_mod.f a2 ((l.length : Int) - 1) = some (i : Int) := by rw [mod_eq _ _ (by omega) (by omega), hi]
  have n1 : ((i : Int) + 1).toNat = i + 1 := by omega
  simp only [tickinglaw11_SerialExchange.j0, Bool.false_eq_true, if_false]
  rw [if_neg (by omega), w1, hm, Option.bind_some, hli, Option.bind_some, w2, ei, ei1, n1, Int.toNat_natCast, if_pos (by omega), if_pos (by omega), if_pos (by omega), if_pos (by omega), if_pos (by omega), if_pos (by omega)]
theorem ev_exchange_j0 {t : List (List Int)} (ht : TabOk t) (hw : noWeak t = true) (l : List Int) (hl : digs l t.length = true) (hn : l.length ≤ 24) (a2 : Int) : Ev (fun k => tickinglaw11_SerialExchange.j0 k a2 t l false) true := by
  by_cases h2 : l.length < 2
  · refine Ev.step (f := fun k => (tickinglaw11_awake.f k).bind fun t => some t) (fun k => ?_) (Ev.bind ev_awake (Ev.now true))
    simp only [tickinglaw11_SerialExchange.j0, Bool.false_eq_true, if_false]; rw [if_pos (by omega)]
  · have hm := modN_in a2 ((l.length : Int) - 1) (by omega)
    obtain ⟨i, hi⟩ : ∃ i : Nat, (i : Int) = modN a2 ((l.length : Int) - 1) := ⟨(modN a2 ((l.length : Int) - 1)).toNat, by omega⟩
    have hi1 : i + 1 < l.length := by omega
    have hs := split_two l i hi1
    have hset := set_two l i hi1 l[i + 1] l[i]
    have hA : digs (l.take i) t.length = true ∧ (0 ≤ l[i] ∧ l[i] < t.length) ∧ (0 ≤ l[i+1] ∧ l[i+1] < t.length) ∧ digs (l.drop (i + 2)) t.length = true := by
      rw [hs, digs_app, digs_cons, digs_cons] at hl; exact hl
    obtain ⟨hA, hc, hd, hB⟩ := hA
    have hl2 : digs ((l.set i l[i + 1]).set (i + 1) l[i]) t.length = true := by rw [hset, digs_app, digs_cons, digs_cons]; exact ⟨hA, hd, hc, hB⟩
    have htw := trace_two ht _ _ l[i] l[i + 1] hA hB hc.1 hc.2 hd.1 hd.2 (fun x x0 x1 e => noWeak_at hw x _ _ x0 x1 hc.1 hc.2 hd.1 hd.2 e)
    rw [← hs, ← hset] at htw
    have e1 := ev_sTrace' ht l hl hn
    have e2 := ev_sTrace' ht _ hl2 (by simp; omega)
    refine Ev.step (f := fun k => (serial_Trace.f k t l).bind fun bt405 => ((serial_Trace.f k t ((l.set i l[i + 1]).set (i + 1) l[i])).bind fun bt407 => (if bt405.2 = 0 then (if bt407.2 = 0 then (if ((bt405.1 == bt407.1) == (l[i] == l[i + 1])) = true then ((tickinglaw11_awake.f k).bind fun t411 => (some t411)) else (some false)) else (some false)) else (some false)))) (fun k => ?_) ?_
    · exact exchange_step t l a2 i hi hi1 hn k
    · refine Ev.bind e1 (Ev.bind e2 ?_)
      have : ((traceP t 0 l == traceP t 0 ((l.set i l[i + 1]).set (i + 1) l[i])) == (l[i] == l[i + 1])) = true := by
        rw [beq_iff_eq, Bool.eq_iff_iff, beq_iff_eq, beq_iff_eq]; exact htw
      simp only [this, if_true]
      exact Ev.bind ev_awake (Ev.now true)
theorem ev_SerialExchange (a0 : Int) (l1 : List Int) (a2 : Int) : Ev (fun k => tickinglaw11_SerialExchange.f k a0 l1 a2) true := by
  have hm := modN_in a0 5 (by omega)
  obtain ⟨m, hmE⟩ : ∃ m, m = 3 + 2 * modN a0 5 := ⟨_, rfl⟩
  have hmem : m ∈ [3, 5, 7, 9, 11] := by
    simp only [List.mem_cons, List.not_mem_nil, or_false]; omega
  obtain ⟨p, q, t, a, b, c, f1, f2, f3, ht, hlen, hw⟩ := ex_fine m hmem
  unfold tickinglaw11_SerialExchange.f
  simp only [mod_eq a0 5 (by omega) (by omega), Option.bind_some, w64 (x := 2 * modN a0 5) (by omega) (by omega), w64 (x := 3 + 2 * modN a0 5) (by omega) (by omega)]
  simp only [← hmE]
  refine Ev.bind f1 ?_
  simp only [if_true]
  refine Ev.bind f2 (Ev.bind f3 (Ev.bind (ev_digits l1 24 m (by omega) (by omega) (by omega)) ?_))
  simp only [if_true]
  have := ev_exchange_j0 ht hw (digitsOf l1 24 m) (by rw [hlen]; exact digitsOf_digs l1 24 m (by omega)) (digitsOf_len l1 24 m) a2
  simpa using this
end Go.Proofs.Ytdkncfmlehcjmaa.X
namespace Go.Proofs.Ytdkncfmlehcjmaa.Pure
open Go.Proofs.Ytdkncfmlehcjmaa.X Go.Proofs.YtdkncfmlehcjmaaW.PrintWords
theorem SerialExchange : ∀ (a0 : Int) (l1 : List Int) (a2 : Int), (Lit.int .i64 a0).wf = true → l1.length ≤ maxLen → (∀ x ∈ l1, (Lit.int .i64 x).wf = true) → (Lit.int .i64 a2).wf = true → ∃ k, tickinglaw11_SerialExchange.f k a0 l1 a2 = some true := fun a0 l1 a2 _ _ _ _ => by
  obtain ⟨k, hk⟩ := ev_SerialExchange a0 l1 a2
  exact ⟨k, hk k (Nat.le_refl _)⟩
end Go.Proofs.Ytdkncfmlehcjmaa.Pure
