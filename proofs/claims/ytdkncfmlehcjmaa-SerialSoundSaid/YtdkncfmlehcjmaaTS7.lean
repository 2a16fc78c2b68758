/- What one changed digit and two changed places do to a trace. -/
import Derived.Test.YtdkncfmlehcjmaaTS5
set_option linter.unusedVariables false
set_option linter.unusedSimpArgs false
namespace Go.Proofs.Ytdkncfmlehcjmaa.X
open Go.RowKit Go.Proofs.YtdkncfmlehcjmaaW.PrintWords
theorem col_inj {t : List (List Int)} (ht : TabOk t) (x y d : Int) (x0 : 0 ≤ x) (x1 : x < t.length) (y0 : 0 ≤ y) (y1 : y < t.length) (d0 : 0 ≤ d) (d1 : d < t.length) (e : rd (rd_L1 t x) d = rd (rd_L1 t y) d) : x = y := by
  obtain ⟨n, q, C⟩ := ht.cells
  have hl := C.len
  have a1 := C.at_ x.toNat d.toNat (by omega) (by omega)
  have a2 := C.at_ y.toNat d.toNat (by omega) (by omega)
  rw [Int.toNat_of_nonneg x0, Int.toNat_of_nonneg d0] at a1
  rw [Int.toNat_of_nonneg y0, Int.toNat_of_nonneg d0] at a2
  have := C.c d.toNat x.toNat y.toNat (by omega) (by omega) (by omega) (by omega)
  omega
theorem row_inj {t : List (List Int)} (ht : TabOk t) (x c d : Int) (x0 : 0 ≤ x) (x1 : x < t.length) (c0 : 0 ≤ c) (c1 : c < t.length) (d0 : 0 ≤ d) (d1 : d < t.length) (e : rd (rd_L1 t x) c = rd (rd_L1 t x) d) : c = d := by
  obtain ⟨n, q, C⟩ := ht.cells
  have hl := C.len
  have a1 := C.at_ x.toNat c.toNat (by omega) (by omega)
  have a2 := C.at_ x.toNat d.toNat (by omega) (by omega)
  rw [Int.toNat_of_nonneg x0, Int.toNat_of_nonneg c0] at a1
  rw [Int.toNat_of_nonneg x0, Int.toNat_of_nonneg d0] at a2
  have := C.r x.toNat c.toNat d.toNat (by omega) (by omega) (by omega) (by omega)
  omega
theorem digs_cons {l : List Int} {n d : Int} : digs (d :: l) n = true ↔ (0 ≤ d ∧ d < n) ∧ digs l n = true := by
  unfold digs; simp
theorem digs_app {l r : List Int} {n : Int} : digs (l ++ r) n = true ↔ digs l n = true ∧ digs r n = true := by
  unfold digs; simp
theorem traceP_app (t : List (List Int)) (x : Int) (l r : List Int) : traceP t x (l ++ r) = traceP t (traceP t x l) r := by simp [traceP, List.foldl_append]
theorem traceP_cons (t : List (List Int)) (x d : Int) (l : List Int) : traceP t x (d :: l) = traceP t (rd (rd_L1 t x) d) l := rfl
theorem trace_inj {t : List (List Int)} (ht : TabOk t) (l : List Int) : ∀ x y : Int, digs l t.length = true → 0 ≤ x → x < t.length → 0 ≤ y → y < t.length → traceP t x l = traceP t y l → x = y := by
  induction l with
  | nil => intro x y _ _ _ _ _ e; exact e
  | cons d l ih =>
    intro x y hl x0 x1 y0 y1 e
    rw [digs_cons] at hl
    have c1 := tab_cell ht x d x0 x1 hl.1.1 hl.1.2
    have c2 := tab_cell ht y d y0 y1 hl.1.1 hl.1.2
    exact col_inj ht x y d x0 x1 y0 y1 hl.1.1 hl.1.2 (ih _ _ hl.2 c1.1 c1.2 c2.1 c2.2 e)
/-- One digit changed: the trace stays only if the digit does. -/
theorem trace_one {t : List (List Int)} (ht : TabOk t) (A B : List Int) (c d : Int) (hA : digs A t.length = true) (hB : digs B t.length = true) (c0 : 0 ≤ c) (c1 : c < t.length) (d0 : 0 ≤ d) (d1 : d < t.length) : traceP t 0 (A ++ c :: B) = traceP t 0 (A ++ d :: B) ↔ c = d := by
  have n2 := ht.1
  have hi := trace_in ht A hA 0 (by omega) (by omega)
  have h1 := tab_cell ht _ c hi.1 hi.2 c0 c1
  have h2 := tab_cell ht _ d hi.1 hi.2 d0 d1
  constructor
  · intro e
    rw [traceP_app, traceP_app, traceP_cons, traceP_cons] at e
    exact row_inj ht _ c d hi.1 hi.2 c0 c1 d0 d1 (trace_inj ht B _ _ hB h1.1 h1.2 h2.1 h2.2 e)
  · rintro rfl; rfl
/-- Two neighbours exchanged: the trace stays only if they are alike, where no three weigh alike. -/
theorem trace_two {t : List (List Int)} (ht : TabOk t) (A B : List Int) (c d : Int) (hA : digs A t.length = true) (hB : digs B t.length = true) (c0 : 0 ≤ c) (c1 : c < t.length) (d0 : 0 ≤ d) (d1 : d < t.length)
    (hw : ∀ x : Int, 0 ≤ x → x < t.length → rd (rd_L1 t (rd (rd_L1 t x) c)) d = rd (rd_L1 t (rd (rd_L1 t x) d)) c → c = d) : traceP t 0 (A ++ c :: d :: B) = traceP t 0 (A ++ d :: c :: B) ↔ c = d := by
  have n2 := ht.1
  have hi := trace_in ht A hA 0 (by omega) (by omega)
  have h1 := tab_cell ht _ c hi.1 hi.2 c0 c1
  have h2 := tab_cell ht _ d hi.1 hi.2 d0 d1
  have h3 := tab_cell ht _ d h1.1 h1.2 d0 d1
  have h4 := tab_cell ht _ c h2.1 h2.2 c0 c1
  constructor
  · intro e
    rw [traceP_app, traceP_app, traceP_cons, traceP_cons, traceP_cons, traceP_cons] at e
    exact hw _ hi.1 hi.2 (trace_inj ht B _ _ hB h3.1 h3.2 h4.1 h4.2 e)
  · rintro rfl; rfl
theorem split_one (l : List Int) (i : Nat) (h : i < l.length) : l = l.take i ++ l[i] :: l.drop (i + 1) := by
  rw [← List.drop_eq_getElem_cons h, List.take_append_drop]
theorem split_two (l : List Int) (i : Nat) (h : i + 1 < l.length) : l = l.take i ++ l[i] :: l[i + 1] :: l.drop (i + 2) := by
  rw [← List.drop_eq_getElem_cons h, ← List.drop_eq_getElem_cons (by omega : i < l.length), List.take_append_drop]
theorem set_one (l : List Int) (i : Nat) (h : i < l.length) (v : Int) : l.set i v = l.take i ++ v :: l.drop (i + 1) := List.set_eq_take_append_cons_drop .. |>.trans (by rw [if_pos h])
theorem set_two (l : List Int) (i : Nat) (h : i + 1 < l.length) (u v : Int) : (l.set i u).set (i + 1) v = l.take i ++ u :: v :: l.drop (i + 2) := by
  have hl := split_two l i h
  have hA : (l.take i).length = i := by simp; omega
  generalize l.take i = A at *
  generalize l.drop (i + 2) = B at *
  generalize l[i] = c at *
  generalize l[i + 1] = d at *
  subst hl
  subst hA
  simp [List.set_append]
theorem ev_sTrace' {t : List (List Int)} (ht : TabOk t) (l : List Int) (hl : digs l t.length = true) (hn : l.length ≤ 24) : Ev (fun k => serial_Trace.f k t l) (traceP t 0 l, 0) := by
  have := sTrace_eq t l (by omega) (by have := ht.2.1; omega)
  rwa [isTabOk ht, hl, decide_eq_true (show (l.length : Int) ≤ 24 by omega), if_pos (by rfl)] at this
end Go.Proofs.Ytdkncfmlehcjmaa.X
