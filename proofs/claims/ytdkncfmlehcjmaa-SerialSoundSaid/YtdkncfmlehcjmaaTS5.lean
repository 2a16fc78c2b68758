/- The cells of a table, the search for a zero in a row, and the searches for three elements that weigh alike and for a group. -/
import Derived.Test.YtdkncfmlehcjmaaTS3
set_option linter.unusedVariables false
set_option linter.unusedSimpArgs false
namespace Go.Proofs.Ytdkncfmlehcjmaa.X
open Go.RowKit Go.Proofs.YtdkncfmlehcjmaaW.PrintWords

theorem isTabOk {t : List (List Int)} (h : TabOk t) : isTab t = true := decide_eq_true h
/-- A table's cells as a function, with rows and columns of distinct numbers. -/
structure Cells (t : List (List Int)) (n : Nat) (q : Nat → Nat → Nat) : Prop where
  n2 : 2 ≤ n
  n12 : n ≤ 12
  len : t.length = n
  row : ∀ a, a < n → (rd_L1 t (a : Int)).length = n
  at_ : ∀ a b, a < n → b < n → rd (rd_L1 t (a : Int)) (b : Int) = (q a b : Int)
  lt : ∀ a b, a < n → b < n → q a b < n
  r : ∀ a i j, a < n → i < n → j < n → q a i = q a j → i = j
  c : ∀ a i j, a < n → i < n → j < n → q i a = q j a → i = j
theorem TabOk.cells {t : List (List Int)} (ht : TabOk t) : ∃ n q, Cells t n q := by
  have hb : ∀ a b : Nat, a < t.length → b < t.length → 0 ≤ rd2 t a b ∧ rd2 t a b < t.length := fun a b ha hb => tab_cell ht a b (by omega) (by omega) (by omega) (by omega)
  have hL := ((tabOk_iff t).1 ht).2.2.2
  refine ⟨t.length, fun a b => (rd2 t a b).toNat, ht.1, ht.2.1, rfl, fun a ha => tab_row ht a (by omega) (by omega), fun a b ha hb' => ?_, fun a b ha hb' => ?_, fun a i j ha hi hj e => ?_, fun a i j ha hi hj e => ?_⟩
  · have := hb a b ha hb'; show rd2 t a b = _; omega
  · have := hb a b ha hb'; omega
  · have h1 := hb a i ha hi
    have h2 := hb a j ha hj
    rcases Nat.lt_trichotomy i j with h | h | h
    · exact absurd (by omega) (hL a ha j hj i h).1
    · exact h
    · exact absurd (by omega) (hL a ha i hi j h).1
  · have h1 := hb i a hi ha
    have h2 := hb j a hj ha
    rcases Nat.lt_trichotomy i j with h | h | h
    · exact absurd (by omega) (hL a ha j hj i h).2
    · exact h
    · exact absurd (by omega) (hL a ha i hi j h).2

/-! ### Distinct numbers below n -/
theorem nodup_le (n : Nat) : ∀ l : List Nat, l.Nodup → (∀ x ∈ l, x < n) → l.length ≤ n := by
  induction n with
  | zero => intro l _ h; cases l with
    | nil => simp
    | cons a l => exact absurd (h a (by simp)) (by omega)
  | succ n ih =>
    intro l h1 h2
    have h3 := ih (l.erase n) (h1.erase n) (fun x hx => by
      rw [h1.mem_erase_iff] at hx
      have := h2 x hx.2
      omega)
    have h4 : (l.erase n).length = if n ∈ l then l.length - 1 else l.length := List.length_erase
    split at h4 <;> omega
theorem Cells.zero {t n q} (C : Cells t n q) (a : Nat) (ha : a < n) : ∃ j, j < n ∧ q a j = 0 := by
  have n2 := C.n2
  refine Classical.byContradiction fun h => ?_
  have h0 : ∀ j, j < n → q a j ≠ 0 := fun j hj e => h ⟨j, hj, e⟩
  have h1 := nodup_le (n - 1) ((List.range n).map fun j => q a j - 1) (by
    rw [List.Nodup, List.pairwise_map, range_pairwise]
    intro i j hij hj e
    have a1 := h0 i (by omega)
    have a2 := h0 j hj
    have := C.r a i j ha (by omega) hj (by omega)
    omega) (by
    intro x hx
    simp only [List.mem_map, List.mem_range] at hx
    obtain ⟨j, hj, rfl⟩ := hx
    have a1 := h0 j hj
    have := C.lt a j ha hj
    omega)
  simp at h1; omega
theorem ev_Index {t n q} (C : Cells t n q) (a j : Nat) (ha : a < n) (hj : j < n) (hz : q a j = 0) (d : Nat) : ∀ i : Nat, i + d = j → Ev (fun k => slices_Index_int_int.l0 k (rd_L1 t (a : Int)) 0 n i) j := by
  have n12 := C.n12
  have hr := C.row a ha
  induction d with
  | zero =>
    intro i hi
    obtain rfl : i = j := by omega
    refine Ev.step (f := fun _ => some (i : Int)) (fun k => ?_) (Ev.now _)
    simp only [slices_Index_int_int.l0]
    rw [if_pos (by omega), if_pos (by omega), if_pos (by omega), C.at_ a i ha hj, if_pos (by omega)]
  | succ d ih =>
    intro i hi
    have : q a i ≠ 0 := fun e => by have := C.r a i j ha (by omega) hj (by omega); omega
    refine Ev.step (fun k => ?_) (ih (i + 1) (by omega))
    simp only [slices_Index_int_int.l0]
    rw [if_pos (by omega), if_pos (by omega), if_pos (by omega), C.at_ a i ha (by omega), if_neg (by omega), w64 (by omega) (by omega)]; rfl
theorem ev_rDigit {t n q} (C : Cells t n q) (a j : Nat) (ha : a < n) (hj : j < n) (hz : q a j = 0) (d : Nat) : ∀ i : Nat, i + d = j → Ev (fun k => tickingref11_Digit.l0 k t a i) j := by
  have n12 := C.n12
  have hr := C.row a ha
  have hl := C.len
  induction d with
  | zero =>
    intro i hi
    obtain rfl : i = j := by omega
    refine Ev.step (f := fun _ => some (i : Int)) (fun k => ?_) (Ev.now _)
    simp only [tickingref11_Digit.l0]
    rw [if_pos (by omega), if_pos (by omega), if_pos (by omega), if_pos (by omega), C.at_ a i ha hj, if_pos (by omega)]
  | succ d ih =>
    intro i hi
    have : q a i ≠ 0 := fun e => by have := C.r a i j ha (by omega) hj (by omega); omega
    refine Ev.step (fun k => ?_) (ih (i + 1) (by omega))
    simp only [tickingref11_Digit.l0]
    rw [if_pos (by omega), if_pos (by omega), if_pos (by omega), if_pos (by omega), C.at_ a i ha (by omega), if_neg (by omega), w64 (by omega) (by omega)]; rfl
/-- The digit that brings a trace to 0: the program's and the reference's. -/
theorem digit_both {t : List (List Int)} (ht : TabOk t) (l : List Int) (hl : digs l t.length = true) (hn : l.length ≤ 1000000) : ∃ j : Int, 0 ≤ j ∧ j < t.length ∧ rd (rd_L1 t (traceP t 0 l)) j = 0 ∧ Ev (fun k => (serial_table_trace.f k t l).bind fun t454 => (if 0 ≤ t454 then (if t454 < (t.length : Int) then ((slices_Index_int_int.f k (rd_L1 t t454) 0).bind fun t456 => some (t456, (0 : Int))) else none) else none)) (j, 0) ∧ Ev (fun k => tickingref11_Digit.f k t l) j := by
  obtain ⟨n, q, C⟩ := ht.cells
  have hln := C.len
  have n2 := C.n2
  have n12 := C.n12
  have hi := trace_in ht l hl 0 (by omega) (by omega)
  have htr := ev_trace ht l hl hn
  have hTr := ev_Trace ht l hl hn
  obtain ⟨a, ha⟩ : ∃ a : Nat, (a : Int) = traceP t 0 l := ⟨(traceP t 0 l).toNat, by omega⟩
  rw [← ha] at hi htr hTr ⊢
  obtain ⟨j, hj, hz⟩ := C.zero a (by omega)
  refine ⟨j, by omega, by omega, by rw [C.at_ a j (by omega) hj, hz]; rfl, ?_, ?_⟩
  · refine Ev.bind htr ?_
    simp only [hi.1, hi.2, if_true]
    have h2 : Ev (fun k => slices_Index_int_int.f k (rd_L1 t (a : Int)) 0) (j : Int) := by
      have := ev_Index C a j (by omega) hj hz j 0 (by omega)
      unfold slices_Index_int_int.f
      rw [C.row a (by omega)]; exact this
    exact Ev.bind h2 (Ev.now _)
  · exact Ev.bind hTr (ev_rDigit C a j (by omega) hj hz j 0 (by omega))
theorem ev_sDigit_yes {t : List (List Int)} (ht : TabOk t) (l : List Int) (hl : digs l t.length = true) (hn : l.length ≤ 23) : ∃ j : Int, 0 ≤ j ∧ j < t.length ∧ rd (rd_L1 t (traceP t 0 l)) j = 0 ∧ Ev (fun k => serial_Digit.f k t l) (j, 0) ∧ Ev (fun k => tickingref11_Digit.f k t l) j := by
  have n12 := ht.2.1
  obtain ⟨j, h0, h1, h2, h3, h4⟩ := digit_both ht l hl (by omega)
  refine ⟨j, h0, h1, h2, ?_, h4⟩
  refine Ev.congr (f := fun k => serial_Digit.j0 k t l false) (fun k => ?_) (Ev.step (fun k => ?_) h3)
  · unfold serial_Digit.f serial_isTable.f serial_isNumber.f
    simp only [Option.bind_some]
    rw [isNum_eq l t.length 23 (by omega) (by omega), isTabOk ht, hl, decide_eq_true (by omega)]; simp
  · simp only [serial_Digit.j0, Bool.false_eq_true, if_false]
theorem ev_sDigit_no (t : List (List Int)) (l : List Int) (h12 : t.length ≤ 1000000) (h : ¬ (isTab t = true ∧ digs l t.length = true ∧ l.length ≤ 23)) : Ev (fun k => serial_Digit.f k t l) (0, 2) := by
  refine Ev.congr (f := fun k => serial_Digit.j0 k t l true) (fun k => ?_) (Ev.step (f := fun _ => some (0, 2)) (fun k => by simp [serial_Digit.j0]) (Ev.now _))
  unfold serial_Digit.f serial_isTable.f serial_isNumber.f
  simp only [Option.bind_some]
  rw [isNum_eq l t.length 23 (by omega) (by omega)]
  cases h1 : isTab t with
  | false => simp
  | true =>
    have : (digs l t.length && decide ((l.length : Int) ≤ 23)) = false := by
      cases h2 : digs l t.length with
      | false => rfl
      | true =>
        simp only [Bool.true_and]
        exact decide_eq_false (fun h3 => h ⟨h1, h2, by omega⟩)
    rw [this]; simp
theorem ev_sTrace_no (t : List (List Int)) (l : List Int) (hl : l.length ≤ 1000000) (h12 : t.length ≤ 1000000) (h : ¬ (isTab t = true ∧ digs l t.length = true ∧ l.length ≤ 24)) : Ev (fun k => serial_Trace.f k t l) (0, 2) := by
  have := sTrace_eq t l hl h12
  rwa [if_neg] at this
  intro h2
  simp only [Bool.and_eq_true, decide_eq_true_eq] at h2
  exact h ⟨h2.1, h2.2.1, by omega⟩

/-! ### Three that weigh alike -/
def Found (r : Int × Int × Int × Bool) : Prop := r.2.2.2 = true ∨ r = (0, 0, 0, false)
section
variable {t : List (List Int)} {n : Nat} {q : Nat → Nat → Nat} (C : Cells t n q)
include C
theorem weak_2 (x c : Nat) (hx : x < n) (hc : c < n)
    (hn : ∃ r, Found r ∧ Ev (fun k => serial_table_weak.l1 k t x n x n ((c + 1 : Nat) : Int)) r ∧ Ev (fun k => tickingref11_Weak.l1 k t n x ((c + 1 : Nat) : Int)) r) (d : Nat) :
    ∀ e : Nat, e + d = n → ∃ r, Found r ∧ Ev (fun k => serial_table_weak.l2 k t x c e n x n c) r ∧ Ev (fun k => tickingref11_Weak.l2 k t n x c e) r := by
  have n12 := C.n12
  have hl := C.len
  induction d with
  | zero =>
    intro e he
    obtain ⟨r, h1, h2, h3⟩ := hn
    refine ⟨r, h1, Ev.step (fun k => ?_) h2, Ev.step (fun k => ?_) h3⟩
    · simp only [serial_table_weak.l2]; rw [if_neg (by omega), w64 (by omega) (by omega)]; rfl
    · simp only [tickingref11_Weak.l2]; rw [if_neg (by omega), w64 (by omega) (by omega)]; rfl
  | succ d ih =>
    intro e he
    have hrx := C.row x hx
    have a1 := C.at_ x c hx hc
    have a2 := C.at_ x e hx (by omega)
    have b1 := C.lt x c hx hc
    have b2 := C.lt x e hx (by omega)
    have r1 := C.row _ b1
    have r2 := C.row _ b2
    by_cases hw : rd (rd_L1 t ((q x c : Nat) : Int)) e = rd (rd_L1 t ((q x e : Nat) : Int)) c
    · refine ⟨(x, c, e, true), .inl rfl, Ev.step (f := fun _ => some ((x : Int), (c : Int), (e : Int), true)) (fun k => ?_) (Ev.now _), Ev.step (f := fun _ => some ((x : Int), (c : Int), (e : Int), true)) (fun k => ?_) (Ev.now _)⟩
      · simp only [serial_table_weak.l2]
        rw [a1, a2, r1, r2, hrx, hl]
        rw [if_pos (by omega), if_pos (by omega), if_pos (by omega), if_pos (by omega), if_pos (by omega), if_pos (by omega), if_pos (by omega), if_pos (by omega), if_pos (by omega), if_pos (by omega), if_pos (by omega), if_pos (by omega), if_pos (by omega), if_pos hw]
      · simp only [tickingref11_Weak.l2]
        rw [a1, a2, r1, r2, hrx, hl]
        rw [if_pos (by omega), if_pos (by omega), if_pos (by omega), if_pos (by omega), if_pos (by omega), if_pos (by omega), if_pos (by omega), if_pos (by omega), if_pos (by omega), if_pos (by omega), if_pos (by omega), if_pos (by omega), if_pos (by omega), if_pos hw]
    · obtain ⟨r, h1, h2, h3⟩ := ih (e + 1) (by omega)
      refine ⟨r, h1, Ev.step (fun k => ?_) h2, Ev.step (fun k => ?_) h3⟩
      · simp only [serial_table_weak.l2]
        rw [a1, a2, r1, r2, hrx, hl]
        rw [if_pos (by omega), if_pos (by omega), if_pos (by omega), if_pos (by omega), if_pos (by omega), if_pos (by omega), if_pos (by omega), if_pos (by omega), if_pos (by omega), if_pos (by omega), if_pos (by omega), if_pos (by omega), if_pos (by omega), if_neg hw, w64 (by omega) (by omega)]; rfl
      · simp only [tickingref11_Weak.l2]
        rw [a1, a2, r1, r2, hrx, hl]
        rw [if_pos (by omega), if_pos (by omega), if_pos (by omega), if_pos (by omega), if_pos (by omega), if_pos (by omega), if_pos (by omega), if_pos (by omega), if_pos (by omega), if_pos (by omega), if_pos (by omega), if_pos (by omega), if_pos (by omega), if_neg hw, w64 (by omega) (by omega)]; rfl
theorem weak_1 (x : Nat) (hx : x < n)
    (hn : ∃ r, Found r ∧ Ev (fun k => serial_table_weak.l0 k t n ((x + 1 : Nat) : Int)) r ∧ Ev (fun k => tickingref11_Weak.l0 k t n ((x + 1 : Nat) : Int)) r) (d : Nat) :
    ∀ c : Nat, c + d = n → ∃ r, Found r ∧ Ev (fun k => serial_table_weak.l1 k t x n x n c) r ∧ Ev (fun k => tickingref11_Weak.l1 k t n x c) r := by
  have n12 := C.n12
  induction d with
  | zero =>
    intro c hc
    obtain ⟨r, h1, h2, h3⟩ := hn
    refine ⟨r, h1, Ev.step (fun k => ?_) h2, Ev.step (fun k => ?_) h3⟩
    · simp only [serial_table_weak.l1]; rw [if_neg (by omega), w64 (by omega) (by omega)]; rfl
    · simp only [tickingref11_Weak.l1]; rw [if_neg (by omega), w64 (by omega) (by omega)]; rfl
  | succ d ih =>
    intro c hc
    obtain ⟨r, h1, h2, h3⟩ := weak_2 C x c hx (by omega) (ih (c + 1) (by omega)) d (c + 1) (by omega)
    refine ⟨r, h1, Ev.step (fun k => ?_) h2, Ev.step (fun k => ?_) h3⟩
    · simp only [serial_table_weak.l1]; rw [if_pos (by omega), w64 (by omega) (by omega)]; rfl
    · simp only [tickingref11_Weak.l1]; rw [if_pos (by omega), w64 (by omega) (by omega)]; rfl
theorem weak_0 (d : Nat) : ∀ x : Nat, x + d = n → ∃ r, Found r ∧ Ev (fun k => serial_table_weak.l0 k t n x) r ∧ Ev (fun k => tickingref11_Weak.l0 k t n x) r := by
  have hl := C.len
  induction d with
  | zero =>
    intro x hx
    refine ⟨_, .inr rfl, Ev.step (f := fun _ => some (0, 0, 0, false)) (fun k => ?_) (Ev.now _), Ev.step (f := fun _ => some (0, 0, 0, false)) (fun k => ?_) (Ev.now _)⟩
    · simp only [serial_table_weak.l0]; rw [if_neg (by omega)]
    · simp only [tickingref11_Weak.l0]; rw [if_neg (by omega)]
  | succ d ih =>
    intro x hx
    obtain ⟨r, h1, h2, h3⟩ := weak_1 C x (by omega) (ih (x + 1) (by omega)) n 0 (by omega)
    refine ⟨r, h1, Ev.step (fun k => ?_) h2, Ev.step (fun k => ?_) h3⟩
    · simp only [serial_table_weak.l0]; rw [if_pos (by omega), hl]; rfl
    · simp only [tickingref11_Weak.l0]; rw [if_pos (by omega)]; rfl
end
theorem weak_both {t : List (List Int)} (ht : TabOk t) : ∃ r, Found r ∧ Ev (fun k => serial_table_weak.f k t) r ∧ Ev (fun k => tickingref11_Weak.f k t) r := by
  obtain ⟨n, q, C⟩ := ht.cells
  have := weak_0 C n 0 (by omega)
  rw [← C.len] at this
  exact this
theorem ev_sWeak_yes {t : List (List Int)} (ht : TabOk t) : ∃ r, Found r ∧ Ev (fun k => serial_Weak.f k t) (if r.2.2.2 then (r.1, r.2.1, r.2.2.1, 0) else (0, 0, 0, 6)) ∧ Ev (fun k => tickingref11_Weak.f k t) r := by
  obtain ⟨r, h1, h2, h3⟩ := weak_both ht
  refine ⟨r, h1, ?_, h3⟩
  refine Ev.congr (f := fun k => (serial_table_weak.f k t).bind fun bt232 => (if bt232.2.2.2 = true then (some (bt232.1, bt232.2.1, bt232.2.2.1, 0)) else (some (0, 0, 0, 6)))) (fun k => ?_) (Ev.bind h2 ?_)
  · unfold serial_Weak.f serial_isTable.f; rw [isTabOk ht]; rfl
  · cases r.2.2.2 with
    | true => exact Ev.now _
    | false => exact Ev.now _
theorem ev_sWeak_no {t : List (List Int)} (h : isTab t = false) : Ev (fun k => serial_Weak.f k t) (0, 0, 0, 2) := by
  refine Ev.some_ fun k => ?_
  unfold serial_Weak.f serial_isTable.f; rw [h]; rfl
end Go.Proofs.Ytdkncfmlehcjmaa.X
