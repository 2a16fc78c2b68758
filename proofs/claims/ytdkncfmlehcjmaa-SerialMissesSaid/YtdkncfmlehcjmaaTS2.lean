/- More of layer 11 in plain words: tables, digits, traces, the digit that makes a number sound. -/
import Derived.Test.YtdkncfmlehcjmaaTS1
import Derived.Test.YtdkncfmlehcjmaaTX35
import Derived.Test.YtdkncfmlehcjmaaTX36
import Derived.Test.YtdkncfmlehcjmaaTX37
import Derived.Test.YtdkncfmlehcjmaaTX38
import Derived.Test.YtdkncfmlehcjmaaTX34
set_option linter.unusedVariables false
set_option linter.unusedSimpArgs false
namespace Go.Proofs.Ytdkncfmlehcjmaa.X
open Go.RowKit Go.Proofs.YtdkncfmlehcjmaaW.PrintWords

/-! ### Copies -/
def tabOf (t : List (List Int)) : List (List Int) := (t.take 13).map fun r => r.take 25
theorem ev_table_l (t : List (List Int)) (d : Nat) : ∀ i, i + d = t.length → Ev (fun k => tickinglaw11_table.l0 k t ((t.take (min i 13)).map fun r => r.take 25) (min i 13 : Nat)) (tabOf t) := by
  induction d with
  | zero =>
    intro i hi
    refine Ev.step (f := fun _ => some (tabOf t)) (fun k => ?_) (Ev.now _)
    simp only [tickinglaw11_table.l0]
    by_cases h : i < 13
    · rw [show min i 13 = i by omega, if_neg (by omega)]
      unfold tabOf; rw [List.take_of_length_le (by omega), List.take_of_length_le (by omega)]
    · rw [show min i 13 = 13 by omega]
      by_cases h2 : t.length = 13
      · rw [if_neg (by omega)]; rfl
      · rw [if_pos (by omega), if_neg (by omega)]; rfl
  | succ d ih =>
    intro i hi
    by_cases h : i < 13
    · have h1 := ih (i + 1) (by omega)
      rw [show min (i + 1) 13 = i + 1 by omega] at h1
      rw [show min i 13 = i by omega]
      refine Ev.step (fun k => ?_) h1
      simp only [tickinglaw11_table.l0]
      rw [if_pos (by omega), if_pos (by omega), if_pos (by omega), rdL_nat t i (by omega)]
      simp only [tickinglaw11_list.f, Option.bind_some]
      have hc : ((t.take i).map fun r => r.take 25).length < 5864062014805 := by rw [List.length_map, List.length_take]; omega
      rw [if_pos hc, w64 (by omega) (by omega), List.take_succ_eq_append_getElem (show i < t.length by omega), List.map_append]; rfl
    · have h1 := ih (i + 1) (by omega)
      rw [show min (i + 1) 13 = 13 by omega] at h1
      rw [show min i 13 = 13 by omega]
      exact h1
theorem ev_table (t : List (List Int)) : Ev (fun k => tickinglaw11_table.f k t) (tabOf t) := by
  have := ev_table_l t t.length 0 (by omega)
  simp only [Nat.zero_le, Nat.min_eq_left, List.take_zero, List.map_nil] at this
  exact this
theorem tabOf_len (t : List (List Int)) : (tabOf t).length ≤ 13 := by simp [tabOf]; omega
theorem tabOf_row (t : List (List Int)) (i : Nat) (h : i < (tabOf t).length) : (tabOf t)[i].length ≤ 25 := by simp [tabOf]; omega

/-! ### Digits -/
theorem Ev.uniq {α : Type} {g : Nat → Option α} {a b : α} (h : Ev g a) (h2 : Ev g b) : a = b := by
  obtain ⟨k, hk⟩ := h
  obtain ⟨k2, hk2⟩ := h2
  have e1 := hk (k + k2) (by omega)
  have e2 := hk2 (k + k2) (by omega)
  rw [e1] at e2; exact Option.some.inj e2
def digs (l : List Int) (n : Int) : Bool := l.all fun d => decide (0 ≤ d) && decide (d < n)
theorem digs_take (l : List Int) (n : Int) (i : Nat) (h : i < l.length) (hb : ¬ (0 ≤ l[i] ∧ l[i] < n)) : digs l n = false := by
  unfold digs; rw [List.all_eq_false]; exact ⟨l[i], List.getElem_mem h, by simpa using hb⟩
theorem digs_at {l : List Int} {n : Int} (h : digs l n = true) (i : Nat) (hi : i < l.length) : 0 ≤ l[i] ∧ l[i] < n := by
  unfold digs at h; rw [List.all_eq_true] at h; simpa using h _ (List.getElem_mem hi)
theorem ev_Digits_l (l : List Int) (most n : Int) (hl : l.length ≤ 1000000000) (d : Nat) : ∀ i, i + d = l.length → (∀ j (h : j < l.length), j < i → 0 ≤ l[j] ∧ l[j] < n) → Ev (fun k => tickingref11_Digits.l0 k l most n i) (digs l n && decide ((l.length : Int) ≤ most)) := by
  induction d with
  | zero =>
    intro i hi hok
    have : digs l n = true := by
      unfold digs; rw [List.all_eq_true]
      intro x hx
      obtain ⟨j, hj, rfl⟩ := List.getElem_of_mem hx
      simpa using hok j hj (by omega)
    rw [this, Bool.true_and]
    refine Ev.step (f := fun _ => some (decide ((l.length : Int) ≤ most))) (fun k => ?_) (Ev.now _)
    simp only [tickingref11_Digits.l0]; rw [if_neg (by omega)]
  | succ d ih =>
    intro i hi hok
    have e := rd_nat l i (by omega)
    by_cases h : 0 ≤ l[i]'(by omega) ∧ l[i]'(by omega) < n
    · refine Ev.step (fun k => ?_) (ih (i + 1) (by omega) (fun j hj h' => by
        by_cases e2 : j = i
        · subst e2; exact h
        · exact hok j hj (by omega)))
      simp only [tickingref11_Digits.l0]
      rw [if_pos (by omega), if_pos (by omega), e, if_neg (by omega), if_neg (by omega), w64 (by omega) (by omega)]; rfl
    · rw [digs_take l n i (by omega) h, Bool.false_and]
      refine Ev.step (f := fun _ => some false) (fun k => ?_) (Ev.now _)
      simp only [tickingref11_Digits.l0]
      rw [if_pos (by omega), if_pos (by omega), e]
      by_cases h0 : l[i]'(by omega) < 0
      · rw [if_pos h0]
      · rw [if_neg h0, if_pos (by omega)]
theorem ev_Digits (l : List Int) (most n : Int) (hl : l.length ≤ 1000000000) : Ev (fun k => tickingref11_Digits.f k l most n) (digs l n && decide ((l.length : Int) ≤ most)) :=
  ev_Digits_l l most n hl l.length 0 (by omega) (by intro j _ h; omega)
theorem isNum_eq (l : List Int) (n most : Int) (h0 : -9223372036854775807 ≤ n) (h1 : n ≤ 9223372036854775807) : isNum l n most = (digs l n && decide ((l.length : Int) ≤ most)) := by
  unfold isNum digs
  rw [Bool.and_comm]
  congr 1
  congr 1
  funext d
  unfold digOk
  rw [w64 (by omega) (by omega)]
  congr 1
  simp only [decide_eq_decide]
  omega

/-! ### Tables -/
theorem range_pairwise {R : Nat → Nat → Prop} (n : Nat) : (List.range n).Pairwise R ↔ ∀ i j, i < j → j < n → R i j := by
  rw [List.pairwise_iff_getElem]
  constructor
  · intro h i j hij hj
    have := h i j (by simp; omega) (by simp; omega) hij
    simpa using this
  · intro h i j hi hj hij
    simp at hi hj
    simpa using h i j hij hj
/-- In each list and at each position no number comes twice. -/
def Latin (t : List (List Int)) : Prop := ∀ i, i < t.length → ∀ j, j < t.length → ∀ k, k < j → rd2 t i k ≠ rd2 t i j ∧ rd2 t k i ≠ rd2 t j i
theorem latin_R (t : List (List Int)) : (seenR t t.length 0).Nodup ↔ ∀ i, i < t.length → ∀ j, j < t.length → ∀ k, k < j → rd2 t i k ≠ rd2 t i j := by
  simp only [seenR, List.range_zero, List.map_nil, List.append_nil, List.Nodup, List.pairwise_flatMap, List.pairwise_map, range_pairwise, List.mem_range, List.mem_map]
  constructor
  · intro h i hi j hj k hk e
    exact h.1 i hi k j hk hj (by rw [e])
  · intro h
    refine ⟨fun i hi k j hk hj e => h i hi j hj k hk (by simpa using e), ?_⟩
    intro i j hij hj x hx y hy e
    obtain ⟨p, _, rfl⟩ := hx
    obtain ⟨q, _, rfl⟩ := hy
    simp at e
    omega
theorem latin_C (t : List (List Int)) : (seenC t t.length 0).Nodup ↔ ∀ i, i < t.length → ∀ j, j < t.length → ∀ k, k < j → rd2 t k i ≠ rd2 t j i := by
  simp only [seenC, List.range_zero, List.map_nil, List.append_nil, List.Nodup, List.pairwise_flatMap, List.pairwise_map, range_pairwise, List.mem_range, List.mem_map]
  constructor
  · intro h i hi j hj k hk e
    exact h.2 k j hk hj _ ⟨i, hi, rfl⟩ _ ⟨i, hi, rfl⟩ (by rw [e])
  · intro h
    refine ⟨fun i hi k j hk hj e => by simp at e; omega, ?_⟩
    intro k j hk hj x hx y hy e
    obtain ⟨p, hp, rfl⟩ := hx
    obtain ⟨q, hq, rfl⟩ := hy
    simp at e
    obtain ⟨e1, e2⟩ := e
    have : p = q := by omega
    subst this
    exact h p hp j hj k hk e2
theorem tabOk_iff (t : List (List Int)) : TabOk t ↔ 2 ≤ t.length ∧ t.length ≤ 12 ∧ (∀ a, a < t.length → rowOk t a) ∧ Latin t := by
  unfold TabOk
  rw [latin_R, latin_C]
  unfold Latin
  constructor
  · rintro ⟨h1, h2, h3, h4, h5⟩
    exact ⟨h1, h2, h3, fun i hi j hj k hk => ⟨h4 i hi j hj k hk, h5 i hi j hj k hk⟩⟩
  · rintro ⟨h1, h2, h3, h4⟩
    exact ⟨h1, h2, h3, fun i hi j hj k hk => (h4 i hi j hj k hk).1, fun i hi j hj k hk => (h4 i hi j hj k hk).2⟩

section
variable {t : List (List Int)} (h1 : 2 ≤ t.length) (h2 : t.length ≤ 12)
theorem rd2_rd (a b : Nat) : rd (rd_L1 t (a : Int)) (b : Int) = rd2 t a b := rfl
/-- What has been looked at so far stands no word against a table. -/
def okTo (t : List (List Int)) (i j : Nat) : Prop := ∀ a b, (a < i ∧ b < t.length ∨ a = i ∧ b < j) → (0 ≤ rd2 t a b ∧ rd2 t a b ≤ (t.length : Int) - 1) ∧ ∀ k, k < b → rd2 t a k ≠ rd2 t a b ∧ rd2 t k a ≠ rd2 t b a
theorem isTab_false_of (h : ¬ TabOk t) : isTab t = false := decide_eq_false h
include h1 h2 in
theorem isTab_true_of (hlen : ∀ a, a < t.length → (rd_L1 t (a : Int)).length = t.length) (hok : okTo t t.length 0) : isTab t = true := by
  refine decide_eq_true ((tabOk_iff t).2 ⟨h1, h2, fun a ha => ⟨hlen a ha, fun b hb => (hok a b (.inl ⟨ha, hb⟩)).1⟩, fun i hi j hj k hk => (hok i j (.inl ⟨hi, hj⟩)).2 k hk⟩)
include h1 h2 in
theorem ev_Table_3 (hlen : ∀ a, a < t.length → (rd_L1 t (a : Int)).length = t.length) (i j : Nat) (hi : i < t.length) (hj : j < t.length)
    (hn : (∀ k, k < j → rd2 t i k ≠ rd2 t i j ∧ rd2 t k i ≠ rd2 t j i) → Ev (fun k => tickingref11_Table.l2 k t t.length i ((j + 1 : Nat) : Int)) (isTab t)) (d : Nat) : ∀ k : Nat, k + d = j → (∀ k', k' < k → rd2 t i k' ≠ rd2 t i j ∧ rd2 t k' i ≠ rd2 t j i) → Ev (fun q => tickingref11_Table.l3 q t t.length i j k) (isTab t) := by
  induction d with
  | zero =>
    intro k hk hok
    obtain rfl : k = j := by omega
    refine Ev.step (fun q => ?_) (hn hok)
    simp only [tickingref11_Table.l3]; rw [if_neg (by omega), w64 (by omega) (by omega)]; rfl
  | succ d ih =>
    intro k hk hok
    have hli := hlen i hi
    have hlk := hlen k (by omega)
    have hlj := hlen j hj
    by_cases e1 : rd2 t i k = rd2 t i j
    · have hf : isTab t = false := isTab_false_of (fun h => (((tabOk_iff t).1 h).2.2.2 i hi j hj k (by omega)).1 e1)
      rw [hf]
      refine Ev.step (f := fun _ => some false) (fun q => ?_) (Ev.now _)
      simp only [tickingref11_Table.l3]
      rw [if_pos (by omega), if_pos (by omega), if_pos (by omega), if_pos (by omega), if_pos (by omega), if_pos (by omega), if_pos (by omega), if_pos (show rd (rd_L1 t (i : Int)) (k : Int) = rd (rd_L1 t (i : Int)) (j : Int) from e1)]
    · by_cases e2 : rd2 t k i = rd2 t j i
      · have hf : isTab t = false := isTab_false_of (fun h => (((tabOk_iff t).1 h).2.2.2 i hi j hj k (by omega)).2 e2)
        rw [hf]
        refine Ev.step (f := fun _ => some false) (fun q => ?_) (Ev.now _)
        simp only [tickingref11_Table.l3]
        rw [if_pos (by omega), if_pos (by omega), if_pos (by omega), if_pos (by omega), if_pos (by omega), if_pos (by omega), if_pos (by omega), if_neg (show ¬ rd (rd_L1 t (i : Int)) (k : Int) = rd (rd_L1 t (i : Int)) (j : Int) from e1), if_pos (by omega), if_pos (by omega), if_pos (by omega), if_pos (by omega), if_pos (show rd (rd_L1 t (k : Int)) (i : Int) = rd (rd_L1 t (j : Int)) (i : Int) from e2)]
      · refine Ev.step (fun q => ?_) (ih (k + 1) (by omega) (fun k' hk' => by
          by_cases e : k' = k
          · subst e; exact ⟨e1, e2⟩
          · exact hok k' (by omega)))
        simp only [tickingref11_Table.l3]
        rw [if_pos (by omega), if_pos (by omega), if_pos (by omega), if_pos (by omega), if_pos (by omega), if_pos (by omega), if_pos (by omega), if_neg (show ¬ rd (rd_L1 t (i : Int)) (k : Int) = rd (rd_L1 t (i : Int)) (j : Int) from e1), if_pos (by omega), if_pos (by omega), if_pos (by omega), if_pos (by omega), if_neg (show ¬ rd (rd_L1 t (k : Int)) (i : Int) = rd (rd_L1 t (j : Int)) (i : Int) from e2), w64 (by omega) (by omega)]; rfl
include h1 h2 in
theorem ev_Table_2 (hlen : ∀ a, a < t.length → (rd_L1 t (a : Int)).length = t.length) (i : Nat) (hi : i < t.length) (hn : okTo t (i + 1) 0 → Ev (fun k => tickingref11_Table.l1 k t t.length ((i + 1 : Nat) : Int)) (isTab t)) (d : Nat) : ∀ j : Nat, j + d = t.length → okTo t i j → Ev (fun k => tickingref11_Table.l2 k t t.length i j) (isTab t) := by
  induction d with
  | zero =>
    intro j hj hok
    refine Ev.step (fun q => ?_) (hn (fun a b hab => hok a b (by omega)))
    simp only [tickingref11_Table.l2]; rw [if_neg (by omega), w64 (by omega) (by omega)]; rfl
  | succ d ih =>
    intro j hj hok
    have hli := hlen i hi
    by_cases hb : 0 ≤ rd2 t i j ∧ rd2 t i j ≤ (t.length : Int) - 1
    · have h3 := ev_Table_3 h1 h2 hlen i j hi (by omega) (fun hl => ih (j + 1) (by omega) (fun a b hab => by
        by_cases e : a = i ∧ b = j
        · obtain ⟨rfl, rfl⟩ := e; exact ⟨hb, hl⟩
        · exact hok a b (by omega))) j 0 (by omega) (by intro k' hk'; omega)
      refine Ev.step (f := fun q => tickingref11_Table.j4 q t t.length i j false) (fun q => ?_) (Ev.step (fun q => ?_) h3)
      · simp only [tickingref11_Table.l2]
        rw [if_pos (by omega), if_pos (by omega), if_pos (by omega), if_pos (by omega), if_pos (by omega), if_neg (show ¬ rd (rd_L1 t (i : Int)) (j : Int) < 0 by rw [rd2_rd]; omega), decide_eq_false (show ¬ rd (rd_L1 t (i : Int)) (j : Int) ≥ (t.length : Int) by rw [rd2_rd]; omega)]
      · simp [tickingref11_Table.j4]
    · have hf : isTab t = false := isTab_false_of (fun h => hb ((((tabOk_iff t).1 h).2.2.1 i hi).2 j (by omega)))
      rw [hf]
      refine Ev.step (f := fun q => tickingref11_Table.j4 q t t.length i j true) (fun q => ?_) (Ev.step (f := fun _ => some false) (fun q => ?_) (Ev.now _))
      · simp only [tickingref11_Table.l2]
        rw [if_pos (by omega), if_pos (by omega), if_pos (by omega), if_pos (by omega), if_pos (by omega)]
        by_cases h0 : rd2 t i j < 0
        · rw [if_pos (show rd (rd_L1 t (i : Int)) (j : Int) < 0 from h0)]
        · rw [if_neg (show ¬ rd (rd_L1 t (i : Int)) (j : Int) < 0 from h0), decide_eq_true (show rd (rd_L1 t (i : Int)) (j : Int) ≥ (t.length : Int) by rw [rd2_rd]; omega)]
      · simp [tickingref11_Table.j4]
include h1 h2 in
theorem ev_Table_1 (hlen : ∀ a, a < t.length → (rd_L1 t (a : Int)).length = t.length) (d : Nat) : ∀ i : Nat, i + d = t.length → okTo t i 0 → Ev (fun k => tickingref11_Table.l1 k t t.length i) (isTab t) := by
  induction d with
  | zero =>
    intro i hi hok
    obtain rfl : i = t.length := by omega
    rw [isTab_true_of h1 h2 hlen hok]
    refine Ev.step (f := fun _ => some true) (fun q => ?_) (Ev.now _)
    simp only [tickingref11_Table.l1]; rw [if_neg (by omega)]
  | succ d ih =>
    intro i hi hok
    refine Ev.step (fun q => ?_) (ev_Table_2 h1 h2 hlen i (by omega) (fun h => ih (i + 1) (by omega) h) t.length 0 (by omega) hok)
    simp only [tickingref11_Table.l1]; rw [if_pos (by omega)]; rfl
include h1 h2 in
theorem ev_Table_0 (d : Nat) : ∀ i : Nat, i + d = t.length → (∀ a, a < i → (rd_L1 t (a : Int)).length = t.length) → Ev (fun k => tickingref11_Table.l0 k t t.length i) (isTab t) := by
  induction d with
  | zero =>
    intro i hi hok
    obtain rfl : i = t.length := by omega
    refine Ev.step (fun q => ?_) (ev_Table_1 h1 h2 hok t.length 0 (by omega) (by intro a b hab; omega))
    simp only [tickingref11_Table.l0]; rw [if_neg (by omega)]; rfl
  | succ d ih =>
    intro i hi hok
    by_cases h : (rd_L1 t (i : Int)).length = t.length
    · refine Ev.step (fun q => ?_) (ih (i + 1) (by omega) (fun a ha => by
        by_cases e : a = i
        · subst e; exact h
        · exact hok a (by omega)))
      simp only [tickingref11_Table.l0]; rw [if_pos (by omega), if_pos (by omega), if_pos (by omega), if_pos (by omega), w64 (by omega) (by omega)]; rfl
    · have hf : isTab t = false := isTab_false_of (fun h' => h (((tabOk_iff t).1 h').2.2.1 i (by omega)).1)
      rw [hf]
      refine Ev.step (f := fun _ => some false) (fun q => ?_) (Ev.now _)
      simp only [tickingref11_Table.l0]; rw [if_pos (by omega), if_pos (by omega), if_pos (by omega), if_neg (by omega)]
end
theorem ev_Table (t : List (List Int)) : Ev (fun k => tickingref11_Table.f k t) (isTab t) := by
  by_cases h : 2 ≤ t.length ∧ t.length ≤ 12
  · refine Ev.congr (f := fun k => tickingref11_Table.j0 k t t.length false) (fun k => ?_) (Ev.step (fun q => ?_) (ev_Table_0 h.1 h.2 t.length 0 (by omega) (by intro a ha; omega)))
    · unfold tickingref11_Table.f; rw [if_neg (by omega), decide_eq_false (by omega)]
    · simp [tickingref11_Table.j0]
  · have hf : isTab t = false := isTab_false_of (fun h' => h ⟨h'.1, h'.2.1⟩)
    rw [hf]
    refine Ev.congr (f := fun k => tickingref11_Table.j0 k t t.length true) (fun k => ?_) (Ev.step (f := fun _ => some false) (fun q => by simp [tickingref11_Table.j0]) (Ev.now _))
    unfold tickingref11_Table.f
    by_cases h2 : (t.length : Int) < 2
    · rw [if_pos h2]
    · rw [if_neg h2, decide_eq_true (by omega)]

/-! ### Traces -/
def traceP (t : List (List Int)) (x : Int) (l : List Int) : Int := l.foldl (fun x d => rd (rd_L1 t x) d) x
section
variable {t : List (List Int)} (ht : TabOk t)
include ht in
theorem tab_row (x : Int) (h0 : 0 ≤ x) (h1 : x < t.length) : (rd_L1 t x).length = t.length := by
  have := (ht.2.2.1 x.toNat (by omega)).1
  rwa [Int.toNat_of_nonneg h0] at this
include ht in
theorem tab_cell (x d : Int) (h0 : 0 ≤ x) (h1 : x < t.length) (d0 : 0 ≤ d) (d1 : d < t.length) : 0 ≤ rd (rd_L1 t x) d ∧ rd (rd_L1 t x) d < t.length := by
  have := (ht.2.2.1 x.toNat (by omega)).2 d.toNat (by omega)
  unfold rd2 at this
  rw [Int.toNat_of_nonneg h0, Int.toNat_of_nonneg d0] at this
  omega
include ht in
theorem trace_in (l : List Int) (hl : digs l t.length = true) : ∀ x : Int, 0 ≤ x → x < t.length → 0 ≤ traceP t x l ∧ traceP t x l < t.length := by
  induction l with
  | nil => intro x h0 h1; exact ⟨h0, h1⟩
  | cons d l ih =>
    intro x h0 h1
    have hd := digs_at hl 0 (by simp)
    simp at hd
    have hc := tab_cell ht x d h0 h1 hd.1 hd.2
    exact ih (by unfold digs at hl ⊢; simp only [List.all_cons, Bool.and_eq_true] at hl; exact hl.2) _ hc.1 hc.2
include ht in
theorem ev_trace_l (l : List Int) (hl : digs l t.length = true) (hn : l.length ≤ 1000000) (d : Nat) : ∀ (i : Nat) (x : Int), i + d = l.length → 0 ≤ x → x < t.length → Ev (fun k => serial_table_trace.l0 k t x l l.length i) (traceP t x (l.drop i)) := by
  induction d with
  | zero =>
    intro i x hi h0 h1
    rw [List.drop_of_length_le (by omega)]
    refine Ev.step (f := fun _ => some x) (fun k => ?_) (Ev.now _)
    simp only [serial_table_trace.l0]; rw [if_neg (by omega)]
  | succ d ih =>
    intro i x hi h0 h1
    have e := rd_nat l i (by omega)
    have hd := digs_at hl i (by omega)
    have hc := tab_cell ht x _ h0 h1 hd.1 hd.2
    have hr := tab_row ht x h0 h1
    have h := ih (i + 1) _ (by omega) hc.1 hc.2
    rw [List.drop_eq_getElem_cons (by omega)]
    refine Ev.step (fun k => ?_) h
    simp only [serial_table_trace.l0]
    rw [if_pos (by omega), if_pos (by omega), if_pos (by omega), if_pos (by omega), if_pos (by omega), e, if_pos (by omega), if_pos (by omega), w64 (by omega) (by omega)]; rfl
include ht in
theorem ev_trace (l : List Int) (hl : digs l t.length = true) (hn : l.length ≤ 1000000) : Ev (fun k => serial_table_trace.f k t l) (traceP t 0 l) :=
  ev_trace_l ht l hl hn l.length 0 0 (by omega) (by omega) (by have := ht.1; omega)
include ht in
theorem ev_Trace_l (l : List Int) (hl : digs l t.length = true) (hn : l.length ≤ 1000000) (d : Nat) : ∀ (i : Nat) (x : Int), i + d = l.length → 0 ≤ x → x < t.length → Ev (fun k => tickingref11_Trace.l0 k t l x i) (traceP t x (l.drop i)) := by
  induction d with
  | zero =>
    intro i x hi h0 h1
    rw [List.drop_of_length_le (by omega)]
    refine Ev.step (f := fun _ => some x) (fun k => ?_) (Ev.now _)
    simp only [tickingref11_Trace.l0]; rw [if_neg (by omega)]
  | succ d ih =>
    intro i x hi h0 h1
    have e := rd_nat l i (by omega)
    have hd := digs_at hl i (by omega)
    have hc := tab_cell ht x _ h0 h1 hd.1 hd.2
    have hr := tab_row ht x h0 h1
    have h := ih (i + 1) _ (by omega) hc.1 hc.2
    rw [List.drop_eq_getElem_cons (by omega)]
    refine Ev.step (fun k => ?_) h
    simp only [tickingref11_Trace.l0]
    rw [if_pos (by omega), if_pos (by omega), if_pos (by omega), if_pos (by omega), e, if_pos (by omega), if_pos (by omega), w64 (by omega) (by omega)]; rfl
include ht in
theorem ev_Trace (l : List Int) (hl : digs l t.length = true) (hn : l.length ≤ 1000000) : Ev (fun k => tickingref11_Trace.f k t l) (traceP t 0 l) :=
  ev_Trace_l ht l hl hn l.length 0 0 (by omega) (by omega) (by have := ht.1; omega)
end
theorem sTrace_eq (t : List (List Int)) (l : List Int) (hl : l.length ≤ 1000000) (htl : t.length ≤ 1000000) : Ev (fun k => serial_Trace.f k t l) (if isTab t && (digs l t.length && decide ((l.length : Int) ≤ 24)) then (traceP t 0 l, 0) else (0, 2)) := by
  unfold serial_Trace.f serial_isTable.f serial_isNumber.f
  simp only [Option.bind_some]
  rw [isNum_eq l t.length 24 (by omega) (by omega)]
  cases h : isTab t with
  | false => exact Ev.some_ fun k => by simp
  | true =>
    cases h2 : (digs l t.length && decide ((l.length : Int) ≤ 24)) with
    | false => exact Ev.some_ fun k => by simp
    | true =>
      simp only [if_true, Bool.and_self]
      rw [Bool.and_eq_true] at h2
      exact Ev.bind (ev_trace (of_decide_eq_true h) l h2.1 hl) (Ev.now _)
end Go.Proofs.Ytdkncfmlehcjmaa.X
