/- Texts behind SerialOwn, part 24: contracts of the program's functions and the plain words for them. -/
import Derived.Lib.SliceRun
import Derived.Test.YtdkncfmlehcjmaaTpat
import Derived.Test.YtdkncfmlehcjmaaTpaw
section
/- More of layer 11 in plain words: tables, digits, traces, the digit that makes a number sound. -/
set_option linter.unusedVariables false
set_option linter.unusedSimpArgs false
namespace Go.Proofs.Ytdkncfmlehcjmaa.X
open Go.RowKit Go.Proofs.YtdkncfmlehcjmaaW.PrintWords

def tabOf (t : List (List Int)) : List (List Int) := (t.take 13).map fun r => r.take 25
theorem ev_table_l (t : List (List Int)) (d : Nat) : ∀ i, i + d = t.length → Ev (fun k => tickinglaw11_table.l0 k t ((t.take (min i 13)).map fun r => r.take 25) (min i 13 : Nat)) (tabOf t) := by
  induction d with
  | zero =>
    intro i hi
    refine Ev.step (f := fun _ => some (tabOf t)) (fun k => ?_) (Ev.now _)
    simp only [tickinglaw11_table.l0]
    by_cases h : i < 13
    · rw [show min i 13 = i by omega, if_neg (by omega)]
      unfold tabOf; rw [List.take_of_length_le (by omega), List.take_of_length_le (by omega)]
    · rw [show min i 13 = 13 by omega]
      by_cases h2 : t.length = 13
      · rw [if_neg (by omega)]; rfl
      · rw [if_pos (by omega), if_neg (by omega)]; rfl
  | succ d ih =>
    intro i hi
    by_cases h : i < 13
    · have h1 := ih (i + 1) (by omega)
      rw [show min (i + 1) 13 = i + 1 by omega] at h1
      rw [show min i 13 = i by omega]
      refine Ev.step (fun k => ?_) h1
      simp only [tickinglaw11_table.l0]
      rw [if_pos (by omega), if_pos (by omega), if_pos (by omega), rdL_nat t i (by omega)]
      simp only [tickinglaw11_list.f, Option.bind_some]
      have hc : ((t.take i).map fun r => r.take 25).length < 5864062014805 := by rw [List.length_map, List.length_take]; omega
      rw [if_pos hc, w64 (by omega) (by omega), List.take_succ_eq_append_getElem (show i < t.length by omega), List.map_append]; rfl
    · have h1 := ih (i + 1) (by omega)
      rw [show min (i + 1) 13 = 13 by omega] at h1
      rw [show min i 13 = 13 by omega]
      exact h1
theorem ev_table (t : List (List Int)) : Ev (fun k => tickinglaw11_table.f k t) (tabOf t) := by
  have := ev_table_l t t.length 0 (by omega)
  simp only [Nat.zero_le, Nat.min_eq_left, List.take_zero, List.map_nil] at this
  exact this
def digs (l : List Int) (n : Int) : Bool := l.all fun d => decide (0 ≤ d) && decide (d < n)
theorem digs_take (l : List Int) (n : Int) (i : Nat) (h : i < l.length) (hb : ¬ (0 ≤ l[i] ∧ l[i] < n)) : digs l n = false := by
  unfold digs; rw [List.all_eq_false]; exact ⟨l[i], List.getElem_mem h, by simpa using hb⟩
theorem digs_at {l : List Int} {n : Int} (h : digs l n = true) (i : Nat) (hi : i < l.length) : 0 ≤ l[i] ∧ l[i] < n := by
  unfold digs at h; rw [List.all_eq_true] at h; simpa using h _ (List.getElem_mem hi)
theorem ev_Digits_l (l : List Int) (most n : Int) (hl : l.length ≤ 1000000000) (d : Nat) : ∀ i, i + d = l.length → (∀ j (h : j < l.length), j < i → 0 ≤ l[j] ∧ l[j] < n) → Ev (fun k => tickingref11_Digits.l0 k l most n i) (digs l n && decide ((l.length : Int) ≤ most)) := by
  induction d with
  | zero =>
    intro i hi hok
    have : digs l n = true := by
      unfold digs; rw [List.all_eq_true]
      intro x hx
      obtain ⟨j, hj, rfl⟩ := List.getElem_of_mem hx
      simpa using hok j hj (by omega)
    rw [this, Bool.true_and]
    refine Ev.step (f := fun _ => some (decide ((l.length : Int) ≤ most))) (fun k => ?_) (Ev.now _)
    simp only [tickingref11_Digits.l0]; rw [if_neg (by omega)]
  | succ d ih =>
    intro i hi hok
    have e := rd_nat l i (by omega)
    by_cases h : 0 ≤ l[i]'(by omega) ∧ l[i]'(by omega) < n
    · refine Ev.step (fun k => ?_) (ih (i + 1) (by omega) (fun j hj h' => by
        by_cases e2 : j = i
        · subst e2; exact h
        · exact hok j hj (by omega)))
      simp only [tickingref11_Digits.l0]
      rw [if_pos (by omega), if_pos (by omega), e, if_neg (by omega), if_neg (by omega), w64 (by omega) (by omega)]; rfl
    · rw [digs_take l n i (by omega) h, Bool.false_and]
      refine Ev.step (f := fun _ => some false) (fun k => ?_) (Ev.now _)
      simp only [tickingref11_Digits.l0]
      rw [if_pos (by omega), if_pos (by omega), e]
      by_cases h0 : l[i]'(by omega) < 0
      · rw [if_pos h0]
      · rw [if_neg h0, if_pos (by omega)]
theorem ev_Digits (l : List Int) (most n : Int) (hl : l.length ≤ 1000000000) : Ev (fun k => tickingref11_Digits.f k l most n) (digs l n && decide ((l.length : Int) ≤ most)) :=
  ev_Digits_l l most n hl l.length 0 (by omega) (by intro j _ h; omega)
theorem isNum_eq (l : List Int) (n most : Int) (h0 : -9223372036854775807 ≤ n) (h1 : n ≤ 9223372036854775807) : isNum l n most = (digs l n && decide ((l.length : Int) ≤ most)) := by
  unfold isNum digs
  rw [Bool.and_comm]
  congr 1
  congr 1
  funext d
  unfold digOk
  rw [w64 (by omega) (by omega)]
  congr 1
  simp only [decide_eq_decide]
  omega

theorem range_pairwise {R : Nat → Nat → Prop} (n : Nat) : (List.range n).Pairwise R ↔ ∀ i j, i < j → j < n → R i j := by
  rw [List.pairwise_iff_getElem]
  constructor
  · intro h i j hij hj
    have := h i j (by simp; omega) (by simp; omega) hij
    simpa using this
  · intro h i j hi hj hij
    simp at hi hj
    simpa using h i j hij hj
/-- In each list and at each position no number comes twice. -/
def Latin (t : List (List Int)) : Prop := ∀ i, i < t.length → ∀ j, j < t.length → ∀ k, k < j → rd2 t i k ≠ rd2 t i j ∧ rd2 t k i ≠ rd2 t j i
theorem latin_R (t : List (List Int)) : (seenR t t.length 0).Nodup ↔ ∀ i, i < t.length → ∀ j, j < t.length → ∀ k, k < j → rd2 t i k ≠ rd2 t i j := by
  simp only [seenR, List.range_zero, List.map_nil, List.append_nil, List.Nodup, List.pairwise_flatMap, List.pairwise_map, range_pairwise, List.mem_range, List.mem_map]
  constructor
  · intro h i hi j hj k hk e
    exact h.1 i hi k j hk hj (by rw [e])
  · intro h
    refine ⟨fun i hi k j hk hj e => h i hi j hj k hk (by simpa using e), ?_⟩
    intro i j hij hj x hx y hy e
    obtain ⟨p, _, rfl⟩ := hx
    obtain ⟨q, _, rfl⟩ := hy
    simp at e
    omega
theorem latin_C (t : List (List Int)) : (seenC t t.length 0).Nodup ↔ ∀ i, i < t.length → ∀ j, j < t.length → ∀ k, k < j → rd2 t k i ≠ rd2 t j i := by
  simp only [seenC, List.range_zero, List.map_nil, List.append_nil, List.Nodup, List.pairwise_flatMap, List.pairwise_map, range_pairwise, List.mem_range, List.mem_map]
  constructor
  · intro h i hi j hj k hk e
    exact h.2 k j hk hj _ ⟨i, hi, rfl⟩ _ ⟨i, hi, rfl⟩ (by rw [e])
  · intro h
    refine ⟨fun i hi k j hk hj e => by simp at e; omega, ?_⟩
    intro k j hk hj x hx y hy e
    obtain ⟨p, hp, rfl⟩ := hx
    obtain ⟨q, hq, rfl⟩ := hy
    simp at e
    obtain ⟨e1, e2⟩ := e
    have : p = q := by omega
    subst this
    exact h p hp j hj k hk e2
theorem tabOk_iff (t : List (List Int)) : TabOk t ↔ 2 ≤ t.length ∧ t.length ≤ 12 ∧ (∀ a, a < t.length → rowOk t a) ∧ Latin t := by
  unfold TabOk
  rw [latin_R, latin_C]
  unfold Latin
  constructor
  · rintro ⟨h1, h2, h3, h4, h5⟩
    exact ⟨h1, h2, h3, fun i hi j hj k hk => ⟨h4 i hi j hj k hk, h5 i hi j hj k hk⟩⟩
  · rintro ⟨h1, h2, h3, h4⟩
    exact ⟨h1, h2, h3, fun i hi j hj k hk => (h4 i hi j hj k hk).1, fun i hi j hj k hk => (h4 i hi j hj k hk).2⟩

section
variable {t : List (List Int)} (h1 : 2 ≤ t.length) (h2 : t.length ≤ 12)
theorem rd2_rd (a b : Nat) : rd (rd_L1 t (a : Int)) (b : Int) = rd2 t a b := rfl
/-- What has been looked at so far stands no word against a table. -/
def okTo (t : List (List Int)) (i j : Nat) : Prop := ∀ a b, (a < i ∧ b < t.length ∨ a = i ∧ b < j) → (0 ≤ rd2 t a b ∧ rd2 t a b ≤ (t.length : Int) - 1) ∧ ∀ k, k < b → rd2 t a k ≠ rd2 t a b ∧ rd2 t k a ≠ rd2 t b a
theorem isTab_false_of (h : ¬ TabOk t) : isTab t = false := decide_eq_false h
include h1 h2 in
theorem isTab_true_of (hlen : ∀ a, a < t.length → (rd_L1 t (a : Int)).length = t.length) (hok : okTo t t.length 0) : isTab t = true := by
  refine decide_eq_true ((tabOk_iff t).2 ⟨h1, h2, fun a ha => ⟨hlen a ha, fun b hb => (hok a b (.inl ⟨ha, hb⟩)).1⟩, fun i hi j hj k hk => (hok i j (.inl ⟨hi, hj⟩)).2 k hk⟩)
include h1 h2 in
theorem ev_Table_3 (hlen : ∀ a, a < t.length → (rd_L1 t (a : Int)).length = t.length) (i j : Nat) (hi : i < t.length) (hj : j < t.length)
    (hn : (∀ k, k < j → rd2 t i k ≠ rd2 t i j ∧ rd2 t k i ≠ rd2 t j i) → Ev (fun k => tickingref11_Table.l2 k t t.length i ((j + 1 : Nat) : Int)) (isTab t)) (d : Nat) : ∀ k : Nat, k + d = j → (∀ k', k' < k → rd2 t i k' ≠ rd2 t i j ∧ rd2 t k' i ≠ rd2 t j i) → Ev (fun q => tickingref11_Table.l3 q t t.length i j k) (isTab t) := by
  induction d with
  | zero =>
    intro k hk hok
    obtain rfl : k = j := by omega
    refine Ev.step (fun q => ?_) (hn hok)
    simp only [tickingref11_Table.l3]; rw [if_neg (by omega), w64 (by omega) (by omega)]; rfl
  | succ d ih =>
    intro k hk hok
    have hli := hlen i hi
    have hlk := hlen k (by omega)
    have hlj := hlen j hj
    by_cases e1 : rd2 t i k = rd2 t i j
    · have hf : isTab t = false := isTab_false_of (fun h => (((tabOk_iff t).1 h).2.2.2 i hi j hj k (by omega)).1 e1)
      rw [hf]
      refine Ev.step (f := fun _ => some false) (fun q => ?_) (Ev.now _)
      simp only [tickingref11_Table.l3]
      rw [if_pos (by omega), if_pos (by omega), if_pos (by omega), if_pos (by omega), if_pos (by omega), if_pos (by omega), if_pos (by omega), if_pos (show rd (rd_L1 t (i : Int)) (k : Int) = rd (rd_L1 t (i : Int)) (j : Int) from e1)]
    · by_cases e2 : rd2 t k i = rd2 t j i
      · have hf : isTab t = false := isTab_false_of (fun h => (((tabOk_iff t).1 h).2.2.2 i hi j hj k (by omega)).2 e2)
        rw [hf]
        refine Ev.step (f := fun _ => some false) (fun q => ?_) (Ev.now _)
        simp only [tickingref11_Table.l3]
        rw [if_pos (by omega), if_pos (by omega), if_pos (by omega), if_pos (by omega), if_pos (by omega), if_pos (by omega), if_pos (by omega), if_neg (show ¬ rd (rd_L1 t (i : Int)) (k : Int) = rd (rd_L1 t (i : Int)) (j : Int) from e1), if_pos (by omega), if_pos (by omega), if_pos (by omega), if_pos (by omega), if_pos (show rd (rd_L1 t (k : Int)) (i : Int) = rd (rd_L1 t (j : Int)) (i : Int) from e2)]
      · refine Ev.step (fun q => ?_) (ih (k + 1) (by omega) (fun k' hk' => by
          by_cases e : k' = k
          · subst e; exact ⟨e1, e2⟩
          · exact hok k' (by omega)))
        simp only [tickingref11_Table.l3]
        rw [if_pos (by omega), if_pos (by omega), if_pos (by omega), if_pos (by omega), if_pos (by omega), if_pos (by omega), if_pos (by omega), if_neg (show ¬ rd (rd_L1 t (i : Int)) (k : Int) = rd (rd_L1 t (i : Int)) (j : Int) from e1), if_pos (by omega), if_pos (by omega), if_pos (by omega), if_pos (by omega), if_neg (show ¬ rd (rd_L1 t (k : Int)) (i : Int) = rd (rd_L1 t (j : Int)) (i : Int) from e2), w64 (by omega) (by omega)]; rfl
include h1 h2 in
theorem ev_Table_2 (hlen : ∀ a, a < t.length → (rd_L1 t (a : Int)).length = t.length) (i : Nat) (hi : i < t.length) (hn : okTo t (i + 1) 0 → Ev (fun k => tickingref11_Table.l1 k t t.length ((i + 1 : Nat) : Int)) (isTab t)) (d : Nat) : ∀ j : Nat, j + d = t.length → okTo t i j → Ev (fun k => tickingref11_Table.l2 k t t.length i j) (isTab t) := by
  induction d with
  | zero =>
    intro j hj hok
    refine Ev.step (fun q => ?_) (hn (fun a b hab => hok a b (by omega)))
    simp only [tickingref11_Table.l2]; rw [if_neg (by omega), w64 (by omega) (by omega)]; rfl
  | succ d ih =>
    intro j hj hok
    have hli := hlen i hi
    by_cases hb : 0 ≤ rd2 t i j ∧ rd2 t i j ≤ (t.length : Int) - 1
    · have h3 := ev_Table_3 h1 h2 hlen i j hi (by omega) (fun hl => ih (j + 1) (by omega) (fun a b hab => by
        by_cases e : a = i ∧ b = j
        · obtain ⟨rfl, rfl⟩ := e; exact ⟨hb, hl⟩
        · exact hok a b (by omega))) j 0 (by omega) (by intro k' hk'; omega)
      refine Ev.step (f := fun q => tickingref11_Table.j4 q t t.length i j false) (fun q => ?_) (Ev.step (fun q => ?_) h3)
      · simp only [tickingref11_Table.l2]
        rw [if_pos (by omega), if_pos (by omega), if_pos (by omega), if_pos (by omega), if_pos (by omega), if_neg (show ¬ rd (rd_L1 t (i : Int)) (j : Int) < 0 by rw [rd2_rd]; omega), decide_eq_false (show ¬ rd (rd_L1 t (i : Int)) (j : Int) ≥ (t.length : Int) by rw [rd2_rd]; omega)]
      · simp [tickingref11_Table.j4]
    · have hf : isTab t = false := isTab_false_of (fun h => hb ((((tabOk_iff t).1 h).2.2.1 i hi).2 j (by omega)))
      rw [hf]
      refine Ev.step (f := fun q => tickingref11_Table.j4 q t t.length i j true) (fun q => ?_) (Ev.step (f := fun _ => some false) (fun q => ?_) (Ev.now _))
      · simp only [tickingref11_Table.l2]
        rw [if_pos (by omega), if_pos (by omega), if_pos (by omega), if_pos (by omega), if_pos (by omega)]
        by_cases h0 : rd2 t i j < 0
        · rw [if_pos (show rd (rd_L1 t (i : Int)) (j : Int) < 0 from h0)]
        · rw [if_neg (show ¬ rd (rd_L1 t (i : Int)) (j : Int) < 0 from h0), decide_eq_true (show rd (rd_L1 t (i : Int)) (j : Int) ≥ (t.length : Int) by rw [rd2_rd]; omega)]
      · simp [tickingref11_Table.j4]
include h1 h2 in
theorem ev_Table_1 (hlen : ∀ a, a < t.length → (rd_L1 t (a : Int)).length = t.length) (d : Nat) : ∀ i : Nat, i + d = t.length → okTo t i 0 → Ev (fun k => tickingref11_Table.l1 k t t.length i) (isTab t) := by
  induction d with
  | zero =>
    intro i hi hok
    obtain rfl : i = t.length := by omega
    rw [isTab_true_of h1 h2 hlen hok]
    refine Ev.step (f := fun _ => some true) (fun q => ?_) (Ev.now _)
    simp only [tickingref11_Table.l1]; rw [if_neg (by omega)]
  | succ d ih =>
    intro i hi hok
    refine Ev.step (fun q => ?_) (ev_Table_2 h1 h2 hlen i (by omega) (fun h => ih (i + 1) (by omega) h) t.length 0 (by omega) hok)
    simp only [tickingref11_Table.l1]; rw [if_pos (by omega)]; rfl
include h1 h2 in
theorem ev_Table_0 (d : Nat) : ∀ i : Nat, i + d = t.length → (∀ a, a < i → (rd_L1 t (a : Int)).length = t.length) → Ev (fun k => tickingref11_Table.l0 k t t.length i) (isTab t) := by
  induction d with
  | zero =>
    intro i hi hok
    obtain rfl : i = t.length := by omega
    refine Ev.step (fun q => ?_) (ev_Table_1 h1 h2 hok t.length 0 (by omega) (by intro a b hab; omega))
    simp only [tickingref11_Table.l0]; rw [if_neg (by omega)]; rfl
  | succ d ih =>
    intro i hi hok
    by_cases h : (rd_L1 t (i : Int)).length = t.length
    · refine Ev.step (fun q => ?_) (ih (i + 1) (by omega) (fun a ha => by
        by_cases e : a = i
        · subst e; exact h
        · exact hok a (by omega)))
      simp only [tickingref11_Table.l0]; rw [if_pos (by omega), if_pos (by omega), if_pos (by omega), if_pos (by omega), w64 (by omega) (by omega)]; rfl
    · have hf : isTab t = false := isTab_false_of (fun h' => h (((tabOk_iff t).1 h').2.2.1 i (by omega)).1)
      rw [hf]
      refine Ev.step (f := fun _ => some false) (fun q => ?_) (Ev.now _)
      simp only [tickingref11_Table.l0]; rw [if_pos (by omega), if_pos (by omega), if_pos (by omega), if_neg (by omega)]
end
theorem ev_Table (t : List (List Int)) : Ev (fun k => tickingref11_Table.f k t) (isTab t) := by
  by_cases h : 2 ≤ t.length ∧ t.length ≤ 12
  · refine Ev.congr (f := fun k => tickingref11_Table.j0 k t t.length false) (fun k => ?_) (Ev.step (fun q => ?_) (ev_Table_0 h.1 h.2 t.length 0 (by omega) (by intro a ha; omega)))
    · unfold tickingref11_Table.f; rw [if_neg (by omega), decide_eq_false (by omega)]
    · simp [tickingref11_Table.j0]
  · have hf : isTab t = false := isTab_false_of (fun h' => h ⟨h'.1, h'.2.1⟩)
    rw [hf]
    refine Ev.congr (f := fun k => tickingref11_Table.j0 k t t.length true) (fun k => ?_) (Ev.step (f := fun _ => some false) (fun q => by simp [tickingref11_Table.j0]) (Ev.now _))
    unfold tickingref11_Table.f
    by_cases h2 : (t.length : Int) < 2
    · rw [if_pos h2]
    · rw [if_neg h2, decide_eq_true (by omega)]

def traceP (t : List (List Int)) (x : Int) (l : List Int) : Int := l.foldl (fun x d => rd (rd_L1 t x) d) x
section
variable {t : List (List Int)} (ht : TabOk t)
include ht in
theorem tab_row (x : Int) (h0 : 0 ≤ x) (h1 : x < t.length) : (rd_L1 t x).length = t.length := by
  have := (ht.2.2.1 x.toNat (by omega)).1
  rwa [Int.toNat_of_nonneg h0] at this
include ht in
theorem tab_cell (x d : Int) (h0 : 0 ≤ x) (h1 : x < t.length) (d0 : 0 ≤ d) (d1 : d < t.length) : 0 ≤ rd (rd_L1 t x) d ∧ rd (rd_L1 t x) d < t.length := by
  have := (ht.2.2.1 x.toNat (by omega)).2 d.toNat (by omega)
  unfold rd2 at this
  rw [Int.toNat_of_nonneg h0, Int.toNat_of_nonneg d0] at this
  omega
include ht in
theorem trace_in (l : List Int) (hl : digs l t.length = true) : ∀ x : Int, 0 ≤ x → x < t.length → 0 ≤ traceP t x l ∧ traceP t x l < t.length := by
  induction l with
  | nil => intro x h0 h1; exact ⟨h0, h1⟩
  | cons d l ih =>
    intro x h0 h1
    have hd := digs_at hl 0 (by simp)
    simp at hd
    have hc := tab_cell ht x d h0 h1 hd.1 hd.2
    exact ih (by unfold digs at hl ⊢; simp only [List.all_cons, Bool.and_eq_true] at hl; exact hl.2) _ hc.1 hc.2
include ht in
theorem ev_trace_l (l : List Int) (hl : digs l t.length = true) (hn : l.length ≤ 1000000) (d : Nat) : ∀ (i : Nat) (x : Int), i + d = l.length → 0 ≤ x → x < t.length → Ev (fun k => serial_table_trace.l0 k t x l l.length i) (traceP t x (l.drop i)) := by
  induction d with
  | zero =>
    intro i x hi h0 h1
    rw [List.drop_of_length_le (by omega)]
    refine Ev.step (f := fun _ => some x) (fun k => ?_) (Ev.now _)
    simp only [serial_table_trace.l0]; rw [if_neg (by omega)]
  | succ d ih =>
    intro i x hi h0 h1
    have e := rd_nat l i (by omega)
    have hd := digs_at hl i (by omega)
    have hc := tab_cell ht x _ h0 h1 hd.1 hd.2
    have hr := tab_row ht x h0 h1
    have h := ih (i + 1) _ (by omega) hc.1 hc.2
    rw [List.drop_eq_getElem_cons (by omega)]
    refine Ev.step (fun k => ?_) h
    simp only [serial_table_trace.l0]
    rw [if_pos (by omega), if_pos (by omega), if_pos (by omega), if_pos (by omega), if_pos (by omega), e, if_pos (by omega), if_pos (by omega), w64 (by omega) (by omega)]; rfl
include ht in
theorem ev_trace (l : List Int) (hl : digs l t.length = true) (hn : l.length ≤ 1000000) : Ev (fun k => serial_table_trace.f k t l) (traceP t 0 l) :=
  ev_trace_l ht l hl hn l.length 0 0 (by omega) (by omega) (by have := ht.1; omega)
include ht in
theorem ev_Trace_l (l : List Int) (hl : digs l t.length = true) (hn : l.length ≤ 1000000) (d : Nat) : ∀ (i : Nat) (x : Int), i + d = l.length → 0 ≤ x → x < t.length → Ev (fun k => tickingref11_Trace.l0 k t l x i) (traceP t x (l.drop i)) := by
  induction d with
  | zero =>
    intro i x hi h0 h1
    rw [List.drop_of_length_le (by omega)]
    refine Ev.step (f := fun _ => some x) (fun k => ?_) (Ev.now _)
    simp only [tickingref11_Trace.l0]; rw [if_neg (by omega)]
  | succ d ih =>
    intro i x hi h0 h1
    have e := rd_nat l i (by omega)
    have hd := digs_at hl i (by omega)
    have hc := tab_cell ht x _ h0 h1 hd.1 hd.2
    have hr := tab_row ht x h0 h1
    have h := ih (i + 1) _ (by omega) hc.1 hc.2
    rw [List.drop_eq_getElem_cons (by omega)]
    refine Ev.step (fun k => ?_) h
    simp only [tickingref11_Trace.l0]
    rw [if_pos (by omega), if_pos (by omega), if_pos (by omega), if_pos (by omega), e, if_pos (by omega), if_pos (by omega), w64 (by omega) (by omega)]; rfl
include ht in
theorem ev_Trace (l : List Int) (hl : digs l t.length = true) (hn : l.length ≤ 1000000) : Ev (fun k => tickingref11_Trace.f k t l) (traceP t 0 l) :=
  ev_Trace_l ht l hl hn l.length 0 0 (by omega) (by omega) (by have := ht.1; omega)
end
end Go.Proofs.Ytdkncfmlehcjmaa.X
end

section
/- serial.number.with, by hand: a copy of the number with other digits from a position on, in new memory. -/
set_option linter.unusedVariables false
set_option linter.unusedSimpArgs false
namespace Go.Proofs.Ytdkncfmlehcjmaa.X
open Go.RowKit Go.Proofs.YtdkncfmlehcjmaaW.PrintWords Go.Proofs.YtdkncfmlehcjmaaW.PrintLast Go.Proofs.YtdkncfmlehcjmaaW.PrintMore
theorem R_made0n (w : World) (base : Nat) (hb : base ≤ w.heap.size) : Kd.R (Kd.int .i64) 3 (w.alloc (.cells #[] 3)) base (fun _ => True) (.slice (some ⟨w.heap.size, 0, none⟩) 0 0) [] :=
  ⟨fun _ _ => trivial, [], World.ownsRow_made w #[] 0 hb (Nat.zero_le _) rfl, Reps.none _ _⟩
set_option maxHeartbeats 2000000 in
set_option maxRecDepth 100000 in
theorem cloneN_some (A : Addr) (c : Nat) (l : List Int) (w : World) (hr : Kd.C (Kd.int .i64) w (some A) l.length l) (hn : l.length ≤ 1000000) :
    Calls Try.prog 82 #[.slice (some A) l.length c] w fun e w' => ∃ v0_ : Value, e = .returned (v0_) ∧ Kd.R (Kd.int .i64) 3 w' w.heap.size (fun _ => True) v0_ l ∧ Below w.heap.size w w' := by
  have HR := Aside0.mk hr
  have HB := Aside0.mk (Below.refl w.heap.size w)
  have HN := Aside0.mk hn
  clear hr hn
  have q94 : ∀ (w : World) (a : Option Addr) (n c n' c' : Nat), (binOp .eql 94 (.slice a n c) (.slice none n' c')).run Try.prog w = .ok (.bool a.isNone) w := fun w a n c n' c' => Lib.run_eql_slice_nil w _ _ a n c n' c' Try.underlying94
  go_enter Try.func82, Try.ntmps82
  go_wp2_with (at_builtin; go_loud (refine Kd.R_append_rows (Kd.int .i64) (w0 := w) w.heap.size rfl (.tmp 5) (.tmp 6) 94 3 (.int .i64 0) 8 rfl Try.underlying94 info3 rfl (by decide) (by omega) (.slice (some ⟨w.heap.size, 0, none⟩) 0 0) ([] : List Int) l _ _ _ (fun _ => True) (fun _ => False) rfl rfl ?aO ?aR (fun _ _ h => h) (fun _ h => h.elim) ?aF ?aB ?aS ?aL ?_); go_loud (case aO => exact R_made0n w _ (Nat.le_refl _)); go_loud (case aR => exact Kd.C_alloc HR.out _); go_loud (case aF => exact fun _ _ => trivial); go_loud (case aB => exact below_alloc HB.out _); go_loud (case aS => first | exact Nat.le_refl _ | exact (below_alloc HB.out _).size); go_loud (case aL => have := HN.out; simp; omega); intro v103 w7 ho hb hg hat; have HO := Aside0.mk ho; have HB2 := Aside0.mk hb; clear ho hb hg hat)
  go_ret
  exact ⟨_, rfl, HO.out, HB2.out⟩
set_option maxHeartbeats 2000000 in
theorem cloneN_nil (c : Nat) (w : World) :
    Calls Try.prog 82 #[.slice none 0 c] w fun e w' => e = .returned (.slice none 0 0) ∧ w = w' := by
  have q94 : ∀ (w : World) (a : Option Addr) (n c n' c' : Nat), (binOp .eql 94 (.slice a n c) (.slice none n' c')).run Try.prog w = .ok (.bool a.isNone) w := fun w a n c n' c' => Lib.run_eql_slice_nil w _ _ a n c n' c' Try.underlying94
  go_enter Try.func82, Try.ntmps82
  go_wp2
  go_ret
  exact ⟨rfl, rfl⟩
theorem cloneN_calls (A : Option Addr) (c : Nat) (l : List Int) (w : World) (hr : Kd.C (Kd.int .i64) w A l.length l) (hA : A = none → l = []) (hn : l.length ≤ 1000000) :
    Calls Try.prog 82 #[.slice A l.length c] w fun e w' => ∃ v0_ : Value, e = .returned (v0_) ∧ Kd.R (Kd.int .i64) 3 w' w.heap.size (fun _ => True) v0_ l ∧ Below w.heap.size w w' := by
  cases A with
  | none =>
    obtain rfl := hA rfl
    exact (cloneN_nil c w).mono fun e w' ⟨h1, h2⟩ => ⟨_, h1, Kd.R_nil _ _ _ _ _, by rw [← h2]; exact Below.refl _ _⟩
  | some a => exact cloneN_some a c l w hr hn
theorem take_splice {α : Type} (L E : List α) (a m n : Nat) (hm : E.length = m) (h : a + m ≤ n) (hn : n ≤ L.length) : (L.take a ++ (E ++ L.drop (a + m))).take n = (L.take n).take a ++ (E ++ (L.take n).drop (a + m)) := by
  apply List.ext_getElem?
  intro i
  simp only [List.getElem?_take, List.getElem?_append, List.getElem?_drop, List.length_take, hm]
  split <;> rename_i h1
  · by_cases h2 : i < min a L.length
    · have h3 : i < min a (min n L.length) := by omega
      have h4 : i < a := by omega
      simp [h2, h3, h4, h1]
    · have h3 : ¬ i < min a (min n L.length) := by omega
      simp only [h2, h3, if_false]
      have e : min a L.length = min a (min n L.length) := by omega
      rw [← e]
      split
      · rfl
      · rw [if_pos (by omega)]
  · have h3 : ¬ i < min a (min n L.length) := by omega
    rw [if_neg h3, if_neg (by omega), if_neg (by omega)]
namespace Kd
open Go.Proofs.YtdkncfmlehcjmaaW.PrintWords.Kd
section
variable {P : Program} {ops : Array Oper} {rest : List Oper} {o : Oper} {a : Act} {Q : Exit → Act → World → Prop} {α : Type}
/-- copy(v[at:], ys), v a row of scalars of one's own, ys fitting in. -/
theorem R_copy_at {enc : α → Value} {h1 : ∀ x, (enc x).oneCell' = true} (d : α) {w0 W : World} (base : Nat) (hgd : o.guard = none) (s x : Operand) (t t' e : TypeId)
    (ho : o.op = .call { callee := .builtin .copy, args := #[s, x], argTypes := #[t, t'] }) (ht : P.underlying t = some (.slice e)) (hinfo : (P.info? e).map (·.size) = some 1)
    (g cap at_ dl dc : Nat) (xs ys : List α) (A : Option Addr) (m c : Nat) (ok : Nat → Prop) (hs : a.eval s = .slice (some ⟨g, at_, none⟩) dl dc) (hx : a.eval x = .slice A m c)
    (HO : Kd.R (scalar enc h1) e W base ok (.slice (some ⟨g, 0, none⟩) xs.length cap) xs) (HR : Kd.C (scalar enc h1) W A m ys) (HB : Below base w0 W) (hbase : base ≤ W.heap.size)
    (hp : 0 < m) (hfit : at_ + m ≤ xs.length) (hdl : m ≤ dl)
    (h : ∀ w1, Kd.R (scalar enc h1) e w1 base ok (.slice (some ⟨g, 0, none⟩) xs.length cap) (xs.take at_ ++ (ys ++ xs.drop (at_ + m))) → Below base w0 w1 → wpList P ops Q rest (a.put o.dst (.int .i64 (m : Int))) w1) :
    wpList P ops Q (o :: rest) a W := by
  have hR := reads_of_C (enc := enc) (d := d) (h1 := h1) HR
  have hm : ys.length = m := hR.1
  have hown := own_of_R HO
  obtain ⟨ad, hA, hc⟩ := hR.2.2 (by omega)
  rcases hown.2 with ⟨hv0, hx0⟩ | ⟨g', cap', cur, hv, hb, hh, hnc, hcm, hcs, htake⟩
  · omega
  injection hv with hv1 hv2 hv3
  injection hv1 with hv1
  injection hv1 with hv1 _ _
  subst hv1 hv3
  have hcs1 : cur.size = cap := by omega
  have hsrc : ∀ j u, (encs enc ys)[j]? = some u → W.cell? (ad.add j) = some u := by
    intro j u hu
    have hj : j < ys.length := by
      rcases Nat.lt_or_ge j ys.length with h | h
      · exact h
      · rw [List.getElem?_eq_none (by rw [encs_length]; exact h)] at hu
        cases hu
    rw [encs_get (d := d) _ j hj] at hu
    rw [hc j (by omega), ← hu]
  have hkl : (encs enc ys).length = m := by rw [encs_length]; omega
  have hr := run_copy_cells (P := P) W t t' o.type e g at_ dl dc ad m c (encs enc ys) ht hinfo (by rw [hkl]; exact (Nat.min_eq_left hdl).symm) hsrc
      (fun j hj => by rw [cell_of_row W g _ cur e (0, 0) hh]; simp; omega) (fun j _ => blk_frozen hh _) (by intro u hu; simp only [encs, List.mem_map] at hu; obtain ⟨q, _, rfl⟩ := hu; exact h1 q)
  obtain ⟨cur', h3, h4, h5⟩ := setCells_row (encs enc ys) at_ W cur hh (by rw [hkl]; omega)
  obtain ⟨s1, s2, s3, s4⟩ := setCells_same g (encs enc ys) at_ W
  have hg : W.grownBy (W.setCells g at_ (encs enc ys)) (some g) := ⟨s1, s2, s3, by rw [s4]; exact Nat.le_refl _, fun k _ hk => setCells_far _ _ k (fun he => hk (by rw [he]))⟩
  have hln : (xs.take at_ ++ (ys ++ xs.drop (at_ + m))).length = xs.length := by
    simp only [List.length_append, List.length_take, List.length_drop]
    omega
  refine wpList_plain hgd fun K hK => ?_
  unfold Oper.wp execOp
  simp only [ho, resolve, invoke, builtin, Sem.run_bind, Sem.run_pure, Result.andThen_ok, List.map_toArray, List.map_cons, List.map_nil, hs, hx, hA, hr]
  rw [hkl]
  refine hK _ _ (h _ (R_of_own ?_ HO.1) (HB.grown hg hbase (fun k hk => by cases hk; exact hb)))
  rw [hln]
  refine ⟨by rw [encs_length, hln, Nat.mul_one], .inr ⟨g, cap, cur', rfl, hb, h3, hnc, hcm, by rw [h4, hcs], ?_⟩⟩
  have htk : cur.toList.take xs.length = encs enc xs := by rw [← htake, Nat.mul_one]
  rw [h5, hkl, encs_append, encs_append, Nat.mul_one]
  have e1 : encs enc (xs.take at_) = (encs enc xs).take at_ := by simp [encs, List.map_take]
  have e2 : encs enc (xs.drop (at_ + m)) = (encs enc xs).drop (at_ + m) := by simp [encs, List.map_drop]
  rw [e1, e2, ← htk, List.append_assoc]
  exact take_splice cur.toList (encs enc ys) at_ m xs.length hkl (by omega) (by have : cur.toList.length = cur.size := Array.length_toList; omega)
end
end Kd
theorem own_cap_le {w : World} {base g n c : Nat} {l : List Int} {ok : Nat → Prop} (h : Kd.R (Kd.int .i64) 3 w base ok (.slice (some ⟨g, 0, none⟩) n c) l) : l.length ≤ c := by
  rcases (Kd.own_of_R h).2 with ⟨h, _⟩ | ⟨g', cap', cur, hv, hb, hh, hnc, _⟩
  · cases h
  · injection hv with _ h1 h2
    subst h1 h2
    exact hnc
def withN (l : List Int) (at_ : Int) (ds : List Int) : List Int := l.take at_.toNat ++ (ds ++ l.drop (at_.toNat + ds.length))
def serial_number_with.f (l : List Int) (at_ : Int) (ds : List Int) : Option (List Int) :=
  if 0 ≤ at_ ∧ at_ + ds.length ≤ l.length ∧ 0 < ds.length ∧ l.length ≤ 1000 then some (withN l at_ ds) else none
set_option maxHeartbeats 4000000 in
set_option maxRecDepth 100000 in
theorem serial_number_with.calls (A0 : Option Addr) (c0 : Nat) (l0 : List Int) (a1 : Int) (A2 : Option Addr) (c2 : Nat) (l2 : List Int) (r : List Int) (w : World) (hr0 : Kd.C (Kd.int .i64) w A0 l0.length l0) (hc0 : l0.length ≤ c0) (hr2 : Kd.C (Kd.int .i64) w A2 l2.length l2) (hc2 : l2.length ≤ c2) (h : serial_number_with.f l0 a1 l2 = some r) :
    Calls Try.prog 85 #[.slice A0 l0.length c0, .int .i64 a1, .slice A2 l2.length c2] w fun e w' => ∃ v0_ : Value, e = .returned (v0_) ∧ Kd.R (Kd.int .i64) 3 w' w.heap.size (fun _ => True) v0_ r ∧ Below w.heap.size w w' := by
  unfold serial_number_with.f at h
  split at h
  case isFalse => cases h
  rename_i hc
  obtain ⟨h1, h2, h3, h4⟩ := hc
  obtain rfl := Option.some.inj h
  obtain ⟨p, rfl⟩ : ∃ p : Nat, a1 = p := ⟨a1.toNat, by omega⟩
  have HP := Aside0.mk (show p + l2.length ≤ l0.length by omega)
  have HL := Aside0.mk h3
  have H4 := Aside0.mk h4
  have HR0 := Aside0.mk hr0
  have HR2 := Aside0.mk hr2
  have HB := Aside0.mk (Below.refl w.heap.size w)
  have hA : A0 = none → l0 = [] := fun e => by
    subst e
    rcases Nat.eq_zero_or_pos l0.length with h | h
    · exact List.eq_nil_of_length_eq_zero h
    · obtain ⟨_, hh, _⟩ := hr0.2.2 h
      cases hh
  have HA := Aside0.mk hA
  have hpl : decide ((p : Int) ≤ (l0.length : Int)) = true := decide_eq_true (by omega)
  have hp0 : decide (0 ≤ (p : Int)) = true := decide_eq_true (by omega)
  clear hr0 hr2 h1 h2 h3 h4 h hA hc0 hc2
  go_enter Try.func85, Try.ntmps85
  have hpl' : (p ≤ l0.length) = True := eq_true (by have := HP.out; omega)
  go_wp2_with (first | (go_at_call 82; refine (cloneN_calls A0 c0 l0 _ HR0.out HA.out (by have := H4.out; omega)).mono ?_; rintro e w5 ⟨v1, rfl, ho, hb⟩; have HO := Aside0.mk ho; have HBs := Aside0.mk (below_step HB.out hb); have HR2b := Aside0.mk (Kd.C_below HR2.out hb); clear HB; have HB := HBs; clear HBs hb; obtain ⟨g3, c3, rfl, e3, e4, e5⟩ := Kd.R_form ho (by have := HP.out; have := HL.out; omega); have hcl := (own_cap_le ho); clear ho; have hne : (c3 = p) = False := eq_false (by have := HP.out; have := HL.out; omega)) | ((with_reducible refine gate_dst (N := 14) rfl ?_); go_loud (refine Kd.R_copy_at (enc := Value.int .i64) (h1 := fun _ => rfl) (0 : Int) (w0 := w) w.heap.size rfl (.tmp 12) (.tmp 13) 94 23 3 rfl Try.underlying94 (by kernel_rfl) g3 c3 p (l0.length - p) (c3 - p) l0 l2 A2 l2.length c2 (fun _ => True) rfl rfl ?aO ?aR ?aB ?aS ?aP ?aF ?aD ?_); go_loud (case aO => exact HO.out); go_loud (case aR => exact HR2b.out); go_loud (case aB => exact HB.out); go_loud (case aS => exact HB.out.size); go_loud (case aP => exact HL.out); go_loud (case aF => exact HP.out); go_loud (case aD => have := HP.out; omega); intro w7 ho hb; have HO2 := Aside0.mk ho; have HB2 := Aside0.mk hb; clear ho hb))
  go_ret
  exact ⟨_, rfl, HO2.out, HB2.out⟩
end Go.Proofs.Ytdkncfmlehcjmaa.X
end

section
namespace Go.Proofs.Ytdkncfmlehcjmaa.X
open Go.RowKit Go.Proofs.YtdkncfmlehcjmaaW.PrintWords Go.Proofs.YtdkncfmlehcjmaaW.PrintLast Go.Proofs.YtdkncfmlehcjmaaW.PrintMore
attribute [local go_sem] max2_int min2_int max_two min_two max_three min_three max_four min_four   -- for this text's walks alone
set_option linter.unusedVariables false
set_option linter.unusedSimpArgs false

mutual
def serial_number_singles.l0 : Nat → List Int → Int → List (List Int) → List Int → Int → Int → Option ((List (List Int)))
 | 0, _, _, _, _, _, _ => none
 | k + 1, x0, x1, x5, x9, x10, x11 => if x11 < x10 then (if 0 ≤ x11 then (if x11 < (x9.length : Int) then (serial_number_singles.l1 k x0 x1 x5 x11 (rd x9 x11) x9 x10 x11 x1 0) else (none)) else (none)) else (some x5)
def serial_number_singles.l1 : Nat → List Int → Int → List (List Int) → Int → Int → List Int → Int → Int → Int → Int → Option ((List (List Int)))
 | 0, _, _, _, _, _, _, _, _, _, _ => none
 | k + 1, x0, x1, x5, x6, x7, x9, x10, x11, x16, x17 => if x17 < x16 then (if x17 = x7 then (serial_number_singles.l1 k x0 x1 x5 x6 x7 x9 x10 x11 x16 (wrap64 (x17 + 1))) else ((serial_number_with.f x0 x6 (([x17] : List Int))).bind fun t866 => (if x5.length < 5864062014805 then (serial_number_singles.l1 k x0 x1 (x5 ++ [t866]) x6 x7 x9 x10 x11 x16 (wrap64 (x17 + 1))) else (none)))) else (serial_number_singles.l0 k x0 x1 x5 x9 x10 (wrap64 (x11 + 1)))
end
def serial_number_singles.f (k : Nat) (l0 : List Int) (a1 : Int) : Option ((List (List Int))) := serial_number_singles.l0 k l0 a1 ([] : List (List Int)) l0 (l0.length : Int) 0
set_option maxHeartbeats 8000000 in
set_option maxRecDepth 100000 in
theorem serial_number_singles.calls (k : Nat) (A0 : Option Addr) (c0 : Nat) (l0 : List Int) (a1 : Int) (r : List (List Int)) (w : World) (hr0 : Kd.C (Kd.int .i64) w A0 l0.length l0) (hc0 : l0.length ≤ c0) (h : serial_number_singles.f k l0 a1 = some r) :
  Calls Try.prog 76 #[.slice A0 l0.length c0, .int .i64 a1] w fun e w' => ∃ v0_ : Value, e = .returned (v0_) ∧ Kd.S (Kd.slice 3 (Kd.int .i64)) 94 w' w.heap.size (fun _ => True) v0_ r ∧ Below w.heap.size w w' := by
 have HR0 := Aside0.mk hr0
 have HC0 := Aside0.mk hc0
 clear hr0 hc0
 have HB := Aside0.mk (Below.refl w.heap.size w)
 have H : (serial_number_singles.l0 k l0 a1 ([] : List (List Int)) l0 (l0.length : Int) 0) = some r := h
 clear h
 have H' := Aside0.mk H
 clear H
 go_enter Try.func76, Try.ntmps76
 go_wp2
 go_loopg [5, 11] k (fun kq v5 v11 w' => ∃ (x5_1 : List (List Int)) (x11_1 : Int), v11 = .int .i64 x11_1 ∧ Aside0 (serial_number_singles.l0 kq l0 a1 x5_1 l0 (l0.length : Int) x11_1 = some r) ∧ Aside0 (kq ≤ k) ∧ Aside0 (Kd.S (Kd.slice 3 (Kd.int .i64)) 94 w' w.heap.size (fun _ => True) v5 x5_1) ∧ Aside0 (Below w.heap.size w w'))
 case atStart => exact ⟨(([] : List (List Int))), (0), (by first | rfl | (simp; done) | (simp [*]; done)), H', ⟨Nat.le_refl _⟩, ⟨by first | exact Kd.S_nil _ _ _ _ _ | exact Kd.N_nil _ _ _ _ _ | exact Kd.V_nil _ _ _ _ _ | exact Kd.Q_nil _ _ _ _ _ | exact Kd.R_nil _ _ _ _ _⟩, ⟨by repeat (first | (with_reducible first | exact HB.out | apply below_alloc | apply pw_below_drewN | apply below_drew1) | exact HB.out)⟩⟩
 case round =>
  clear H'
  try clear p2
  obtain ⟨x5_1, x11_1, rfl, HA, HK1, HO_5, HB⟩ := hrel
  cases gk with
  | zero => exact absurd HA.out (by simp [serial_number_singles.l0])
  | succ k1 =>
   have H := HA.out
   clear HA
   simp only [serial_number_singles.l0] at H
   by_cases c3 : x11_1 < (l0.length : Int)
   ·rw [if_pos c3] at H
    have c3b0 : decide (x11_1 < (l0.length : Int)) = true := decide_eq_true c3
    clear c3
    by_cases c4 : 0 ≤ x11_1
    ·rw [if_pos c4] at H
     have c4b0 : decide (0 ≤ x11_1) = true := decide_eq_true c4
     clear c4
     by_cases c5 : x11_1 < (l0.length : Int)
     ·rw [if_pos c5] at H
      have c5b0 : decide (x11_1 < (l0.length : Int)) = true := decide_eq_true c5
      clear c5
      have H' := Aside0.mk H
      clear H
      have p862 : 0 ≤ (x11_1 : Int) := of_decide_eq_true (by first | (with_reducible assumption) | assumption)
      have q862 : x11_1 < (l0.length : Int) := of_decide_eq_true (by first | (with_reducible assumption) | assumption)
      obtain ⟨ad862, e862, hx862_0⟩ := Kd.at_int HR0.out x11_1 p862 q862
      cases e862
      replace hx862_0 := (HB.out.cell (World.block_lt_of_cell? w _ hx862_0)).trans hx862_0
      replace p862 := eq_true p862
      replace q862 := eq_true q862
      go_wp2
      go_loopg [5, 17] k1 (fun kq v5 v17 w' => ∃ (x5_2 : List (List Int)) (x17_2 : Int), v17 = .int .i64 x17_2 ∧ Aside0 (serial_number_singles.l1 kq l0 a1 x5_2 x11_1 (rd l0 x11_1) l0 (l0.length : Int) x11_1 a1 x17_2 = some r) ∧ Aside0 (kq ≤ k1) ∧ Aside0 (Kd.S (Kd.slice 3 (Kd.int .i64)) 94 w' w.heap.size (fun _ => True) v5 x5_2) ∧ Aside0 (Below w.heap.size w w'))
      case atStart => exact ⟨(x5_1), (0), (by first | rfl | (simp; done) | (simp [*]; done)), H', ⟨Nat.le_refl _⟩, ⟨by (with_reducible repeat (first | apply Kd.S_alloc | apply Kd.S_drewN | apply Kd.S_drew)); exact HO_5.out⟩, ⟨by repeat (first | (with_reducible first | exact HB.out | apply below_alloc | apply pw_below_drewN | apply below_drew1) | exact HB.out)⟩⟩
      case round =>
       clear H'
       try clear p2
       try clear c3
       try clear c3b0
       try clear c4
       try clear c4b0
       try clear c5
       try clear c5b0
       try clear hx862_0
       try clear p2
       try clear p862
       try clear q862
       obtain ⟨x5_2, x17_2, rfl, HA, HK2, HO_5, HB⟩ := hrel
       cases gk with
       | zero => exact absurd HA.out (by simp [serial_number_singles.l1])
       | succ k2 =>
        have H := HA.out
        clear HA
        simp only [serial_number_singles.l1] at H
        by_cases c6 : x17_2 < a1
        ·rw [if_pos c6] at H
         have c6b0 : decide (x17_2 < a1) = true := decide_eq_true c6
         clear c6
         by_cases c7 : x17_2 = (rd l0 x11_1)
         ·rw [if_pos c7] at H
          have c7b0 : (x17_2 == (rd l0 x11_1)) = true := beq_iff_eq.mpr c7
          have c7b1 : (x17_2 != (rd l0 x11_1)) = false := bne_eq_false_iff_eq.mpr c7
          clear c7
          have H' := Aside0.mk H
          clear H
          go_wp2
          go_roundg k2
          case measure => have := HK1.out; have := HK2.out; omega
          case rel => exact ⟨(x5_2), (wrap64 (x17_2 + 1)), (by first | rfl | (simp; done) | (simp [*]; done)), H', ⟨by have := HK1.out; have := HK2.out; omega⟩, ⟨by (with_reducible repeat (first | apply Kd.S_alloc | apply Kd.S_drewN | apply Kd.S_drew)); exact HO_5.out⟩, ⟨by repeat (first | (with_reducible first | exact HB.out | apply below_alloc | apply pw_below_drewN | apply below_drew1) | exact HB.out)⟩⟩
         ·rw [if_neg c7] at H
          have c7b0 : (x17_2 == (rd l0 x11_1)) = false := beq_eq_false_iff_ne.mpr c7
          have c7b1 : (x17_2 != (rd l0 x11_1)) = true := bne_iff_ne.mpr c7
          obtain ⟨y863, hy863⟩ : ∃ y_ : List Int, y_ = (([x17_2] : List Int)) := ⟨_, rfl⟩
          replace H : ((serial_number_with.f l0 x11_1 y863).bind fun t866 => (if x5_2.length < 5864062014805 then (serial_number_singles.l1 k2 l0 a1 (x5_2 ++ [t866]) x11_1 (rd l0 x11_1) l0 (l0.length : Int) x11_1 a1 (wrap64 (x17_2 + 1))) else (none))) = some r := by first | (rw [hy863]; with_reducible exact H) | (have H2_ := (Option.bind_some _ _).symm.trans H; rw [hy863]; with_reducible exact H2_) | (have H2_ := (Option.bind_some _ _).symm.trans H; with_reducible exact H2_) | with_reducible exact H | (rw [hy863]; exact H) | exact H
          have Ny863 := Aside0.mk hy863
          clear hy863
          replace H := Option.bind_eq_some_iff.mp H
          obtain ⟨t866, A80, H⟩ := H
          replace H : (if x5_2.length < 5864062014805 then (serial_number_singles.l1 k2 l0 a1 (x5_2 ++ [t866]) x11_1 (rd l0 x11_1) l0 (l0.length : Int) x11_1 a1 (wrap64 (x17_2 + 1))) else (none)) = some r := H
          have A8 := Aside0.mk A80
          clear A80
          by_cases c9 : x5_2.length < 5864062014805
          ·rw [if_pos c9] at H
           have LMc9 := Aside0.mk c9
           clear c9
           obtain ⟨y869, hy869⟩ : ∃ y_ : List (List Int), y_ = (x5_2 ++ [t866]) := ⟨_, rfl⟩
           replace H : (serial_number_singles.l1 k2 l0 a1 y869 x11_1 (rd l0 x11_1) l0 (l0.length : Int) x11_1 a1 (wrap64 (x17_2 + 1))) = some r := by first | (rw [hy869]; with_reducible exact H) | (have H2_ := (Option.bind_some _ _).symm.trans H; rw [hy869]; with_reducible exact H2_) | (have H2_ := (Option.bind_some _ _).symm.trans H; with_reducible exact H2_) | with_reducible exact H | (rw [hy869]; exact H) | exact H
           have Ny869 := Aside0.mk hy869
           clear hy869
           have H' := Aside0.mk H
           clear H
           go_wp2_with (first | ((with_reducible refine gate_dst (N := 27) rfl ?_); refine Kd.R_lit (Kd.int .i64) _ 3 ?hg (N := 27) ?hd (xs := ([x17_2] : List Int)) (inner := [.int .i64 x17_2]) (ok := fun _ => True) (okp := fun _ => True) ?hr ?hp (fun _ hk => hk) trivial (Below.refl _ _) (Nat.le_refl _) (by simp) ?_; (case hd => rfl); (case hg => rfl); (case hr => first | (go_simp; done) | (go_simp; rfl)); (case hp => exact (Reps.one (show Kd.M (Kd.int .i64) _ _ _ x17_2 [.int .i64 x17_2] from rfl) (Reps.none _ _))); intro v864 w10 ho11 hb hg_ hnew_; clear hg_ hnew_; (first | rw [← Ny863.out] at ho11 | (simp only [Int.reduceToNat] at ho11; rw [← Ny863.out] at ho11)); have n0_ := Aside0.mk (Kd.S_elder' (by (with_reducible repeat (first | apply Kd.S_alloc | apply Kd.S_drewN | apply Kd.S_drew)); exact HO_5.out) (Kd.R_base ho11) hb); have n1_ := Aside0.mk (Kd.R_lower ho11 (below_size (by repeat (first | (with_reducible first | exact HB.out | apply below_alloc | apply pw_below_drewN | apply below_drew1) | exact HB.out)))); have n2_ := Aside0.mk (below_step (by repeat (first | (with_reducible first | exact HB.out | apply below_alloc | apply pw_below_drewN | apply below_drew1) | exact HB.out)) hb); clear HO_5; clear HB; have HO_5 := n0_; have HO865 := n1_; have HB := n2_; clear n0_ n1_ n2_; clear hb ho11; obtain ⟨Ao12, co12, eo12⟩ := Kd.R_slice HO865.out; subst eo12) | ((with_reducible refine gate_callee (f := 85) rfl ?_); refine goesL_ (some 28) rfl rfl Try.func85 (by kernel_rfl) rfl #[.slice (some ad862) l0.length c0, .int .i64 x11_1, .slice Ao12 y863.length co12] rfl (by (try simp only [List.map_toArray, List.map_cons, List.map_nil]); first | done | rfl | (simp only [List.length_drop, List.length_take]; rfl)) ?_; (with_reducible refine (serial_number_with.calls _ _ l0 x11_1 _ _ y863 t866 _ ?side1 ?side2 ?side3 ?side4 A8.out).mono ?_); (case side1 => repeat (first | exact (Kd.C_below HR0.out HB.out) | (with_reducible refine Kd.C_alloc ?_ _) | (with_reducible refine Kd.C_drewN ?_ _) | (with_reducible refine Kd.C_drew ?_))); (case side2 => exact HC0.out); (case side3 => repeat (first | exact (Kd.R_reads' HO865.out).2.2 | (with_reducible refine Kd.C_alloc ?_ _) | (with_reducible refine Kd.C_drewN ?_ _) | (with_reducible refine Kd.C_drew ?_))); (case side4 => exact (Kd.R_reads' HO865.out).2.1); rintro e w13 ⟨v867, rfl, ho0, hb⟩; refine ⟨_, rfl, ?_⟩; have n0_ := Aside0.mk (Kd.S_elder' (by (with_reducible repeat (first | apply Kd.S_alloc | apply Kd.S_drewN | apply Kd.S_drew)); exact HO_5.out) (Kd.R_base ho0) hb); have n1_ := Aside0.mk (Kd.R_elder' (by (with_reducible repeat (first | apply Kd.R_alloc | apply Kd.R_drewN | apply Kd.R_drew)); exact HO865.out) (Kd.R_base ho0) hb); have n2_ := Aside0.mk (Kd.R_lower (Kd.R_new' ho0 (Kd.R_lt (by (with_reducible repeat (first | apply Kd.R_alloc | apply Kd.R_drewN | apply Kd.R_drew)); exact HO865.out))) (below_size (by repeat (first | (with_reducible first | exact HB.out | apply below_alloc | apply pw_below_drewN | apply below_drew1) | exact HB.out)))); have n3_ := Aside0.mk (below_step (by repeat (first | (with_reducible first | exact HB.out | apply below_alloc | apply pw_below_drewN | apply below_drew1) | exact HB.out)) hb); clear HO_5; clear HO865; clear HB; have HO_5 := n0_; have HO865 := n1_; have HO868 := n2_; have HB := n3_; clear n0_ n1_ n2_ n3_; (try clear hb); (try clear hb2); (try clear hk); (try clear hi); (try clear ho0); obtain ⟨Ao15, co15, eo15⟩ := Kd.R_slice HO868.out; subst eo15) | ((with_reducible refine gate_builtin (b := .append) (xs := #[.tmp 23, .tmp 29]) rfl ?_); at_builtin; refine Kd.S_append (Kd.slice 3 (Kd.int .i64)) (w0 := w) w.heap.size rfl (.tmp 23) (.tmp 29) 95 94 (.slice none 0 0) 24 rfl Try.underlying95 info94 rfl (by decide) (by omega) u5 x5_2 t866 [.slice Ao15 t866.length co15] (fun k_ => some k_ ≠ (.slice Ao12 y863.length co12 : Value).ownBlock) (fun k_ => some k_ = (.slice Ao15 t866.length co15 : Value).ownBlock) rfl rfl ?aP (fun k_ hk_ => ((Kd.R_mono (ok' := fun k_ => ((fun k_ => some k_ ≠ (.slice Ao12 y863.length co12 : Value).ownBlock)) k_ ∧ some k_ ≠ (u5 : Value).ownBlock) (Kd.R_apart' (HO868.out) (Kd.S_typed HO_5.out) (by decide)) (fun k_ hk => ⟨hk.1.2, hk.2⟩))).1 k_ hk_.symm) ?aF ?aO ?aB ?aS ?aL ?_; (case aP => exact Kd.M_row (Kd.R_mono (Kd.R_tight rfl (Kd.R_mono (ok' := fun k_ => ((fun k_ => some k_ ≠ (.slice Ao12 y863.length co12 : Value).ownBlock)) k_ ∧ some k_ ≠ (u5 : Value).ownBlock) (Kd.R_apart' (HO868.out) (Kd.S_typed HO_5.out) (by decide)) (fun k_ hk => ⟨hk.1.2, hk.2⟩))) (fun _ h_ => h_))); (case aB => exact (by repeat (first | (with_reducible first | exact HB.out | apply below_alloc | apply pw_below_drewN | apply below_drew1) | exact HB.out))); (case aF => exact (fun k_ hk => Kd.fresh' (Kd.R_lt (by (with_reducible repeat (first | apply Kd.R_alloc | apply Kd.R_drewN | apply Kd.R_drew)); exact HO865.out)) k_ hk)); (case aO => exact (by (with_reducible repeat (first | apply Kd.S_alloc | apply Kd.S_drewN | apply Kd.S_drew)); exact Kd.S_mono HO_5.out (fun k_ hk => ⟨hk.1.2, fun e_ => hk.2 e_⟩))); (case aS => exact (below_size (by repeat (first | (with_reducible first | exact HB.out | apply below_alloc | apply pw_below_drewN | apply below_drew1) | exact HB.out)))); (case aL => have := LMc9.out; omega); intro v870 w14 ho hb hg hat; rw [← Ny869.out] at ho; have n0_ := Aside0.mk (Kd.R_over' (by (with_reducible repeat (first | apply Kd.R_alloc | apply Kd.R_drewN | apply Kd.R_drew)); exact HO865.out) (Kd.S_typed (by (with_reducible repeat (first | apply Kd.S_alloc | apply Kd.S_drewN | apply Kd.S_drew)); exact HO_5.out)) (by decide) hg); have n1_ := Aside0.mk (hb); have n2_ := Aside0.mk (ho); clear HO865; clear HB; clear HO_5; clear HO868; have HO865 := n0_; have HB := n1_; have HO871 := n2_; clear n0_ n1_ n2_; clear ho hb hg hat))
           go_roundg k2
           case measure => have := HK1.out; have := HK2.out; omega
           case rel => exact ⟨(y869), (wrap64 (x17_2 + 1)), (by first | rfl | (simp; done) | (simp [*]; done)), H', ⟨by have := HK1.out; have := HK2.out; omega⟩, ⟨by (with_reducible repeat (first | apply Kd.S_alloc | apply Kd.S_drewN | apply Kd.S_drew)); exact Kd.S_mono HO871.out (fun _ hk => trivial)⟩, ⟨by repeat (first | (with_reducible first | exact HB.out | apply below_alloc | apply pw_below_drewN | apply below_drew1) | exact HB.out)⟩⟩
          ·rw [if_neg c9] at H
           exact absurd H (by simp)
        ·rw [if_neg c6] at H
         have c6b0 : decide (x17_2 < a1) = false := decide_eq_false c6
         clear c6
         have H' := Aside0.mk H
         clear H
         go_wp2
         go_roundg k2
         case measure => have := HK1.out; have := HK2.out; omega
         case rel => exact ⟨(x5_2), (wrap64 (x11_1 + 1)), (by first | rfl | (simp; done) | (simp [*]; done)), H', ⟨by have := HK1.out; have := HK2.out; omega⟩, ⟨by (with_reducible repeat (first | apply Kd.S_alloc | apply Kd.S_drewN | apply Kd.S_drew)); exact HO_5.out⟩, ⟨by repeat (first | (with_reducible first | exact HB.out | apply below_alloc | apply pw_below_drewN | apply below_drew1) | exact HB.out)⟩⟩
     ·rw [if_neg c5] at H
      exact absurd H (by simp)
    ·rw [if_neg c4] at H
     exact absurd H (by simp)
   ·rw [if_neg c3] at H
    have c3b0 : decide (x11_1 < (l0.length : Int)) = false := decide_eq_false c3
    clear c3
    obtain rfl := Option.some.inj H
    go_wp2
    go_ret
    exact ⟨_, by first | rfl | (simp [errW_none, errW_some] <;> rfl) | (simp [*, errW_none, errW_some] <;> rfl), by (with_reducible repeat (first | apply Kd.S_alloc | apply Kd.S_drewN | apply Kd.S_drew)); exact HO_5.out, by repeat (first | (with_reducible first | exact HB.out | apply below_alloc | apply pw_below_drewN | apply below_drew1) | exact HB.out)⟩

end Go.Proofs.Ytdkncfmlehcjmaa.X
end
