/- The searches for a neutral element and for a triple where a table is no group: the program's and the reference's find the same. -/
import Derived.Test.YtdkncfmlehcjmaaTS5
import Derived.Test.YtdkncfmlehcjmaaTX44
import Derived.Test.YtdkncfmlehcjmaaTX46
import Derived.Test.YtdkncfmlehcjmaaTX47
set_option linter.unusedVariables false
set_option linter.unusedSimpArgs false
set_option linter.unusedSectionVars false
namespace Go.Proofs.Ytdkncfmlehcjmaa.X
open Go.RowKit Go.Proofs.YtdkncfmlehcjmaaW.PrintWords
section
variable {t : List (List Int)} {n : Nat} {q : Nat → Nat → Nat} (C : Cells t n q)
/-! ### The neutral element -/
def NeutTo (q : Nat → Nat → Nat) (e i : Nat) : Prop := ∀ d, d < i → q e d = d ∧ q d e = d
instance (q : Nat → Nat → Nat) (e i : Nat) : Decidable (NeutTo q e i) := by unfold NeutTo; infer_instance
theorem NeutTo.succ (q : Nat → Nat → Nat) (e i : Nat) : NeutTo q e (i + 1) ↔ NeutTo q e i ∧ q e i = i ∧ q i e = i := by
  unfold NeutTo
  constructor
  · exact fun h => ⟨fun d hd => h d (by omega), h i (by omega)⟩
  · rintro ⟨h1, h2⟩ d hd
    by_cases e' : d = i
    · subst e'; exact h2
    · exact h1 d (by omega)
include C in
theorem neut_uniq (a b : Nat) (ha : a < n) (hb : b < n) (h1 : NeutTo q a n) (h2 : NeutTo q b n) : a = b := by
  have := (h1 b hb).1
  have := (h2 a ha).2
  omega
theorem dec_and {p q : Prop} [Decidable p] [Decidable q] (h : p) : decide (p ∧ q) = decide q := by simp [h]
include C in
theorem group_1 (e : Nat) (he : e < n) (x5 : Int) (r : Int × Int × Int × Int × Int) (hn : Ev (fun k => serial_Group.l0 k t (if NeutTo q e n then (e : Int) else x5) t n ((e + 1 : Nat) : Int)) r) (d : Nat) :
    ∀ i : Nat, i + d = n → Ev (fun k => serial_Group.l1 k t x5 e (decide (NeutTo q e i)) t n e (rd_L1 t (e : Int)) n i) r := by
  have n12 := C.n12
  have hl := C.len
  have hre := C.row e he
  induction d with
  | zero =>
    intro i hi
    obtain rfl : i = n := by omega
    refine Ev.step (fun k => ?_) hn
    simp only [serial_Group.l1]; rw [if_neg (by omega), w64 (by omega) (by omega)]
    by_cases h : NeutTo q e i <;> simp [h]
  | succ d ih =>
    intro i hi
    have hn := ih (i + 1) (by omega)
    have a1 := C.at_ e i he (by omega)
    have a2 := C.at_ i e (by omega) he
    have r2 := C.row i (by omega)
    refine Ev.step (fun k => ?_) hn
    simp only [serial_Group.l1]
    rw [a1, a2, r2, hre, hl, if_pos (by omega), if_pos (by omega), if_pos (by omega), w64 (by omega) (by omega)]
    have hs := NeutTo.succ q e i
    by_cases h : NeutTo q e i
    · rw [if_pos (decide_eq_true h)]
      by_cases h2 : q e i = i
      · rw [if_pos (by omega), if_pos (by omega), if_pos (by omega), if_pos (by omega)]
        have : (((q i e : Nat) : Int) == (i : Int)) = decide (NeutTo q e (i + 1)) := by
          rw [Bool.eq_iff_iff]; simp only [beq_iff_eq, decide_eq_true_eq, hs, h, h2, true_and]; omega
        rw [this]; rfl
      · rw [if_neg (by omega), decide_eq_false (show ¬ NeutTo q e (i + 1) from fun h' => h2 (hs.1 h').2.1)]; rfl
    · rw [if_neg (by simpa using h), decide_eq_false (show ¬ NeutTo q e (i + 1) from fun h' => h (hs.1 h').1)]; rfl
include C in
theorem neutral_1 (e : Nat) (he : e < n) (r : Int × Bool) (hn : Ev (fun k => if NeutTo q e n then some ((e : Int), true) else tickingref11_Neutral.l0 k t ((e + 1 : Nat) : Int)) r) (d : Nat) :
    ∀ i : Nat, i + d = n → Ev (fun k => tickingref11_Neutral.l1 k t e (decide (NeutTo q e i)) i) r := by
  have n12 := C.n12
  have hl := C.len
  have hre := C.row e he
  induction d with
  | zero =>
    intro i hi
    obtain rfl : i = n := by omega
    refine Ev.step (fun k => ?_) hn
    simp only [tickingref11_Neutral.l1]; rw [if_neg (by omega), w64 (by omega) (by omega)]
    by_cases h : NeutTo q e i <;> simp [h]
  | succ d ih =>
    intro i hi
    have hn := ih (i + 1) (by omega)
    have a1 := C.at_ e i he (by omega)
    have a2 := C.at_ i e (by omega) he
    have r2 := C.row i (by omega)
    refine Ev.step (fun k => ?_) hn
    simp only [tickingref11_Neutral.l1]
    rw [a1, a2, r2, hre, hl, if_pos (by omega), w64 (by omega) (by omega)]
    have hs := NeutTo.succ q e i
    by_cases h : NeutTo q e i
    · rw [if_pos (decide_eq_true h), if_pos (by omega), if_pos (by omega), if_pos (by omega), if_pos (by omega)]
      by_cases h2 : q e i = i
      · rw [if_pos (by omega), if_pos (by omega)]
        have : (((q i e : Nat) : Int) == (i : Int)) = decide (NeutTo q e (i + 1)) := by
          rw [Bool.eq_iff_iff]; simp only [beq_iff_eq, decide_eq_true_eq, hs, h, h2, true_and]; omega
        rw [this]; rfl
      · rw [if_neg (by omega), decide_eq_false (show ¬ NeutTo q e (i + 1) from fun h' => h2 (hs.1 h').2.1)]; rfl
    · rw [if_neg (by simpa using h), decide_eq_false (show ¬ NeutTo q e (i + 1) from fun h' => h (hs.1 h').1)]; rfl
theorem neutTo_0 (q : Nat → Nat → Nat) (e : Nat) : NeutTo q e 0 := by intro d hd; omega
include C in
theorem group_0 (f : Nat) (hf : n ≤ f ∨ NeutTo q f n) (r : Int × Int × Int × Int × Int) (hn : Ev (fun k => if f < n then serial_Group.l2 k t f n 0 else some (0, 0, 0, 0, 6)) r) (hu : ∀ e, e < n → NeutTo q e n → e = f) (d : Nat) :
    ∀ e : Nat, e + d = n → Ev (fun k => serial_Group.l0 k t (if f < e then (f : Int) else -1) t n e) r := by
  have hl := C.len
  induction d with
  | zero =>
    intro e he
    obtain rfl : e = n := by omega
    refine Ev.step (fun k => ?_) hn
    simp only [serial_Group.l0]; rw [if_neg (by omega), hl]
    by_cases h : f < e
    · rw [if_pos h, if_pos h, if_neg (by omega)]
    · rw [if_neg h, if_neg h]; rfl
  | succ d ih =>
    intro e he
    have h1 := group_1 C e (by omega) (if f < e then (f : Int) else -1) r (by
      refine Ev.congr (fun k => ?_) (ih (e + 1) (by omega))
      by_cases h : NeutTo q e n
      · obtain rfl := hu e (by omega) h
        rw [if_pos h, if_pos (by omega)]
      · have : e ≠ f := by
          rintro rfl
          rcases hf with hf | hf
          · omega
          · exact h hf
        rw [if_neg h]
        by_cases h3 : f < e
        · rw [if_pos h3, if_pos (by omega)]
        · rw [if_neg h3, if_neg (by omega)]) n 0 (by omega)
    rw [decide_eq_true (neutTo_0 q e)] at h1
    refine Ev.step (fun k => ?_) h1
    simp only [serial_Group.l0]; rw [if_pos (by omega), if_pos (by omega), if_pos (by omega), C.row e (by omega)]; rfl
include C in
theorem neutral_0 (f : Nat) (hf : n ≤ f ∨ NeutTo q f n) (hu : ∀ e, e < n → NeutTo q e n → e = f) (d : Nat) :
    ∀ e : Nat, e + d = n → e ≤ f → Ev (fun k => tickingref11_Neutral.l0 k t e) (if f < n then ((f : Int), true) else (0, false)) := by
  have hl := C.len
  induction d with
  | zero =>
    intro e he hef
    obtain rfl : e = n := by omega
    rw [if_neg (by omega)]
    refine Ev.step (f := fun _ => some (0, false)) (fun k => ?_) (Ev.now _)
    simp only [tickingref11_Neutral.l0]; rw [if_neg (by omega)]
  | succ d ih =>
    intro e he hef
    have h1 := neutral_1 C e (by omega) (if f < n then ((f : Int), true) else (0, false)) (by
      by_cases h : NeutTo q e n
      · obtain rfl := hu e (by omega) h
        simp only [h, if_true]; rw [if_pos (by omega)]; exact Ev.now _
      · have : e ≠ f := by
          rintro rfl
          rcases hf with hf | hf
          · omega
          · exact h hf
        simp only [h, if_false]
        exact ih (e + 1) (by omega) (by omega)) n 0 (by omega)
    rw [decide_eq_true (neutTo_0 q e)] at h1
    refine Ev.step (fun k => ?_) h1
    simp only [tickingref11_Neutral.l0]; rw [if_pos (by omega)]; rfl

/-! ### A triple that is uneven -/
def Grp (f : Int) (r : Int × Int × Int × Bool) : Int × Int × Int × Int × Int := if r.2.2.2 then (-1, r.1, r.2.1, r.2.2.1, 0) else (f, 0, 0, 0, 0)
include C in
theorem uneven_2 (f : Nat) (x c : Nat) (hx : x < n) (hc : c < n)
    (hn : ∃ r, Found r ∧ Ev (fun k => serial_Group.l3 k t f x n x n ((c + 1 : Nat) : Int)) (Grp f r) ∧ Ev (fun k => tickingref11_Uneven.l1 k t n x ((c + 1 : Nat) : Int)) r) (d : Nat) :
    ∀ e : Nat, e + d = n → ∃ r, Found r ∧ Ev (fun k => serial_Group.l4 k t f x c n x n c n e) (Grp f r) ∧ Ev (fun k => tickingref11_Uneven.l2 k t n x c e) r := by
  have n12 := C.n12
  have hl := C.len
  induction d with
  | zero =>
    intro e he
    obtain ⟨r, h1, h2, h3⟩ := hn
    refine ⟨r, h1, Ev.step (fun k => ?_) h2, Ev.step (fun k => ?_) h3⟩
    · simp only [serial_Group.l4]; rw [if_neg (by omega), w64 (by omega) (by omega)]; rfl
    · simp only [tickingref11_Uneven.l2]; rw [if_neg (by omega), w64 (by omega) (by omega)]; rfl
  | succ d ih =>
    intro e he
    have hrx := C.row x hx
    have hrc := C.row c hc
    have a1 := C.at_ x c hx hc
    have a2 := C.at_ c e hc (by omega)
    have b1 := C.lt x c hx hc
    have b2 := C.lt c e hc (by omega)
    have r1 := C.row _ b1
    by_cases hw : rd (rd_L1 t ((q x c : Nat) : Int)) e = rd (rd_L1 t (x : Int)) ((q c e : Nat) : Int)
    · obtain ⟨r, h1, h2, h3⟩ := ih (e + 1) (by omega)
      refine ⟨r, h1, Ev.step (fun k => ?_) h2, Ev.step (fun k => ?_) h3⟩
      · simp only [serial_Group.l4]
        rw [a1, a2, r1, hrc, hrx, hl]
        rw [if_pos (by omega), if_pos (by omega), if_pos (by omega), if_pos (by omega), if_pos (by omega), if_pos (by omega), if_pos (by omega), if_pos (by omega), if_pos (by omega), if_pos (by omega), if_pos (by omega), if_pos (by omega), if_pos (by omega), if_pos hw, w64 (by omega) (by omega)]; rfl
      · simp only [tickingref11_Uneven.l2]
        rw [a1, a2, r1, hrc, hrx, hl]
        rw [if_pos (by omega), if_pos (by omega), if_pos (by omega), if_pos (by omega), if_pos (by omega), if_pos (by omega), if_pos (by omega), if_pos (by omega), if_pos (by omega), if_pos (by omega), if_pos (by omega), if_pos (by omega), if_pos (by omega), if_pos hw, w64 (by omega) (by omega)]; rfl
    · refine ⟨(x, c, e, true), .inl rfl, Ev.step (f := fun _ => some (-1, (x : Int), (c : Int), (e : Int), 0)) (fun k => ?_) (Ev.now _), Ev.step (f := fun _ => some ((x : Int), (c : Int), (e : Int), true)) (fun k => ?_) (Ev.now _)⟩
      · simp only [serial_Group.l4]
        rw [a1, a2, r1, hrc, hrx, hl]
        rw [if_pos (by omega), if_pos (by omega), if_pos (by omega), if_pos (by omega), if_pos (by omega), if_pos (by omega), if_pos (by omega), if_pos (by omega), if_pos (by omega), if_pos (by omega), if_pos (by omega), if_pos (by omega), if_pos (by omega), if_neg hw]
      · simp only [tickingref11_Uneven.l2]
        rw [a1, a2, r1, hrc, hrx, hl]
        rw [if_pos (by omega), if_pos (by omega), if_pos (by omega), if_pos (by omega), if_pos (by omega), if_pos (by omega), if_pos (by omega), if_pos (by omega), if_pos (by omega), if_pos (by omega), if_pos (by omega), if_pos (by omega), if_pos (by omega), if_neg hw]
include C in
theorem uneven_1 (f : Nat) (x : Nat) (hx : x < n)
    (hn : ∃ r, Found r ∧ Ev (fun k => serial_Group.l2 k t f n ((x + 1 : Nat) : Int)) (Grp f r) ∧ Ev (fun k => tickingref11_Uneven.l0 k t n ((x + 1 : Nat) : Int)) r) (d : Nat) :
    ∀ c : Nat, c + d = n → ∃ r, Found r ∧ Ev (fun k => serial_Group.l3 k t f x n x n c) (Grp f r) ∧ Ev (fun k => tickingref11_Uneven.l1 k t n x c) r := by
  have n12 := C.n12
  have hl := C.len
  induction d with
  | zero =>
    intro c hc
    obtain ⟨r, h1, h2, h3⟩ := hn
    refine ⟨r, h1, Ev.step (fun k => ?_) h2, Ev.step (fun k => ?_) h3⟩
    · simp only [serial_Group.l3]; rw [if_neg (by omega), w64 (by omega) (by omega)]; rfl
    · simp only [tickingref11_Uneven.l1]; rw [if_neg (by omega), w64 (by omega) (by omega)]; rfl
  | succ d ih =>
    intro c hc
    obtain ⟨r, h1, h2, h3⟩ := uneven_2 C f x c hx (by omega) (ih (c + 1) (by omega)) n 0 (by omega)
    refine ⟨r, h1, Ev.step (fun k => ?_) h2, Ev.step (fun k => ?_) h3⟩
    · simp only [serial_Group.l3]; rw [if_pos (by omega), hl]; rfl
    · simp only [tickingref11_Uneven.l1]; rw [if_pos (by omega)]; rfl
include C in
theorem uneven_0 (f : Nat) (d : Nat) : ∀ x : Nat, x + d = n → ∃ r, Found r ∧ Ev (fun k => serial_Group.l2 k t f n x) (Grp f r) ∧ Ev (fun k => tickingref11_Uneven.l0 k t n x) r := by
  have hl := C.len
  induction d with
  | zero =>
    intro x hx
    refine ⟨_, .inr rfl, Ev.step (f := fun _ => some ((f : Int), 0, 0, 0, 0)) (fun k => ?_) (Ev.now _), Ev.step (f := fun _ => some (0, 0, 0, false)) (fun k => ?_) (Ev.now _)⟩
    · simp only [serial_Group.l2]; rw [if_neg (by omega)]
    · simp only [tickingref11_Uneven.l0]; rw [if_neg (by omega)]
  | succ d ih =>
    intro x hx
    obtain ⟨r, h1, h2, h3⟩ := uneven_1 C f x (by omega) (ih (x + 1) (by omega)) n 0 (by omega)
    refine ⟨r, h1, Ev.step (fun k => ?_) h2, Ev.step (fun k => ?_) h3⟩
    · simp only [serial_Group.l2]; rw [if_pos (by omega), hl]; rfl
    · simp only [tickingref11_Uneven.l0]; rw [if_pos (by omega)]; rfl
end
/-- What Group and the reference's two searches find: the neutral element f (none: ok is false), the uneven triple r. -/
theorem group_both {t : List (List Int)} (ht : TabOk t) : ∃ (f : Nat) (ok : Bool) (r : Int × Int × Int × Bool), Found r ∧ Ev (fun k => serial_Group.f k t) (if ok then Grp f r else (0, 0, 0, 0, 6)) ∧ Ev (fun k => tickingref11_Neutral.f k t) (if ok then ((f : Int), true) else (0, false)) ∧ Ev (fun k => tickingref11_Uneven.f k t) r := by
  obtain ⟨n, q, C⟩ := ht.cells
  have hl := C.len
  obtain ⟨f, hf, hu⟩ : ∃ f, (n ≤ f ∨ NeutTo q f n) ∧ ∀ e, e < n → NeutTo q e n → e = f := by
    by_cases h : ∃ f, f < n ∧ NeutTo q f n
    · obtain ⟨f, h1, h2⟩ := h
      exact ⟨f, .inr h2, fun e he hN => neut_uniq C e f he h1 hN h2⟩
    · exact ⟨n, .inl (Nat.le_refl _), fun e he hN => absurd ⟨e, he, hN⟩ h⟩
  obtain ⟨r, h1, h2, h3⟩ := uneven_0 C f n 0 (by omega)
  refine ⟨f, decide (f < n), r, h1, ?_, ?_, ?_⟩
  · have := group_0 C f hf (if decide (f < n) then Grp f r else (0, 0, 0, 0, 6)) (by
      by_cases h : f < n
      · simp only [h, if_true, decide_true]; exact h2
      · simp only [h, if_false, decide_false, Bool.false_eq_true]; exact Ev.now _) hu n 0 (by omega)
    refine Ev.congr (fun k => ?_) this
    unfold serial_Group.f serial_isTable.f
    rw [isTabOk ht, hl]; rfl
  · have := neutral_0 C f hf hu n 0 (by omega) (Nat.zero_le _)
    refine Ev.congr (fun k => rfl) ?_
    by_cases h : f < n
    · simp only [h, if_true, decide_true] at this ⊢; exact this
    · simp only [h, if_false, decide_false, Bool.false_eq_true] at this ⊢; exact this
  · refine Ev.congr (fun k => ?_) h3
    unfold tickingref11_Uneven.f; rw [hl]; rfl
theorem ev_sGroup_no {t : List (List Int)} (h : isTab t = false) : Ev (fun k => serial_Group.f k t) (0, 0, 0, 0, 2) := by
  refine Ev.some_ fun k => ?_
  unfold serial_Group.f serial_isTable.f; rw [h]; rfl
end Go.Proofs.Ytdkncfmlehcjmaa.X
