/- What errors make of a number, in plain words: singles, neighbors, twins, jumps; comparing numbers. -/
import Derived.Test.YtdkncfmlehcjmaaTS2
import Derived.Test.YtdkncfmlehcjmaaTX76
import Derived.Test.YtdkncfmlehcjmaaTX77
import Derived.Test.YtdkncfmlehcjmaaTX78
import Derived.Test.YtdkncfmlehcjmaaTX79
import Derived.Test.YtdkncfmlehcjmaaTX68
set_option linter.unusedVariables false
set_option linter.unusedSimpArgs false
namespace Go.Proofs.Ytdkncfmlehcjmaa.X
open Go.RowKit Go.Proofs.YtdkncfmlehcjmaaW.PrintWords
/-- The errors of a kind at a position. -/
def errAt (kind : Nat) (l : List Int) (n : Nat) (i : Nat) : List (List Int) :=
  match kind with
  | 0 => (List.range n).flatMap fun (x : Nat) => if (x : Int) = rd l (i : Int) then [] else [withN l (i : Int) [(x : Int)]]
  | 1 => if rd l (i : Int) = rd l ((i + 1 : Nat) : Int) then [] else [withN l (i : Int) [rd l ((i + 1 : Nat) : Int), rd l (i : Int)]]
  | 2 => (List.range n).flatMap fun (x : Nat) => if rd l (i : Int) = rd l ((i + 1 : Nat) : Int) then (if (x : Int) = rd l ((i + 1 : Nat) : Int) then [] else [withN l (i : Int) [(x : Int), (x : Int)]]) else []
  | _ => if rd l (i : Int) = rd l ((i + 2 : Nat) : Int) then [] else [withN l (i : Int) [rd l ((i + 2 : Nat) : Int), rd l ((i + 1 : Nat) : Int), rd l (i : Int)]]
/-- How many positions an error of a kind has. -/
def errN (kind len : Nat) : Nat := match kind with | 0 => len | 1 => len - 1 | 2 => len - 1 | _ => len - 2
def errTo (kind : Nat) (l : List Int) (n i : Nat) : List (List Int) := (List.range i).flatMap (errAt kind l n)
def errsOf (kind : Nat) (l : List Int) (n : Nat) : List (List Int) := errTo kind l n (errN kind l.length)
theorem errTo_succ (kind : Nat) (l : List Int) (n i : Nat) : errTo kind l n (i + 1) = errTo kind l n i ++ errAt kind l n i := by
  simp [errTo, List.range_succ]
theorem flen {α : Type} (F : Nat → List α) (h : ∀ x, (F x).length ≤ 1) (n : Nat) : ((List.range n).flatMap F).length ≤ n := by
  induction n with
  | zero => simp
  | succ n ih => rw [List.range_succ, List.flatMap_append, List.length_append]; have := h n; simp only [List.flatMap_cons, List.flatMap_nil, List.append_nil]; omega
theorem errAt_len (kind : Nat) (l : List Int) (n i : Nat) (hn : 1 ≤ n) : (errAt kind l n i).length ≤ n := by
  unfold errAt
  split
  · exact flen _ (fun x => by split <;> simp) n
  · split <;> simp; omega
  · exact flen _ (fun x => by split; split <;> simp; simp) n
  · split <;> simp; omega
theorem errTo_len (kind : Nat) (l : List Int) (n i : Nat) (hn : 1 ≤ n) : (errTo kind l n i).length ≤ i * n := by
  induction i with
  | zero => simp [errTo]
  | succ i ih => rw [errTo_succ, List.length_append, Nat.add_mul, Nat.one_mul]; have := errAt_len kind l n i hn; omega
theorem errTo_small (kind : Nat) (l : List Int) (n i : Nat) (hn : 1 ≤ n) (hn2 : n ≤ 12) (hi : i ≤ 1000) : (errTo kind l n i).length ≤ 12000 := by
  have h1 := errTo_len kind l n i hn
  have h2 : i * n ≤ 1000 * 12 := Nat.mul_le_mul hi hn2
  omega
theorem with_eq (l : List Int) (i : Nat) (ds : List Int) (h : i + ds.length ≤ l.length) (hd : 0 < ds.length) (hl : l.length ≤ 1000) : serial_number_with.f l (i : Int) ds = some (withN l (i : Int) ds) := by
  unfold serial_number_with.f
  rw [if_pos (by omega)]
section
variable {l : List Int} {n : Nat} (hl : l.length ≤ 1000) (hn : 1 ≤ n) (hn2 : n ≤ 12)
include hl hn hn2
theorem ev_singles_1 (i : Nat) (hi : i < l.length) (r : List (List Int)) (h : Ev (fun k => serial_number_singles.l0 k l n (errTo 0 l n (i + 1)) l l.length ((i + 1 : Nat) : Int)) r) (d : Nat) : ∀ x : Nat, x + d = n →
    Ev (fun k => serial_number_singles.l1 k l n (errTo 0 l n i ++ (List.range x).flatMap fun (x : Nat) => if (x : Int) = rd l (i : Int) then [] else [withN l (i : Int) [(x : Int)]]) i (rd l (i : Int)) l l.length i n x) r := by
  induction d with
  | zero =>
    intro x hx
    obtain rfl : x = n := by omega
    rw [errTo_succ] at h
    refine Ev.step (fun k => ?_) h
    simp only [serial_number_singles.l1]
    rw [if_neg (by omega), w64 (by omega) (by omega)]; rfl
  | succ d ih =>
    intro x hx
    have h1 := ih (x + 1) (by omega)
    rw [List.range_succ, List.flatMap_append, ← List.append_assoc] at h1
    refine Ev.step (fun k => ?_) h1
    simp only [serial_number_singles.l1]
    rw [if_pos (by omega), w64 (x := (x : Int) + 1) (by omega) (by omega)]
    have hlen := errTo_small 0 l n i hn hn2 (by omega)
    have hlen2 := flen (fun (x : Nat) => if (x : Int) = rd l (i : Int) then ([] : List (List Int)) else [withN l (i : Int) [(x : Int)]]) (fun x => by split <;> simp) x
    by_cases hq : (x : Int) = rd l (i : Int)
    · rw [if_pos hq]; simp [hq]
    · rw [if_neg hq, with_eq l i _ (by simp; omega) (by simp) hl]
      simp only [Option.bind_some]
      rw [if_pos (by rw [List.length_append]; omega)]; simp [hq]
theorem ev_singles_0 (d : Nat) : ∀ i : Nat, i + d = l.length → Ev (fun k => serial_number_singles.l0 k l n (errTo 0 l n i) l l.length i) (errsOf 0 l n) := by
  induction d with
  | zero =>
    intro i hi
    obtain rfl : i = l.length := by omega
    refine Ev.step (f := fun _ => some (errsOf 0 l n)) (fun k => ?_) (Ev.now _)
    simp only [serial_number_singles.l0]; rw [if_neg (by omega)]; rfl
  | succ d ih =>
    intro i hi
    have h := ev_singles_1 hl hn hn2 i (by omega) _ (ih (i + 1) (by omega)) n 0 (by omega)
    simp only [List.range_zero, List.flatMap_nil, List.append_nil] at h
    refine Ev.step (fun k => ?_) h
    simp only [serial_number_singles.l0]
    rw [if_pos (by omega), if_pos (by omega), if_pos (by omega)]; rfl
theorem ev_singles : Ev (fun k => serial_number_singles.f k l n) (errsOf 0 l n) := ev_singles_0 hl hn hn2 l.length 0 (by omega)
theorem ev_neighbors_0 (d : Nat) : ∀ i : Nat, i + d = l.length - 1 → Ev (fun k => serial_number_neighbors.l0 k l (errTo 1 l n i) ((i + 1 : Nat) : Int)) (errsOf 1 l n) := by
  induction d with
  | zero =>
    intro i hi
    obtain rfl : i = l.length - 1 := by omega
    refine Ev.step (f := fun _ => some (errsOf 1 l n)) (fun k => ?_) (Ev.now _)
    simp only [serial_number_neighbors.l0]; rw [if_neg (by omega)]; rfl
  | succ d ih =>
    intro i hi
    have h := ih (i + 1) (by omega)
    have hlen := errTo_small 1 l n i hn hn2 (by omega)
    refine Ev.step (fun k => ?_) h
    simp only [serial_number_neighbors.l0]
    have e1 : wrap64 (((i + 1 : Nat) : Int) - 1) = (i : Int) := by rw [w64 (by omega) (by omega)]; omega
    have e2 : wrap64 (((i + 1 : Nat) : Int) + 1) = ((i + 1 + 1 : Nat) : Int) := by rw [w64 (by omega) (by omega)]; omega
    rw [e1, e2, if_pos (by omega), if_pos (by omega), if_pos (by omega), if_pos (by omega), errTo_succ]
    by_cases hq : rd l (i : Int) = rd l ((i + 1 : Nat) : Int)
    · rw [if_pos hq, show errAt 1 l n i = [] by simp [errAt, hq], List.append_nil]
    · rw [if_neg hq, with_eq l i _ (by simp; omega) (by simp) hl]
      simp only [Option.bind_some]
      rw [if_pos (by omega), show errAt 1 l n i = _ from if_neg hq]
theorem ev_neighbors : Ev (fun k => serial_number_neighbors.f k l n) (errsOf 1 l n) := ev_neighbors_0 hl hn hn2 (l.length - 1) 0 (by omega)
theorem ev_twins_1 (i : Nat) (hi : i + 1 < l.length) (r : List (List Int)) (h : Ev (fun k => serial_number_twins.l0 k l n (errTo 2 l n (i + 1)) ((i + 1 + 1 : Nat) : Int)) r) (d : Nat) : ∀ x : Nat, x + d = n →
    Ev (fun k => serial_number_twins.l1 k l n (errTo 2 l n i ++ (List.range x).flatMap fun (x : Nat) => if rd l (i : Int) = rd l ((i + 1 : Nat) : Int) then (if (x : Int) = rd l ((i + 1 : Nat) : Int) then [] else [withN l (i : Int) [(x : Int), (x : Int)]]) else []) ((i + 1 : Nat) : Int) n x) r := by
  have e1 : wrap64 (((i + 1 : Nat) : Int) - 1) = (i : Int) := by rw [w64 (by omega) (by omega)]; omega
  have e2 : wrap64 (((i + 1 : Nat) : Int) + 1) = ((i + 1 + 1 : Nat) : Int) := by rw [w64 (by omega) (by omega)]; omega
  induction d with
  | zero =>
    intro x hx
    obtain rfl : x = n := by omega
    rw [errTo_succ] at h
    refine Ev.step (fun k => ?_) h
    simp only [serial_number_twins.l1]
    rw [if_neg (by omega), e2]; rfl
  | succ d ih =>
    intro x hx
    have h1 := ih (x + 1) (by omega)
    rw [List.range_succ, List.flatMap_append, ← List.append_assoc] at h1
    refine Ev.step (fun k => ?_) h1
    simp only [serial_number_twins.l1]
    rw [e1, if_pos (by omega), w64 (x := (x : Int) + 1) (by omega) (by omega), if_pos (by omega), if_pos (by omega), if_pos (by omega), if_pos (by omega)]
    have hlen := errTo_small 2 l n i hn hn2 (by omega)
    have hlen2 := flen (fun (x : Nat) => if rd l (i : Int) = rd l ((i + 1 : Nat) : Int) then (if (x : Int) = rd l ((i + 1 : Nat) : Int) then ([] : List (List Int)) else [withN l (i : Int) [(x : Int), (x : Int)]]) else []) (fun x => by split; split <;> simp; simp) x
    by_cases hp : rd l (i : Int) = rd l ((i + 1 : Nat) : Int)
    · rw [if_pos hp]
      by_cases hq : (x : Int) = rd l ((i + 1 : Nat) : Int)
      · rw [if_pos hq]; simp only [List.flatMap_cons, List.flatMap_nil, List.append_nil]; rw [if_pos hp, if_pos hq, List.append_nil]; rfl
      · rw [if_neg hq, with_eq l i _ (by simp; omega) (by simp) hl]
        simp only [Option.bind_some]
        rw [if_pos (by rw [List.length_append]; omega)]; simp only [List.flatMap_cons, List.flatMap_nil, List.append_nil]; rw [if_pos hp, if_neg hq]; rfl
    · rw [if_neg hp]; simp only [List.flatMap_cons, List.flatMap_nil, List.append_nil]; rw [if_neg hp, List.append_nil]; rfl
theorem ev_twins_0 (d : Nat) : ∀ i : Nat, i + d = l.length - 1 → Ev (fun k => serial_number_twins.l0 k l n (errTo 2 l n i) ((i + 1 : Nat) : Int)) (errsOf 2 l n) := by
  induction d with
  | zero =>
    intro i hi
    obtain rfl : i = l.length - 1 := by omega
    refine Ev.step (f := fun _ => some (errsOf 2 l n)) (fun k => ?_) (Ev.now _)
    simp only [serial_number_twins.l0]; rw [if_neg (by omega)]; rfl
  | succ d ih =>
    intro i hi
    have h := ev_twins_1 hl hn hn2 i (by omega) _ (ih (i + 1) (by omega)) n 0 (by omega)
    simp only [List.range_zero, List.flatMap_nil, List.append_nil] at h
    refine Ev.step (fun k => ?_) h
    simp only [serial_number_twins.l0]
    rw [if_pos (by omega)]; rfl
theorem ev_twins : Ev (fun k => serial_number_twins.f k l n) (errsOf 2 l n) := ev_twins_0 hl hn hn2 (l.length - 1) 0 (by omega)
theorem ev_jumps_0 (d : Nat) : ∀ i : Nat, i + d = l.length - 2 → Ev (fun k => serial_number_jumps.l0 k l (errTo 3 l n i) ((i + 2 : Nat) : Int)) (errsOf 3 l n) := by
  induction d with
  | zero =>
    intro i hi
    obtain rfl : i = l.length - 2 := by omega
    refine Ev.step (f := fun _ => some (errsOf 3 l n)) (fun k => ?_) (Ev.now _)
    simp only [serial_number_jumps.l0]; rw [if_neg (by omega)]; rfl
  | succ d ih =>
    intro i hi
    have h := ih (i + 1) (by omega)
    have hlen := errTo_small 3 l n i hn hn2 (by omega)
    refine Ev.step (fun k => ?_) h
    simp only [serial_number_jumps.l0]
    have e0 : wrap64 (((i + 2 : Nat) : Int) - 2) = (i : Int) := by rw [w64 (by omega) (by omega)]; omega
    have e1 : wrap64 (((i + 2 : Nat) : Int) - 1) = ((i + 1 : Nat) : Int) := by rw [w64 (by omega) (by omega)]; omega
    have e2 : wrap64 (((i + 2 : Nat) : Int) + 1) = ((i + 1 + 2 : Nat) : Int) := by rw [w64 (by omega) (by omega)]; omega
    rw [e0, e1, e2, if_pos (by omega), if_pos (by omega), if_pos (by omega), if_pos (by omega), errTo_succ]
    by_cases hq : rd l (i : Int) = rd l ((i + 2 : Nat) : Int)
    · rw [if_pos hq, show errAt 3 l n i = [] by simp [errAt, hq], List.append_nil]
    · rw [if_neg hq, if_pos (by omega), if_pos (by omega), with_eq l i _ (by simp; omega) (by simp) hl]
      simp only [Option.bind_some]
      rw [if_pos (by omega), show errAt 3 l n i = _ from if_neg hq]
theorem ev_jumps : Ev (fun k => serial_number_jumps.f k l n) (errsOf 3 l n) := ev_jumps_0 hl hn hn2 (l.length - 2) 0 (by omega)
end
/-- Comparing numbers of the same length. -/
def lexLt : List Int → List Int → Bool
  | a :: x, b :: y => if a = b then lexLt x y else decide (a < b)
  | _, _ => false
theorem cmp_eq (a b : Int) : cmp_Compare_int.f a b = some (if a < b then -1 else if a > b then 1 else 0) := by
  simp [cmp_Compare_int.f, cmp_isNaN_int.f]
  split <;> (try rfl)
  split <;> rfl
theorem ev_cmp_l (a b : List Int) (hab : a.length = b.length) (hl : a.length ≤ 1000) (d : Nat) : ∀ i : Nat, i + d = a.length → ∃ c, Ev (fun k => serial_number_int_68.l0 k a b a a.length i) c ∧ (c < 0 ↔ lexLt (a.drop i) (b.drop i) = true) := by
  induction d with
  | zero =>
    intro i hi
    obtain rfl : i = a.length := by omega
    refine ⟨0, Ev.step (f := fun _ => some 0) (fun k => ?_) (Ev.now _), ?_⟩
    · simp only [serial_number_int_68.l0]; rw [if_neg (by omega), if_neg (by omega)]
    · rw [List.drop_of_length_le (Nat.le_refl _)]; simp [lexLt]
  | succ d ih =>
    intro i hi
    obtain ⟨c, h1, h2⟩ := ih (i + 1) (by omega)
    have ea : a.drop i = a[i] :: a.drop (i + 1) := List.drop_eq_getElem_cons (by omega)
    have eb : b.drop i = b[i] :: b.drop (i + 1) := List.drop_eq_getElem_cons (by omega)
    have ra := rd_nat a i (by omega)
    have rb := rd_nat b i (by omega)
    have go : ∀ k, serial_number_int_68.l0 (k + 1) a b a a.length i = (if (if a[i] < b[i] then (-1 : Int) else if a[i] > b[i] then 1 else 0) = 0 then serial_number_int_68.l0 k a b a a.length ((i + 1 : Nat) : Int) else some (if a[i] < b[i] then (-1 : Int) else if a[i] > b[i] then 1 else 0)) := by
      intro k
      simp only [serial_number_int_68.l0]
      rw [if_pos (by omega), if_pos (by omega), if_pos (by omega), if_neg (by omega), if_pos (by omega), ra, rb, cmp_eq, w64 (by omega) (by omega)]
      simp only [Option.bind_some]; rfl
    by_cases he : a[i] = b[i]
    · refine ⟨c, Ev.step (fun k => ?_) h1, ?_⟩
      · rw [go, he]; simp
      · rw [h2, ea, eb]; simp [lexLt, he]
    · by_cases hlt : a[i] < b[i]
      · refine ⟨-1, Ev.step (f := fun _ => some (-1)) (fun k => ?_) (Ev.now _), ?_⟩
        · rw [go]; simp [hlt]
        · rw [ea, eb]; simp [lexLt, he, hlt]
      · have hgt : a[i] > b[i] := by omega
        refine ⟨1, Ev.step (f := fun _ => some 1) (fun k => ?_) (Ev.now _), ?_⟩
        · rw [go]; simp [hlt, hgt]
        · rw [ea, eb]; simp [lexLt, he, hlt]
theorem ev_cmp (a b : List Int) (hab : a.length = b.length) (hl : a.length ≤ 1000) : ∃ c, Ev (fun k => serial_number_int_68.f k a b) c ∧ (c < 0 ↔ lexLt a b = true) := by
  obtain ⟨c, h1, h2⟩ := ev_cmp_l a b hab hl a.length 0 (by omega)
  exact ⟨c, h1, by simpa using h2⟩
end Go.Proofs.Ytdkncfmlehcjmaa.X
