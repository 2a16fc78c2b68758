/- Texts behind ThreadWithin, part 5: contracts of the program's functions and the plain words for them. -/
import Derived.ChangeKeysEq
import Derived.Test.YtagdbadljcongaaTpab
import Derived.Test.YtagdbadljcongaaTpad
section
/- Small laws of this session: '==' of a [2]int and of a [3]int, as one Bool. -/
set_option linter.unusedVariables false
set_option linter.unusedSimpArgs false
namespace Go.Proofs.Ytagdbadljcongaa.X
open Go.RowKit
/-- New blocks and draws. -/
inductive Steps : World → World → Prop
  | refl (w : World) : Steps w w
  | alloc {w w' : World} (h : Steps w w') (o : Obj) : Steps w (w'.alloc o)
  | drewN {w w' : World} (h : Steps w w') (n : Nat) : Steps w (w'.drewN n)
  | drew {w w' : World} (h : Steps w w') : Steps w w'.drew
section
open Go.Proofs.YtagdbadljcongaaW.PrintWords
theorem Steps.bel {w w' : World} (h : Steps w w') : Below w.heap.size w w' := by
  induction h with
  | refl => exact Below.refl _ _
  | alloc h o ih => exact below_alloc ih o
  | drewN h n ih => exact pw_below_drewN ih n
  | drew h ih => exact below_drew ih
variable {α : Type} {d : Kd α} {e : Nat} {w w' : World} {base : Nat} {ok : Nat → Prop} {v : Value} {xs : List α}
theorem rz (h : Kd.R d e w base ok v xs) (s : Steps w w' := by with_reducible repeat (first | exact Steps.refl _ | apply Steps.alloc | apply Steps.drewN | apply Steps.drew)) : Kd.R d e w' base ok v xs := Kd.R_below h s.bel
theorem cz {A : Option Addr} {n : Nat} (h : Kd.C d w A n xs) (s : Steps w w' := by with_reducible repeat (first | exact Steps.refl _ | apply Steps.alloc | apply Steps.drewN | apply Steps.drew)) : Kd.C d w' A n xs := Kd.C_below h s.bel
theorem sz (h : Kd.S d e w base ok v xs) (s : Steps w w' := by with_reducible repeat (first | exact Steps.refl _ | apply Steps.alloc | apply Steps.drewN | apply Steps.drew)) : Kd.S d e w' base ok v xs := Kd.S_below h s.bel
theorem kl {g : Nat} {o : Obj} (h : w.heap[g]? = some o) (s : Steps w w' := by with_reducible repeat (first | exact Steps.refl _ | apply Steps.alloc | apply Steps.drewN | apply Steps.drew)) : g < w'.heap.size := blk_lt (blk_below h s.bel)
theorem az {p : Prop} (h : p := by first | (with_reducible assumption) | assumption) : p := h
theorem bz {B : Nat} (h : Below B w w' := by repeat (first | (with_reducible first | exact HB.out | apply below_alloc | apply pw_below_drewN | apply below_drew1 | refine below_set ?_ (Aside0.out (by assumption))) | exact HB.out)) : Below B w w' := h
theorem dz {β : Type} {y z : β} (h : y = z := by (try simp only [List.map_toArray, List.map_cons, List.map_nil]); first | done | rfl | (simp only [List.length_drop, List.length_take]; rfl)) : y = z := h
end
section
variable {P : Program} {T E : TypeId}
end
end Go.Proofs.Ytagdbadljcongaa.X
end

section
/- Words as lists of bytes: the place of the next letter. -/
set_option linter.unusedVariables false
set_option linter.unusedSimpArgs false
namespace Go.Proofs.Ytagdbadljcongaa.X
open Go.RowKit Go.Proofs.YtagdbadljcongaaW.PrintWords
/-- The bytes of a string. -/
def bl (s : ByteArray) : List Nat := s.data.toList.map (·.toNat)
theorem bl_length (s : ByteArray) : (bl s).length = s.size := by simp [bl]
theorem bl_get (s : ByteArray) (i : Nat) (h : i < s.size) : (bl s)[i]'(by rw [bl_length]; exact h) = (s[i]'h).toNat := by
  simp [bl]; rfl
def ltrB (b : Nat) : Bool := decide (97 ≤ b ∧ b ≤ 100)
def isW (l : List Nat) : Bool := decide (l.length ≤ 60) && l.all ltrB
theorem isW_iff (l : List Nat) : isW l = true ↔ l.length ≤ 60 ∧ ∀ b ∈ l, 97 ≤ b ∧ b ≤ 100 := by
  simp [isW, ltrB]
/-- The first place of a letter, or the length. -/
def nxl : List Nat → Nat → Nat
  | [], _ => 0
  | b :: l, c => if b = c then 0 else nxl l c + 1
theorem nxl_le : ∀ (l : List Nat) (c : Nat), nxl l c ≤ l.length
  | [], _ => Nat.le_refl _
  | b :: l, c => by
    have := nxl_le l c
    unfold nxl; split <;> simp; omega
/-- The first place of a letter from a place on, or the length. -/
def nx (l : List Nat) (i c : Nat) : Nat := i + nxl (l.drop i) c
theorem nx_le (l : List Nat) (i c : Nat) (h : i ≤ l.length) : i ≤ nx l i c ∧ nx l i c ≤ l.length := by
  have := nxl_le (l.drop i) c
  rw [List.length_drop] at this
  unfold nx; omega
theorem nx_end (l : List Nat) (c : Nat) : nx l l.length c = l.length := by
  unfold nx; rw [List.drop_length]; rfl
theorem nx_step (l : List Nat) (i c : Nat) (h : i < l.length) : nx l i c = if l[i] = c then i else nx l (i + 1) c := by
  unfold nx
  rw [List.drop_eq_getElem_cons h]
  generalize l.drop (i + 1) = r
  rw [show nxl (l[i] :: r) c = if l[i] = c then 0 else nxl r c + 1 from rfl]
  split
  · rfl
  · omega
theorem nx_same {l : List Nat} {i c : Nat} (h : i < l.length) (e : l[i] = c) : nx l i c = i := by rw [nx_step l i c h, if_pos e]
theorem nx_next {l : List Nat} {i c : Nat} (h : i < l.length) (e : l[i] ≠ c) : nx l i c = nx l (i + 1) c := by rw [nx_step l i c h, if_neg e]
end Go.Proofs.Ytagdbadljcongaa.X
end

section
/- How many different subsequences there are. -/
set_option linter.unusedVariables false
set_option linter.unusedSimpArgs false
namespace Go.Proofs.Ytagdbadljcongaa.X
open Go.RowKit Go.Proofs.YtagdbadljcongaaW.PrintWords
theorem nxl_cons (b : Nat) (l : List Nat) (c : Nat) : nxl (b :: l) c = if b = c then 0 else nxl l c + 1 := rfl
/-- The numbers for all suffixes. -/
def cntL : List Nat → List Nat
  | [] => [1]
  | b :: l =>
    let t := fun c => if nxl (b :: l) c < l.length + 1 then (cntL l).getD (nxl (b :: l) c) 0 else 0
    (1 + t 97 + t 98 + t 99 + t 100) :: cntL l
def cs (l : List Nat) : Nat := (cntL l).headD 0
theorem cntL_get : ∀ (l : List Nat) (p : Nat), p ≤ l.length → (cntL l).getD p 0 = cs (l.drop p)
  | [], p, h => by
    obtain rfl : p = 0 := by simpa using h
    rfl
  | b :: l, 0, h => rfl
  | b :: l, p + 1, h => by
    show (cntL l).getD p 0 = _
    rw [cntL_get l p (by simpa using h)]; rfl
/-- What follows after a letter, if it occurs. -/
def term (l : List Nat) (c : Nat) : Nat := if nxl l c < l.length then cs (l.drop (nxl l c + 1)) else 0
def psum (l : List Nat) : Nat → Nat
  | 0 => 1
  | k + 1 => psum l k + term l (97 + k)
theorem psum_succ (l : List Nat) (k : Nat) : psum l (k + 1) = psum l k + term l (97 + k) := rfl
theorem cs_eq (l : List Nat) : cs l = psum l 4 := by
  cases l with
  | nil => rfl
  | cons b l =>
    have ht : ∀ c, (if nxl (b :: l) c < l.length + 1 then (cntL l).getD (nxl (b :: l) c) 0 else 0) = term (b :: l) c := by
      intro c
      unfold term
      rw [List.length_cons]
      split
      · rename_i h
        rw [cntL_get l _ (by omega)]; rfl
      · rfl
    show 1 + _ + _ + _ + _ = 1 + _ + _ + _ + _
    rw [← ht, ← ht, ← ht, ← ht]
theorem psum_mono (l : List Nat) {i j : Nat} (h : i ≤ j) : psum l i ≤ psum l j := by
  induction j with
  | zero =>
    obtain rfl : i = 0 := by omega
    exact Nat.le_refl _
  | succ j ih =>
    rcases Nat.lt_or_ge i (j + 1) with h1 | h1
    · exact Nat.le_trans (ih (by omega)) (Nat.le_add_right _ _)
    · obtain rfl : i = j + 1 := by omega
      exact Nat.le_refl _
theorem term_cons_same (b : Nat) (l : List Nat) : term (b :: l) b = cs l := by
  unfold term
  rw [nxl_cons, if_pos rfl, if_pos (by simp)]
  rfl
theorem term_cons_other {b c : Nat} (l : List Nat) (h : b ≠ c) : term (b :: l) c = term l c := by
  unfold term
  rw [nxl_cons, if_neg h, List.length_cons]
  by_cases h1 : nxl l c < l.length
  · rw [if_pos (by omega), if_pos h1]; rfl
  · rw [if_neg (by omega), if_neg h1]
theorem cs_sum (l : List Nat) : cs l = 1 + term l 97 + term l 98 + term l 99 + term l 100 := cs_eq l
theorem cs_cons_le (b : Nat) (l : List Nat) : cs (b :: l) ≤ 2 * cs l := by
  have h0 := cs_sum (b :: l)
  have h1 := cs_sum l
  have key : ∀ c, term (b :: l) c = if b = c then cs l else term l c := by
    intro c
    split
    · rename_i e; subst e; exact term_cons_same b l
    · rename_i e; exact term_cons_other l e
  rw [key, key, key, key] at h0
  repeat' split at h0
  all_goals omega
theorem cs_le : ∀ l : List Nat, cs l ≤ 2 ^ l.length
  | [] => by decide
  | b :: l => by
    have h1 := cs_cons_le b l
    have h2 := cs_le l
    rw [List.length_cons, Nat.pow_succ]; omega
theorem pow60 {n : Nat} (h : n ≤ 60) : 2 ^ n ≤ 1152921504606846976 := Nat.le_trans (Nat.pow_le_pow_right (by decide) h) (by decide)
theorem cs_60 {l : List Nat} (h : l.length ≤ 60) : cs l ≤ 1152921504606846976 := Nat.le_trans (cs_le l) (pow60 h)
/-- At a place in a word. -/
theorem term_at (l : List Nat) (i c : Nat) (h : i ≤ l.length) : term (l.drop i) c = if nx l i c < l.length then cs (l.drop (nx l i c + 1)) else 0 := by
  unfold term nx
  rw [List.length_drop, List.drop_drop]
  by_cases h1 : i + nxl (l.drop i) c < l.length
  · rw [if_pos h1, if_pos (by omega), Nat.add_assoc]
  · rw [if_neg h1, if_neg (by omega)]
/-- The numbers from each place on. -/
def cntF (l : List Nat) (j : Nat) : Int := if j ≤ l.length then (cs (l.drop j) : Int) else 0
end Go.Proofs.Ytagdbadljcongaa.X
end

section
/- A word within another one: the first positions; the rank of a subsequence. -/
set_option linter.unusedVariables false
set_option linter.unusedSimpArgs false
namespace Go.Proofs.Ytagdbadljcongaa.X
open Go.RowKit Go.Proofs.YtagdbadljcongaaW.PrintWords
/-- The first positions of u in l from a place on. -/
def wth (l : List Nat) : Nat → List Nat → Option (List Nat)
  | _, [] => some []
  | i, c :: u => if nx l i c < l.length then (wth l (nx l i c + 1) u).map (nx l i c :: ·) else none
/-- The sum over the letters before one. -/
def less (l : List Nat) : Nat → Nat
  | 0 => 0
  | k + 1 => less l k + term l (97 + k)
theorem psum_less (l : List Nat) (k : Nat) : psum l k = 1 + less l k := by
  induction k with
  | zero => rfl
  | succ k ih => rw [psum_succ, ih, show less l (k + 1) = less l k + term l (97 + k) from rfl]; omega
end Go.Proofs.Ytagdbadljcongaa.X
end
