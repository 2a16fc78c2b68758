/- Texts behind ThreadOwn, part 5: contracts of the program's functions and the plain words for them. -/
import Derived.ChangeKeysEq
import Derived.Test.YtagdbadljcongaaTpab
import Derived.Test.YtagdbadljcongaaTpad
section
/- Small laws of this session: '==' of a [2]int and of a [3]int, as one Bool. -/
set_option linter.unusedVariables false
set_option linter.unusedSimpArgs false
namespace Go.Proofs.Ytagdbadljcongaa.X
open Go.RowKit
/-- The walk's goal held back: what stands behind a cut. -/
theorem hold_ {p : Prop} (h : ∀ q : Prop, Go.Proofs.YtagdbadljcongaaW.PrintWords.Aside0 (p → q) → q) : p := h p ⟨id⟩
/-- New blocks and draws. -/
inductive Steps : World → World → Prop
  | refl (w : World) : Steps w w
  | alloc {w w' : World} (h : Steps w w') (o : Obj) : Steps w (w'.alloc o)
  | drewN {w w' : World} (h : Steps w w') (n : Nat) : Steps w (w'.drewN n)
  | drew {w w' : World} (h : Steps w w') : Steps w w'.drew
section
open Go.Proofs.YtagdbadljcongaaW.PrintWords
theorem Steps.bel {w w' : World} (h : Steps w w') : Below w.heap.size w w' := by
  induction h with
  | refl => exact Below.refl _ _
  | alloc h o ih => exact below_alloc ih o
  | drewN h n ih => exact pw_below_drewN ih n
  | drew h ih => exact below_drew ih
variable {α : Type} {d : Kd α} {e : Nat} {w w' : World} {base : Nat} {ok : Nat → Prop} {v : Value} {xs : List α}
theorem rz (h : Kd.R d e w base ok v xs) (s : Steps w w' := by with_reducible repeat (first | exact Steps.refl _ | apply Steps.alloc | apply Steps.drewN | apply Steps.drew)) : Kd.R d e w' base ok v xs := Kd.R_below h s.bel
theorem cz {A : Option Addr} {n : Nat} (h : Kd.C d w A n xs) (s : Steps w w' := by with_reducible repeat (first | exact Steps.refl _ | apply Steps.alloc | apply Steps.drewN | apply Steps.drew)) : Kd.C d w' A n xs := Kd.C_below h s.bel
theorem sz (h : Kd.S d e w base ok v xs) (s : Steps w w' := by with_reducible repeat (first | exact Steps.refl _ | apply Steps.alloc | apply Steps.drewN | apply Steps.drew)) : Kd.S d e w' base ok v xs := Kd.S_below h s.bel
theorem kb {w2 : World} {g : Nat} {o : Obj} (h : w.heap[g]? = some o) (hb : Below w'.heap.size w' w2) (s : Steps w w' := by with_reducible repeat (first | exact Steps.refl _ | apply Steps.alloc | apply Steps.drewN | apply Steps.drew)) : w2.heap[g]? = some o := blk_below (blk_below h s.bel) hb
theorem kl {g : Nat} {o : Obj} (h : w.heap[g]? = some o) (s : Steps w w' := by with_reducible repeat (first | exact Steps.refl _ | apply Steps.alloc | apply Steps.drewN | apply Steps.drew)) : g < w'.heap.size := blk_lt (blk_below h s.bel)
theorem az {p : Prop} (h : p := by first | (with_reducible assumption) | assumption) : p := h
theorem bz {B : Nat} (h : Below B w w' := by repeat (first | (with_reducible first | exact HB.out | apply below_alloc | apply pw_below_drewN | apply below_drew1 | refine below_set ?_ (Aside0.out (by assumption))) | exact HB.out)) : Below B w w' := h
theorem dz {β : Type} {y z : β} (h : y = z := by (try simp only [List.map_toArray, List.map_cons, List.map_nil]); first | done | rfl | (simp only [List.length_drop, List.length_take]; rfl)) : y = z := h
end
section
variable {P : Program} {T E : TypeId}
end
end Go.Proofs.Ytagdbadljcongaa.X
end

section
/- Words as lists of bytes: the place of the next letter. -/
set_option linter.unusedVariables false
set_option linter.unusedSimpArgs false
namespace Go.Proofs.Ytagdbadljcongaa.X
open Go.RowKit Go.Proofs.YtagdbadljcongaaW.PrintWords
/-- The bytes of a string. -/
def bl (s : ByteArray) : List Nat := s.data.toList.map (·.toNat)
theorem bl_length (s : ByteArray) : (bl s).length = s.size := by simp [bl]
theorem bl_get (s : ByteArray) (i : Nat) (h : i < s.size) : (bl s)[i]'(by rw [bl_length]; exact h) = (s[i]'h).toNat := by
  simp [bl]; rfl
def ltrB (b : Nat) : Bool := decide (97 ≤ b ∧ b ≤ 100)
def isW (l : List Nat) : Bool := decide (l.length ≤ 60) && l.all ltrB
theorem isW_iff (l : List Nat) : isW l = true ↔ l.length ≤ 60 ∧ ∀ b ∈ l, 97 ≤ b ∧ b ≤ 100 := by
  simp [isW, ltrB]
/-- The first place of a letter, or the length. -/
def nxl : List Nat → Nat → Nat
  | [], _ => 0
  | b :: l, c => if b = c then 0 else nxl l c + 1
theorem nxl_le : ∀ (l : List Nat) (c : Nat), nxl l c ≤ l.length
  | [], _ => Nat.le_refl _
  | b :: l, c => by
    have := nxl_le l c
    unfold nxl; split <;> simp; omega
/-- The first place of a letter from a place on, or the length. -/
def nx (l : List Nat) (i c : Nat) : Nat := i + nxl (l.drop i) c
theorem nx_le (l : List Nat) (i c : Nat) (h : i ≤ l.length) : i ≤ nx l i c ∧ nx l i c ≤ l.length := by
  have := nxl_le (l.drop i) c
  rw [List.length_drop] at this
  unfold nx; omega
theorem nx_end (l : List Nat) (c : Nat) : nx l l.length c = l.length := by
  unfold nx; rw [List.drop_length]; rfl
theorem nx_step (l : List Nat) (i c : Nat) (h : i < l.length) : nx l i c = if l[i] = c then i else nx l (i + 1) c := by
  unfold nx
  rw [List.drop_eq_getElem_cons h]
  generalize l.drop (i + 1) = r
  rw [show nxl (l[i] :: r) c = if l[i] = c then 0 else nxl r c + 1 from rfl]
  split
  · rfl
  · omega
theorem nx_same {l : List Nat} {i c : Nat} (h : i < l.length) (e : l[i] = c) : nx l i c = i := by rw [nx_step l i c h, if_pos e]
theorem nx_next {l : List Nat} {i c : Nat} (h : i < l.length) (e : l[i] ≠ c) : nx l i c = nx l (i + 1) c := by rw [nx_step l i c h, if_neg e]
end Go.Proofs.Ytagdbadljcongaa.X
end

section
/- How many different subsequences there are. -/
set_option linter.unusedVariables false
set_option linter.unusedSimpArgs false
namespace Go.Proofs.Ytagdbadljcongaa.X
open Go.RowKit Go.Proofs.YtagdbadljcongaaW.PrintWords
theorem nxl_cons (b : Nat) (l : List Nat) (c : Nat) : nxl (b :: l) c = if b = c then 0 else nxl l c + 1 := rfl
/-- The numbers for all suffixes. -/
def cntL : List Nat → List Nat
  | [] => [1]
  | b :: l =>
    let t := fun c => if nxl (b :: l) c < l.length + 1 then (cntL l).getD (nxl (b :: l) c) 0 else 0
    (1 + t 97 + t 98 + t 99 + t 100) :: cntL l
def cs (l : List Nat) : Nat := (cntL l).headD 0
theorem cntL_get : ∀ (l : List Nat) (p : Nat), p ≤ l.length → (cntL l).getD p 0 = cs (l.drop p)
  | [], p, h => by
    obtain rfl : p = 0 := by simpa using h
    rfl
  | b :: l, 0, h => rfl
  | b :: l, p + 1, h => by
    show (cntL l).getD p 0 = _
    rw [cntL_get l p (by simpa using h)]; rfl
/-- What follows after a letter, if it occurs. -/
def term (l : List Nat) (c : Nat) : Nat := if nxl l c < l.length then cs (l.drop (nxl l c + 1)) else 0
def psum (l : List Nat) : Nat → Nat
  | 0 => 1
  | k + 1 => psum l k + term l (97 + k)
theorem psum_succ (l : List Nat) (k : Nat) : psum l (k + 1) = psum l k + term l (97 + k) := rfl
theorem cs_eq (l : List Nat) : cs l = psum l 4 := by
  cases l with
  | nil => rfl
  | cons b l =>
    have ht : ∀ c, (if nxl (b :: l) c < l.length + 1 then (cntL l).getD (nxl (b :: l) c) 0 else 0) = term (b :: l) c := by
      intro c
      unfold term
      rw [List.length_cons]
      split
      · rename_i h
        rw [cntL_get l _ (by omega)]; rfl
      · rfl
    show 1 + _ + _ + _ + _ = 1 + _ + _ + _ + _
    rw [← ht, ← ht, ← ht, ← ht]
theorem psum_mono (l : List Nat) {i j : Nat} (h : i ≤ j) : psum l i ≤ psum l j := by
  induction j with
  | zero =>
    obtain rfl : i = 0 := by omega
    exact Nat.le_refl _
  | succ j ih =>
    rcases Nat.lt_or_ge i (j + 1) with h1 | h1
    · exact Nat.le_trans (ih (by omega)) (Nat.le_add_right _ _)
    · obtain rfl : i = j + 1 := by omega
      exact Nat.le_refl _
theorem term_cons_same (b : Nat) (l : List Nat) : term (b :: l) b = cs l := by
  unfold term
  rw [nxl_cons, if_pos rfl, if_pos (by simp)]
  rfl
theorem term_cons_other {b c : Nat} (l : List Nat) (h : b ≠ c) : term (b :: l) c = term l c := by
  unfold term
  rw [nxl_cons, if_neg h, List.length_cons]
  by_cases h1 : nxl l c < l.length
  · rw [if_pos (by omega), if_pos h1]; rfl
  · rw [if_neg (by omega), if_neg h1]
theorem cs_sum (l : List Nat) : cs l = 1 + term l 97 + term l 98 + term l 99 + term l 100 := cs_eq l
theorem cs_cons_le (b : Nat) (l : List Nat) : cs (b :: l) ≤ 2 * cs l := by
  have h0 := cs_sum (b :: l)
  have h1 := cs_sum l
  have key : ∀ c, term (b :: l) c = if b = c then cs l else term l c := by
    intro c
    split
    · rename_i e; subst e; exact term_cons_same b l
    · rename_i e; exact term_cons_other l e
  rw [key, key, key, key] at h0
  repeat' split at h0
  all_goals omega
theorem cs_le : ∀ l : List Nat, cs l ≤ 2 ^ l.length
  | [] => by decide
  | b :: l => by
    have h1 := cs_cons_le b l
    have h2 := cs_le l
    rw [List.length_cons, Nat.pow_succ]; omega
theorem pow60 {n : Nat} (h : n ≤ 60) : 2 ^ n ≤ 1152921504606846976 := Nat.le_trans (Nat.pow_le_pow_right (by decide) h) (by decide)
theorem cs_60 {l : List Nat} (h : l.length ≤ 60) : cs l ≤ 1152921504606846976 := Nat.le_trans (cs_le l) (pow60 h)
/-- At a place in a word. -/
theorem term_at (l : List Nat) (i c : Nat) (h : i ≤ l.length) : term (l.drop i) c = if nx l i c < l.length then cs (l.drop (nx l i c + 1)) else 0 := by
  unfold term nx
  rw [List.length_drop, List.drop_drop]
  by_cases h1 : i + nxl (l.drop i) c < l.length
  · rw [if_pos h1, if_pos (by omega), Nat.add_assoc]
  · rw [if_neg h1, if_neg (by omega)]
/-- The numbers from each place on. -/
def cntF (l : List Nat) (j : Nat) : Int := if j ≤ l.length then (cs (l.drop j) : Int) else 0
end Go.Proofs.Ytagdbadljcongaa.X
end

section
/- A word within another one: the first positions; the rank of a subsequence. -/
set_option linter.unusedVariables false
set_option linter.unusedSimpArgs false
namespace Go.Proofs.Ytagdbadljcongaa.X
open Go.RowKit Go.Proofs.YtagdbadljcongaaW.PrintWords
/-- The first positions of u in l from a place on. -/
def wth (l : List Nat) : Nat → List Nat → Option (List Nat)
  | _, [] => some []
  | i, c :: u => if nx l i c < l.length then (wth l (nx l i c + 1) u).map (nx l i c :: ·) else none
/-- The sum over the letters before one. -/
def less (l : List Nat) : Nat → Nat
  | 0 => 0
  | k + 1 => less l k + term l (97 + k)
theorem psum_less (l : List Nat) (k : Nat) : psum l k = 1 + less l k := by
  induction k with
  | zero => rfl
  | succ k ih => rw [psum_succ, ih, show less l (k + 1) = less l k + term l (97 + k) from rfl]; omega
end Go.Proofs.Ytagdbadljcongaa.X
end

section
/- Counting the words without some subsequences, as the program does it. -/
set_option linter.unusedVariables false
set_option linter.unusedSimpArgs false
namespace Go.Proofs.Ytagdbadljcongaa.X
open Go.RowKit Go.Proofs.YtagdbadljcongaaW.PrintWords
/-- The marks behind one letter more (x), from the i-th word on; none: a word is complete. -/
def aftL : List (List Nat) → Nat → List Nat → Nat → Option (List Nat)
  | [], _, m, _ => some m
  | w :: ws, i, m, x =>
    if w[m.getD i 0]? = some x then
      if m.getD i 0 + 1 = w.length then none else aftL ws (i + 1) (m.set i (m.getD i 0 + 1)) x
    else aftL ws (i + 1) m x
/-- Marks within the words (those from the i-th on are ws). -/
structure MOk (W : List (List Nat)) (m : List Nat) : Prop where
  len : m.length = 4
  lt : ∀ i, ∀ h : i < W.length, m.getD i 0 < (W[i]).length
  le : ∀ x ∈ m, x ≤ 8
theorem aftL_step {W : List (List Nat)} {i : Nat} {m : List Nat} {x : Nat} (h : i < W.length) : aftL (W.drop i) i m x =
    if (W[i])[m.getD i 0]? = some x then (if m.getD i 0 + 1 = (W[i]).length then none else aftL (W.drop (i + 1)) (i + 1) (m.set i (m.getD i 0 + 1)) x) else aftL (W.drop (i + 1)) (i + 1) m x := by
  rw [List.drop_eq_getElem_cons h]
  rfl
theorem getD_set (m : List Nat) (i j v : Nat) : (m.set i v).getD j 0 = if i = j ∧ i < m.length then v else m.getD j 0 := by
  simp only [List.getD_eq_getElem?_getD, List.getElem?_set]
  by_cases h : i = j
  · subst h
    by_cases h2 : i < m.length <;> simp [h2]
  · simp [h]
theorem MOk.set {W : List (List Nat)} {m : List Nat} (h : MOk W m) {i : Nat} (hi : i < W.length) (h8 : (W[i]).length ≤ 8) (hn : m.getD i 0 + 1 ≠ (W[i]).length) : MOk W (m.set i (m.getD i 0 + 1)) := by
  refine ⟨by rw [List.length_set]; exact h.len, fun j hj => ?_, fun x hx => ?_⟩
  · rw [getD_set]
    split
    · rename_i e
      obtain ⟨rfl, _⟩ := e
      have := h.lt i hi
      omega
    · exact h.lt j hj
  · rcases List.mem_or_eq_of_mem_set hx with e | e
    · exact h.le x e
    · have := h.lt i hi; omega
theorem aftL_ok {W : List (List Nat)} (h8 : ∀ w ∈ W, w.length ≤ 8) (x : Nat) : ∀ (k i : Nat) (m m' : List Nat), W.length - i = k → MOk W m → aftL (W.drop i) i m x = some m' → MOk W m'
  | 0, i, m, m', hk, hm, h => by
    rw [List.drop_eq_nil_of_le (by omega)] at h
    injection h with h
    subst h; exact hm
  | k + 1, i, m, m', hk, hm, h => by
    have hi : i < W.length := by omega
    rw [aftL_step hi] at h
    split at h
    · split at h
      · cases h
      · exact aftL_ok h8 x k (i + 1) _ m' (by omega) (hm.set hi (h8 _ (List.getElem_mem hi)) (by assumption)) h
    · exact aftL_ok h8 x k (i + 1) _ m' (by omega) hm h
def aft (W : List (List Nat)) (m : List Nat) (x : Nat) : Option (List Nat) := aftL W 0 m x
theorem aft_ok {W : List (List Nat)} (h8 : ∀ w ∈ W, w.length ≤ 8) {x : Nat} {m m' : List Nat} (hm : MOk W m) (h : aft W m x = some m') : MOk W m' := aftL_ok h8 x _ 0 m m' rfl hm (by rw [List.drop_zero]; exact h)
/-- What the first c letters make of marks. -/
def gos (W : List (List Nat)) (m : List Nat) (c : Nat) : List (List Nat) := (List.range c).filterMap fun d => aft W m (97 + d)
theorem gos_succ (W : List (List Nat)) (m : List Nat) (c : Nat) : gos W m (c + 1) = gos W m c ++ (aft W m (97 + c)).toList := by
  unfold gos
  rw [List.range_succ, List.filterMap_append]
  congr 1
theorem gos_len (W : List (List Nat)) (m : List Nat) (c : Nat) : (gos W m c).length ≤ c := by
  have := List.length_filterMap_le (fun d => aft W m (97 + d)) (List.range c)
  simpa [gos] using this
/-- The marks of all words of a length, each as often as it comes. -/
def lev (W : List (List Nat)) (k : Nat) : Nat → List (List Nat)
  | 0 => if [] ∈ W then [] else [[0, 0, 0, 0]]
  | n + 1 => (lev W k n).flatMap fun m => gos W m k
/-- How many words of each length there are. -/
def freeL (W : List (List Nat)) (k n : Nat) : List Nat := (List.range (n + 1)).map fun l => (lev W k l).length
theorem flat_le {S : List (List Nat)} {g : List Nat → List (List Nat)} {k : Nat} (h : ∀ m ∈ S, (g m).length ≤ k) : (S.flatMap g).length ≤ S.length * k := by
  induction S with
  | nil => simp
  | cons a r ih =>
    have h1 := h a (by simp)
    have h2 := ih (fun m hm => h m (by simp [hm]))
    simp only [List.flatMap_cons, List.length_append, List.length_cons, Nat.add_mul, Nat.one_mul]
    omega
theorem lev_le (W : List (List Nat)) (k : Nat) (hk : k ≤ 4) : ∀ n, (lev W k n).length ≤ 4 ^ n
  | 0 => by unfold lev; split <;> simp
  | n + 1 => by
    have h1 := flat_le (S := lev W k n) (g := fun m => gos W m k) (k := 4) (fun m _ => Nat.le_trans (gos_len W m k) hk)
    have h2 := lev_le W k hk n
    show ((lev W k n).flatMap fun m => gos W m k).length ≤ 4 ^ (n + 1)
    rw [Nat.pow_succ]
    exact Nat.le_trans h1 (Nat.mul_le_mul_right 4 h2)
theorem lev_ok {W : List (List Nat)} (h8 : ∀ w ∈ W, w.length ≤ 8) (k : Nat) : ∀ n, ∀ m ∈ lev W k n, MOk W m
  | 0, m, hm => by
    unfold lev at hm
    split at hm
    · cases hm
    · rename_i hn
      rw [List.mem_singleton] at hm
      subst hm
      refine ⟨rfl, fun i hi => ?_, by simp⟩
      have h0 : (W[i]).length ≠ 0 := fun e => hn (by rw [← List.eq_nil_of_length_eq_zero e]; exact List.getElem_mem hi)
      have : ([0, 0, 0, 0] : List Nat).getD i 0 = 0 := by
        simp only [List.getD_eq_getElem?_getD]
        rcases i with _ | _ | _ | _ | i <;> rfl
      rw [this]; omega
  | n + 1, m, hm => by
    obtain ⟨a, ha, h⟩ := List.mem_flatMap.1 hm
    obtain ⟨d, _, hd⟩ := List.mem_filterMap.1 h
    exact aft_ok h8 (lev_ok h8 k n a ha) hd
/-- What has come of some marks, each taken as often as S has it. -/
def acc (S : List (List Nat)) (g : List Nat → List (List Nat)) (V : List (List Nat)) : List (List Nat) := V.flatMap fun m => (g m).flatMap fun t => List.replicate (S.count m) t
theorem sum_one {V : List (List Nat)} (hn : V.Nodup) {x : List Nat} (hx : x ∈ V) (h : List Nat → Nat) : (V.map fun m => (if m = x then 1 else 0) * h m).sum = h x := by
  induction V with
  | nil => cases hx
  | cons a r ih =>
    obtain ⟨h1, h2⟩ := List.nodup_cons.1 hn
    simp only [List.map_cons, List.sum_cons]
    by_cases e : a = x
    · subst e
      have h0 : (r.map fun m => (if m = a then 1 else 0) * h m).sum = 0 := by
        clear ih hx hn h2
        induction r with
        | nil => rfl
        | cons b t ih =>
          have : b ≠ a := fun e => h1 (by simp [e])
          simp only [List.map_cons, List.sum_cons, if_neg this, Nat.zero_mul, Nat.zero_add]
          exact ih (fun hm => h1 (by simp [hm]))
      rw [if_pos rfl, h0]; simp
    · rw [if_neg e, ih h2 (by simpa [Ne.symm e] using hx)]; simp
theorem sum_cover {V : List (List Nat)} (hn : V.Nodup) (h : List Nat → Nat) : ∀ S : List (List Nat), (∀ x ∈ S, x ∈ V) → (V.map fun m => S.count m * h m).sum = (S.map h).sum
  | [], _ => by
    have : ∀ V : List (List Nat), (V.map fun m => ([] : List (List Nat)).count m * h m).sum = 0 := by
      intro V; induction V with
      | nil => rfl
      | cons a r ih => simp only [List.map_cons, List.sum_cons, List.count_nil, Nat.zero_mul, Nat.zero_add]; simpa using ih
    exact this V
  | x :: r, hs => by
    have ih := sum_cover hn h r (fun y hy => hs y (by simp [hy]))
    have h1 := sum_one hn (hs x (by simp)) h
    rw [List.map_cons, List.sum_cons, ← ih, ← h1]
    clear ih h1 hs hn
    induction V with
    | nil => rfl
    | cons a t ih =>
      simp only [List.map_cons, List.sum_cons]
      rw [ih, List.count_cons]
      have : (if (x == a) = true then 1 else 0) = (if a = x then 1 else 0 : Nat) := by
        by_cases e : a = x
        · subst e; simp
        · rw [if_neg e, if_neg (by simpa using Ne.symm e)]
      rw [this, Nat.add_mul]
      omega
theorem sum_sub {V : List (List Nat)} (hn : V.Nodup) (S : List (List Nat)) : (V.map fun m => S.count m).sum ≤ S.length := by
  have h := sum_cover hn (fun _ => 1) (S.filter fun x => decide (x ∈ V)) (fun x hx => by simpa using (List.mem_filter.1 hx).2)
  have e : (V.map fun m => S.count m) = V.map fun m => (S.filter fun x => decide (x ∈ V)).count m * 1 := by
    refine List.map_congr_left fun m hm => ?_
    rw [Nat.mul_one, List.count_filter (by simpa using hm)]
  rw [e, h]
  have h1 : ∀ L : List (List Nat), (L.map fun _ => 1).sum = L.length := fun L => by
    induction L with
    | nil => rfl
    | cons a r ih => simp only [List.map_cons, List.sum_cons, List.length_cons, ih]; omega
  rw [h1]
  exact List.length_filter_le _ _
theorem count_rep (n : Nat) (a : List Nat) : ∀ L : List (List Nat), (L.flatMap fun t => List.replicate n t).count a = n * L.count a
  | [] => by simp
  | x :: r => by
    rw [List.flatMap_cons, List.count_append, count_rep n a r, List.count_cons, List.count_replicate, Nat.mul_add]
    by_cases e : x = a
    · subst e; simp; omega
    · have : (x == a) = false := by simpa using e
      simp [this]
theorem length_rep (n : Nat) : ∀ L : List (List Nat), (L.flatMap fun t => List.replicate n t).length = n * L.length
  | [] => by simp
  | x :: r => by rw [List.flatMap_cons, List.length_append, length_rep n r, List.length_cons, List.length_replicate, Nat.mul_succ]; omega
theorem count_acc (S : List (List Nat)) (g : List Nat → List (List Nat)) (a : List Nat) : ∀ V : List (List Nat), (acc S g V).count a = (V.map fun m => S.count m * (g m).count a).sum
  | [] => by simp [acc]
  | x :: r => by
    have ih := count_acc S g a r
    unfold acc at ih ⊢
    rw [List.flatMap_cons, List.count_append, ih, count_rep]
    rfl
theorem count_flat (g : List Nat → List (List Nat)) (a : List Nat) : ∀ S : List (List Nat), (S.flatMap g).count a = (S.map fun m => (g m).count a).sum
  | [] => by simp
  | x :: r => by rw [List.flatMap_cons, List.count_append, count_flat g a r]; rfl
theorem acc_count {S V : List (List Nat)} (hn : V.Nodup) (hs : ∀ x ∈ S, x ∈ V) (g : List Nat → List (List Nat)) (a : List Nat) : (acc S g V).count a = (S.flatMap g).count a := by
  rw [count_acc, count_flat]
  exact sum_cover hn (fun m => (g m).count a) S hs
theorem acc_snoc (S : List (List Nat)) (g : List Nat → List (List Nat)) (V : List (List Nat)) (m : List Nat) : acc S g (V ++ [m]) = acc S g V ++ (g m).flatMap fun t => List.replicate (S.count m) t := by
  unfold acc
  rw [List.flatMap_append]
  simp
theorem acc_le (S : List (List Nat)) (g : List Nat → List (List Nat)) (k : Nat) : ∀ V : List (List Nat), (∀ m ∈ V, (g m).length ≤ k) → (acc S g V).length ≤ k * (V.map fun m => S.count m).sum
  | [], _ => by simp [acc]
  | x :: r, h => by
    have ih := acc_le S g k r (fun m hm => h m (by simp [hm]))
    unfold acc at ih ⊢
    rw [List.flatMap_cons, List.length_append, length_rep, List.map_cons, List.sum_cons, Nat.mul_add]
    have h1 := Nat.mul_le_mul_left (S.count x) (h x (by simp))
    rw [Nat.mul_comm (S.count x) k] at h1
    omega
end Go.Proofs.Ytagdbadljcongaa.X
end

section
/- Words without the words of a family: they are the leaves of the marks. -/
set_option linter.unusedVariables false
set_option linter.unusedSimpArgs false
namespace Go.Proofs.Ytagdbadljcongaa.X
/-- One word's mark behind one letter more. -/
def stp (w : List Nat) (m c : Nat) : Nat := if w[m]? = some c then m + 1 else m
def gpm (w : List Nat) (m : Nat) (x : List Nat) : Nat := x.foldl (stp w) m
theorem stp_le {w : List Nat} {m : Nat} (h : m ≤ w.length) (c : Nat) : stp w m c ≤ w.length := by
  unfold stp
  split
  · rename_i e
    have := (List.getElem?_eq_some_iff.1 e).1
    omega
  · exact h
theorem gpm_sub (w : List Nat) : ∀ (x : List Nat) (m : Nat), m ≤ w.length → ((w.drop m).Sublist x ↔ gpm w m x = w.length)
  | [], m, hm => by
    show _ ↔ m = w.length
    rw [List.sublist_nil, List.drop_eq_nil_iff]
    omega
  | c :: x, m, hm => by
    have ih := gpm_sub w x (stp w m c) (stp_le hm c)
    show _ ↔ gpm w (stp w m c) x = _
    rw [← ih]
    unfold stp
    split
    · rename_i e
      obtain ⟨h1, h2⟩ := List.getElem?_eq_some_iff.1 e
      rw [List.drop_eq_getElem_cons h1, h2]
      exact List.cons_sublist_cons
    · rename_i e
      rcases Nat.lt_or_ge m w.length with h1 | h1
      · rw [List.drop_eq_getElem_cons h1]
        have hne : w[m] ≠ c := fun h => e (by rw [List.getElem?_eq_getElem h1, h])
        constructor
        · intro h
          cases h with
          | cons _ h => exact h
          | cons_cons _ h => exact absurd rfl hne
        · exact fun h => h.cons _
      · rw [List.drop_eq_nil_of_le h1]
        simp
/-- What aft does. -/
theorem aftL_some {W : List (List Nat)} (hW : W.length ≤ 4) (x : Nat) : ∀ (k i : Nat) (m m' : List Nat), W.length - i = k → i ≤ W.length → MOk W m → (∀ w ∈ W, w.length ≤ 8) → aftL (W.drop i) i m x = some m' → ∀ j, ∀ h : j < W.length, m'.getD j 0 = (if i ≤ j then stp W[j] (m.getD j 0) x else m.getD j 0)
  | 0, i, m, m', hk, hi, hm, h8, h, j, hj => by
    rw [List.drop_eq_nil_of_le (by omega)] at h
    injection h with h
    subst h
    rw [if_neg (by omega)]
  | k + 1, i, m, m', hk, hi0, hm, h8, h, j, hj => by
    have hi : i < W.length := by omega
    rw [aftL_step hi] at h
    split at h
    · rename_i hc
      split at h
      · cases h
      · rename_i hne
        have h1 := aftL_some hW x k (i + 1) _ m' (by omega) (by omega) (hm.set hi (h8 _ (List.getElem_mem hi)) hne) h8 h j hj
        rw [h1]
        by_cases e : i = j
        · subst e
          have hl : i < m.length := by have := hm.len; omega
          rw [if_neg (by omega), if_pos (Nat.le_refl _), getD_set, if_pos ⟨rfl, hl⟩]
          unfold stp
          rw [if_pos hc]
        · rw [getD_set, if_neg (fun h : i = j ∧ _ => e h.1)]
          by_cases e2 : i ≤ j
          · rw [if_pos (by omega), if_pos e2]
          · rw [if_neg (by omega), if_neg e2]
    · rename_i hc
      have h1 := aftL_some hW x k (i + 1) _ m' (by omega) (by omega) hm h8 h j hj
      rw [h1]
      by_cases e : i = j
      · subst e
        rw [if_neg (by omega), if_pos (Nat.le_refl _)]
        unfold stp
        rw [if_neg hc]
      · by_cases e2 : i ≤ j
        · rw [if_pos (by omega), if_pos e2]
        · rw [if_neg (by omega), if_neg e2]
theorem aftL_none {W : List (List Nat)} (hW : W.length ≤ 4) (x : Nat) : ∀ (k i : Nat) (m : List Nat), W.length - i = k → i ≤ W.length → MOk W m → (∀ w ∈ W, w.length ≤ 8) → aftL (W.drop i) i m x = none → ∃ j, i ≤ j ∧ ∃ h : j < W.length, stp W[j] (m.getD j 0) x = W[j].length
  | 0, i, m, hk, hi, hm, h8, h => by
    rw [List.drop_eq_nil_of_le (by omega)] at h
    cases h
  | k + 1, i, m, hk, hi0, hm, h8, h => by
    have hi : i < W.length := by omega
    rw [aftL_step hi] at h
    split at h
    · rename_i hc
      split at h
      · rename_i he
        refine ⟨i, Nat.le_refl _, hi, ?_⟩
        unfold stp
        rw [if_pos hc, he]
      · rename_i hne
        obtain ⟨j, hij, hj, e⟩ := aftL_none hW x k (i + 1) _ (by omega) (by omega) (hm.set hi (h8 _ (List.getElem_mem hi)) hne) h8 h
        rw [getD_set, if_neg (by omega)] at e
        exact ⟨j, by omega, hj, e⟩
    · obtain ⟨j, hij, hj, e⟩ := aftL_none hW x k (i + 1) _ (by omega) (by omega) hm h8 h
      exact ⟨j, by omega, hj, e⟩
theorem aft_some {W : List (List Nat)} (hW : W.length ≤ 4) (h8 : ∀ w ∈ W, w.length ≤ 8) {x : Nat} {m m' : List Nat} (hm : MOk W m) (h : aft W m x = some m') (j : Nat) (hj : j < W.length) : m'.getD j 0 = stp W[j] (m.getD j 0) x := by
  have := aftL_some hW x _ 0 m m' rfl (Nat.zero_le _) hm h8 (by rw [List.drop_zero]; exact h) j hj
  rwa [if_pos (Nat.zero_le _)] at this
theorem aft_none {W : List (List Nat)} (hW : W.length ≤ 4) (h8 : ∀ w ∈ W, w.length ≤ 8) {x : Nat} {m : List Nat} (hm : MOk W m) (h : aft W m x = none) : ∃ j, ∃ h : j < W.length, stp W[j] (m.getD j 0) x = W[j].length := by
  obtain ⟨j, _, h1, h2⟩ := aftL_none hW x _ 0 m rfl (Nat.zero_le _) hm h8 (by rw [List.drop_zero]; exact h)
  exact ⟨j, h1, h2⟩
/-- The marks behind a word. -/
def rnm (W : List (List Nat)) (o : Option (List Nat)) (x : List Nat) : Option (List Nat) := x.foldl (fun o c => o.bind fun m => aft W m c) o
theorem rnm_none (W : List (List Nat)) : ∀ x, rnm W none x = none
  | [] => rfl
  | c :: x => rnm_none W x
theorem gpm_full (w : List Nat) : ∀ x, gpm w w.length x = w.length := fun x => (gpm_sub w x w.length (Nat.le_refl _)).1 (by rw [List.drop_length]; exact List.nil_sublist _)
theorem rnm_is {W : List (List Nat)} (hW : W.length ≤ 4) (h8 : ∀ w ∈ W, w.length ≤ 8) : ∀ (x m : List Nat), MOk W m → ((rnm W (some m) x).isSome = true ↔ ∀ j, ∀ h : j < W.length, gpm W[j] (m.getD j 0) x ≠ W[j].length)
  | [], m, hm => by
    refine iff_of_true rfl fun j hj => ?_
    have := hm.lt j hj
    show m.getD j 0 ≠ _
    omega
  | c :: x, m, hm => by
    show (rnm W (aft W m c) x).isSome = true ↔ ∀ j, ∀ h : j < W.length, gpm W[j] (stp W[j] (m.getD j 0) c) x ≠ _
    cases e : aft W m c with
    | none =>
      rw [rnm_none]
      obtain ⟨j, hj, h⟩ := aft_none hW h8 hm e
      refine iff_of_false (by simp) fun h2 => h2 j hj ?_
      rw [h, gpm_full]
    | some m1 =>
      rw [rnm_is hW h8 x m1 (aft_ok h8 hm e)]
      constructor
      · intro h j hj
        rw [← aft_some hW h8 hm e j hj]
        exact h j hj
      · intro h j hj
        rw [aft_some hW h8 hm e j hj]
        exact h j hj
def stm (W : List (List Nat)) (x : List Nat) : Option (List Nat) := rnm W (if [] ∈ W then none else some [0, 0, 0, 0]) x
theorem stm_snoc (W : List (List Nat)) (x : List Nat) (c : Nat) : stm W (x ++ [c]) = (stm W x).bind fun m => aft W m c := by
  unfold stm rnm
  rw [List.foldl_append]
  rfl
theorem stm_is {W : List (List Nat)} (hW : W.length ≤ 4) (h8 : ∀ w ∈ W, w.length ≤ 8) (x : List Nat) : (stm W x).isSome = true ↔ ∀ w ∈ W, ¬ w.Sublist x := by
  unfold stm
  by_cases h : [] ∈ W
  · rw [if_pos h, rnm_none]
    exact iff_of_false (by simp) fun h2 => h2 _ h (List.nil_sublist _)
  · rw [if_neg h]
    have hg : ∀ j, ([0, 0, 0, 0] : List Nat).getD j 0 = 0 := fun j => by
      match j with
      | 0 | 1 | 2 | 3 => rfl
      | j + 4 => rfl
    have hm : MOk W [0, 0, 0, 0] := ⟨rfl, fun i hi => by
      rw [hg]
      rcases Nat.eq_zero_or_pos (W[i]).length with h0 | h0
      · exact absurd (by rw [← List.length_eq_zero_iff.1 h0]; exact List.getElem_mem hi) h
      · exact h0, by simp⟩
    rw [rnm_is hW h8 x _ hm]
    constructor
    · intro h2 w hw
      obtain ⟨j, hj, rfl⟩ := List.getElem_of_mem hw
      have := h2 j hj
      rw [hg] at this
      intro hs
      exact this ((gpm_sub _ x 0 (Nat.zero_le _)).1 (by rwa [List.drop_zero]))
    · intro h2 j hj
      rw [hg]
      intro hs
      have := (gpm_sub _ x 0 (Nat.zero_le _)).2 hs
      rw [List.drop_zero] at this
      exact h2 _ (List.getElem_mem hj) this
/-- All words of a length over the first k letters. -/
def wds (k : Nat) : Nat → List (List Nat)
  | 0 => [[]]
  | n + 1 => (wds k n).flatMap fun x => (List.range k).map fun d => x ++ [97 + d]
theorem flat_filter {α β γ : Type} (f : α → Option β) (g : β → List γ) : ∀ L : List α, (L.filterMap f).flatMap g = L.flatMap fun x => match f x with | none => [] | some m => g m
  | [] => rfl
  | a :: L => by
    rw [List.filterMap_cons, List.flatMap_cons, ← flat_filter f g L]
    cases f a <;> rfl
theorem filter_flat {α β γ : Type} (f : β → Option γ) (g : α → List β) : ∀ L : List α, (L.flatMap g).filterMap f = L.flatMap fun x => (g x).filterMap f
  | [] => rfl
  | a :: L => by
    rw [List.flatMap_cons, List.flatMap_cons, List.filterMap_append, filter_flat f g L]
theorem lev_eq (W : List (List Nat)) (k : Nat) : ∀ n, lev W k n = (wds k n).filterMap (stm W)
  | 0 => by
    unfold lev wds
    rw [List.filterMap_cons]
    have e : stm W [] = if [] ∈ W then none else some [0, 0, 0, 0] := rfl
    rw [e]
    by_cases h : [] ∈ W
    · rw [if_pos h, if_pos h]; rfl
    · rw [if_neg h, if_neg h]; rfl
  | n + 1 => by
    unfold lev wds
    rw [lev_eq W k n, flat_filter, filter_flat]
    congr 1
    funext x
    rw [List.filterMap_map]
    have e : (stm W ∘ fun d => x ++ [97 + d]) = fun d => (stm W x).bind fun m => aft W m (97 + d) := by
      funext d
      exact stm_snoc W x (97 + d)
    rw [e]
    cases stm W x with
    | none => simp
    | some m => rfl
theorem lev_len (W : List (List Nat)) (k n : Nat) : (lev W k n).length = (wds k n).countP fun x => (stm W x).isSome := by
  rw [lev_eq]
  exact List.length_filterMap_eq_countP
/-- What matters is which words are kept out. -/
theorem free_same {W V : List (List Nat)} (hW : W.length ≤ 4) (h8 : ∀ w ∈ W, w.length ≤ 8) (hV : V.length ≤ 4) (v8 : ∀ w ∈ V, w.length ≤ 8) (h : ∀ x, (∀ w ∈ W, ¬ w.Sublist x) ↔ (∀ w ∈ V, ¬ w.Sublist x)) (k n : Nat) : freeL W k n = freeL V k n := by
  unfold freeL
  refine List.map_congr_left fun l _ => ?_
  rw [lev_len, lev_len]
  congr 1
  funext x
  rw [Bool.eq_iff_iff, stm_is hW h8, stm_is hV v8]
  exact h x
end Go.Proofs.Ytagdbadljcongaa.X
end
