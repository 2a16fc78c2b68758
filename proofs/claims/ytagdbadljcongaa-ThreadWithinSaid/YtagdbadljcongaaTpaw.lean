/- Texts behind ThreadWithin, part 23: contracts of the program's functions and the plain words for them. -/
import Derived.Test.YtagdbadljcongaaTpav
section
/- What the word that tells two words apart is, and words about them. -/
set_option linter.unusedVariables false
set_option linter.unusedSimpArgs false
namespace Go.Proofs.Ytagdbadljcongaa.X
open Go.RowKit Go.Proofs.YtagdbadljcongaaW.PrintWords
theorem wth_sub0 (l u : List Nat) : (wth l 0 u).isSome = true ↔ u.Sublist l := by
  have h := wth_sub l u 0 (Nat.zero_le _)
  rwa [List.drop_zero] at h
theorem dst_iff (u w x : List Nat) : dst u w x = false ↔ (x.Sublist u ↔ x.Sublist w) := by
  rw [← wth_sub0, ← wth_sub0]
  unfold dst
  cases (wth u 0 x).isSome <;> cases (wth w 0 x).isSome <;> simp
theorem First.less {u w r x : List Nat} {k most : Nat} (h : First u w k most r) (hk4 : k ≤ 4) (hx : Ltr k x) (hm : x.length ≤ most) (hl : x.length < r.length) : X.dst u w x = false := by
  cases e : X.dst u w x with
  | false => rfl
  | true =>
    have := key_len (h.ltr.four hk4) (hx.four hk4) (h.fst x hx hm e)
    omega
theorem ltr4 {u : List Nat} (h : ∀ b ∈ u, 97 ≤ b ∧ b ≤ 100) : Ltr 4 u := fun b hb => by have := h b hb; omega
theorem dst_ex {u w : List Nat} (hu : Ltr 4 u) (hw : Ltr 4 w) (hne : u ≠ w) : ∃ x, Ltr 4 x ∧ x.length ≤ 1 + min u.length w.length ∧ dst u w x = true := by
  have key : ∀ u w : List Nat, Ltr 4 u → Ltr 4 w → u ≠ w → u.length ≤ w.length → ∃ x, Ltr 4 x ∧ x.length ≤ 1 + u.length ∧ ¬ (x.Sublist u ↔ x.Sublist w) := by
    intro u w hu hw hne hl
    by_cases hs : u.Sublist w
    · refine ⟨w.take (u.length + 1), fun b hb => hw b (List.mem_of_mem_take hb), by rw [List.length_take]; omega, fun h => ?_⟩
      have h1 := (h.2 (List.take_sublist _ _)).length_le
      rw [List.length_take] at h1
      exact hne (hs.eq_of_length (by omega))
    · exact ⟨u, hu, by omega, fun h => hs (h.1 (List.Sublist.refl _))⟩
  rcases Nat.le_total u.length w.length with h | h
  · obtain ⟨x, h1, h2, h3⟩ := key u w hu hw hne h
    refine ⟨x, h1, by omega, ?_⟩
    rw [← Bool.not_eq_false, dst_iff]; exact h3
  · obtain ⟨x, h1, h2, h3⟩ := key w u hw hu hne.symm h
    refine ⟨x, h1, by omega, ?_⟩
    rw [← Bool.not_eq_false, dst_iff]; exact fun h => h3 h.symm
theorem First.len {u w r : List Nat} (h : First u w 4 61 r) (hu : Ltr 4 u) (hw : Ltr 4 w) (hl : min u.length w.length ≤ 60) (hne : u ≠ w) : r.length ≤ 1 + min u.length w.length := by
  obtain ⟨x, h1, h2, h3⟩ := dst_ex hu hw hne
  have := key_len h.ltr h1 (h.fst x h1 (by omega) h3)
  omega
end Go.Proofs.Ytagdbadljcongaa.X
end

section
/- The longest common subsequence, as both reckon it. -/
set_option linter.unusedVariables false
set_option linter.unusedSimpArgs false
namespace Go.Proofs.Ytagdbadljcongaa.X
open Go.RowKit Go.Proofs.YtagdbadljcongaaW.PrintWords
def lcRow (a : Nat) (f : List Nat → Nat) : List Nat → Nat
  | [] => 0
  | b :: y => if a = b then max (max (f (b :: y)) (lcRow a f y)) (1 + f y) else max (f (b :: y)) (lcRow a f y)
def lc : List Nat → List Nat → Nat
  | [] => fun _ => 0
  | a :: x => lcRow a (lc x)
theorem lc_nil (x : List Nat) : lc x [] = 0 := by cases x <;> rfl
theorem lc_cons (a : Nat) (x : List Nat) (b : Nat) (y : List Nat) : lc (a :: x) (b :: y) = if a = b then max (max (lc x (b :: y)) (lc (a :: x) y)) (1 + lc x y) else max (lc x (b :: y)) (lc (a :: x) y) := rfl
theorem lc_ge : ∀ (n : Nat) (x y z : List Nat), x.length + y.length = n → z.Sublist x → z.Sublist y → z.length ≤ lc x y := by
  intro n
  induction n using Nat.strongRecOn with
  | _ n ih =>
    intro x y z hn h1 h2
    cases x with
    | nil =>
      have := h1.length_le
      rw [List.length_nil] at this
      exact Nat.le_trans this (Nat.zero_le _)
    | cons a x =>
      cases y with
      | nil =>
        have := h2.length_le
        rw [List.length_nil] at this
        exact Nat.le_trans this (Nat.zero_le _)
      | cons b y =>
        rw [lc_cons]
        simp only [List.length_cons] at hn
        rcases List.sublist_cons_iff.1 h1 with h3 | ⟨z1, rfl, h3⟩
        · have := ih _ (by simp only [List.length_cons]; omega) x (b :: y) z rfl h3 h2
          split <;> omega
        · rcases List.sublist_cons_iff.1 h2 with h4 | ⟨z2, e, h4⟩
          · have := ih _ (by simp only [List.length_cons]; omega) (a :: x) y _ rfl h1 h4
            split <;> omega
          · injection e with e1 e2
            subst e1 e2
            have := ih _ (by omega) x y z1 rfl h3 h4
            rw [if_pos rfl, List.length_cons]
            omega
theorem lc_ex : ∀ (n : Nat) (x y : List Nat), x.length + y.length = n → ∃ z : List Nat, z.Sublist x ∧ z.Sublist y ∧ z.length = lc x y := by
  intro n
  induction n using Nat.strongRecOn with
  | _ n ih =>
    intro x y hn
    cases x with
    | nil => exact ⟨[], List.nil_sublist _, List.nil_sublist _, rfl⟩
    | cons a x =>
      cases y with
      | nil => exact ⟨[], List.nil_sublist _, List.nil_sublist _, by rw [lc_nil]; rfl⟩
      | cons b y =>
        simp only [List.length_cons] at hn
        obtain ⟨z1, p1, p2, p3⟩ := ih _ (by simp only [List.length_cons]; omega) x (b :: y) rfl
        obtain ⟨z2, q1, q2, q3⟩ := ih _ (by simp only [List.length_cons]; omega) (a :: x) y rfl
        have key : ∃ z : List Nat, z.Sublist (a :: x) ∧ z.Sublist (b :: y) ∧ z.length = max (lc x (b :: y)) (lc (a :: x) y) := by
          rcases Nat.le_total (lc x (b :: y)) (lc (a :: x) y) with h | h
          · exact ⟨z2, q1, q2.trans (List.sublist_cons_self _ _), by rw [q3]; omega⟩
          · exact ⟨z1, p1.trans (List.sublist_cons_self _ _), p2, by rw [p3]; omega⟩
        rw [lc_cons]
        split
        · rename_i e
          subst e
          obtain ⟨z3, r1, r2, r3⟩ := ih _ (by omega) x y rfl
          obtain ⟨z, k1, k2, k3⟩ := key
          rcases Nat.le_total (max (lc x (a :: y)) (lc (a :: x) y)) (1 + lc x y) with h | h
          · exact ⟨a :: z3, r1.cons_cons a, r2.cons_cons a, by rw [List.length_cons, r3]; omega⟩
          · exact ⟨z, k1, k2, by rw [k3]; omega⟩
        · exact key
/-- At places. -/
def lcA (u w : List Nat) (i j : Nat) : Nat := lc (u.drop i) (w.drop j)
theorem lcA_out {u w : List Nat} {i j : Nat} (h : u.length ≤ i ∨ w.length ≤ j) : lcA u w i j = 0 := by
  unfold lcA
  rcases h with h | h
  · rw [List.drop_eq_nil_of_le h]; rfl
  · rw [List.drop_eq_nil_of_le h, lc_nil]
theorem lcA_in {u w : List Nat} {i j : Nat} (hi : i < u.length) (hj : j < w.length) : lcA u w i j = if u[i] = w[j] then max (max (lcA u w (i + 1) j) (lcA u w i (j + 1))) (1 + lcA u w (i + 1) (j + 1)) else max (lcA u w (i + 1) j) (lcA u w i (j + 1)) := by
  unfold lcA
  rw [List.drop_eq_getElem_cons hi, List.drop_eq_getElem_cons hj, lc_cons]
theorem lcA_ge {u w z : List Nat} {i j : Nat} (h1 : z.Sublist (u.drop i)) (h2 : z.Sublist (w.drop j)) : z.length ≤ lcA u w i j := lc_ge _ _ _ _ rfl h1 h2
theorem lcA_ex (u w : List Nat) (i j : Nat) : ∃ z : List Nat, z.Sublist (u.drop i) ∧ z.Sublist (w.drop j) ∧ z.length = lcA u w i j := lc_ex _ _ _ rfl
theorem lcA_le (u w : List Nat) (i j : Nat) : lcA u w i j ≤ u.length - i := by
  obtain ⟨z, h1, _, h3⟩ := lcA_ex u w i j
  have := h1.length_le
  rw [List.length_drop] at this
  omega
/-- Whether a letter leads on. -/
def gd (u w : List Nat) (i j c : Nat) : Bool := decide (nx u i (97 + c) < u.length) && decide (nx w j (97 + c) < w.length) && decide (1 + lcA u w (nx u i (97 + c) + 1) (nx w j (97 + c) + 1) = lcA u w i j)
theorem gd_iff (u w : List Nat) (i j c : Nat) : gd u w i j c = true ↔ nx u i (97 + c) < u.length ∧ nx w j (97 + c) < w.length ∧ 1 + lcA u w (nx u i (97 + c) + 1) (nx w j (97 + c) + 1) = lcA u w i j := by
  unfold gd
  simp [and_assoc]
theorem sub_at {u : List Nat} {i c : Nat} {z : List Nat} (h : (c :: z).Sublist (u.drop i)) (hi : i ≤ u.length) : nx u i c < u.length ∧ z.Sublist (u.drop (nx u i c + 1)) := by
  have h1 := (sub_nxl c z (u.drop i)).1 h
  rw [List.length_drop, List.drop_drop] at h1
  unfold nx
  refine ⟨by omega, ?_⟩
  rw [show i + nxl (u.drop i) c + 1 = i + (nxl (u.drop i) c + 1) by omega]
  exact h1.2
theorem sub_to {u : List Nat} {i c : Nat} {z : List Nat} (h1 : nx u i c < u.length) (h : z.Sublist (u.drop (nx u i c + 1))) : (c :: z).Sublist (u.drop i) := by
  refine (sub_nxl c z (u.drop i)).2 ?_
  unfold nx at h h1
  rw [List.length_drop, List.drop_drop]
  rw [show i + nxl (u.drop i) c + 1 = i + (nxl (u.drop i) c + 1) by omega] at h
  exact ⟨by omega, h⟩
theorem gd_ex {u w : List Nat} {i j : Nat} (hu : Ltr 4 u) (hi : i ≤ u.length) (hj : j ≤ w.length) (h : 0 < lcA u w i j) : ∃ c, c < 4 ∧ gd u w i j c = true := by
  obtain ⟨z, h1, h2, h3⟩ := lcA_ex u w i j
  cases z with
  | nil => simp at h3; omega
  | cons b z =>
    have hb := hu b (List.mem_of_mem_drop (h1.subset (by simp)))
    obtain ⟨c, rfl⟩ : ∃ c, b = 97 + c := ⟨b - 97, by omega⟩
    obtain ⟨a1, a2⟩ := sub_at h1 hi
    obtain ⟨b1, b2⟩ := sub_at h2 hj
    refine ⟨c, by omega, (gd_iff _ _ _ _ _).2 ⟨a1, b1, ?_⟩⟩
    have g1 := lcA_ge a2 b2
    obtain ⟨y, y1, y2, y3⟩ := lcA_ex u w (nx u i (97 + c) + 1) (nx w j (97 + c) + 1)
    have g2 := lcA_ge (sub_to a1 y1) (sub_to b1 y2)
    rw [List.length_cons] at g2 h3
    omega
/-- The first longest one: n letters from two places on. -/
def lgN (u w : List Nat) : Nat → Nat → Nat → List Nat
  | 0, _, _ => []
  | n + 1, i, j => (97 + ((List.range 4).find? (gd u w i j)).getD 0) :: lgN u w n (nx u i (97 + ((List.range 4).find? (gd u w i j)).getD 0) + 1) (nx w j (97 + ((List.range 4).find? (gd u w i j)).getD 0) + 1)
theorem lgN_step {u w : List Nat} {n i j c : Nat} (hc : c < 4) (h : gd u w i j c = true) (hb : ∀ d, d < c → gd u w i j d = false) : lgN u w (n + 1) i j = (97 + c) :: lgN u w n (nx u i (97 + c) + 1) (nx w j (97 + c) + 1) := by
  have : (List.range 4).find? (gd u w i j) = some c := by
    rw [List.find?_range_eq_some]
    exact ⟨h, by simpa using hc, fun d hd => by simpa using hb d hd⟩
  show _ :: _ = _
  rw [this]; rfl
theorem first4 {p : Nat → Bool} (h : ∃ c, c < 4 ∧ p c = true) : ∃ c, c < 4 ∧ p c = true ∧ ∀ d, d < c → p d = false := by
  obtain ⟨n, h1, h2⟩ := h
  obtain ⟨c, a, b, d⟩ := least_ex p n h2
  exact ⟨c, by omega, b, d⟩
def lgW (u w : List Nat) : List Nat := lgN u w (lcA u w 0 0) 0 0
end Go.Proofs.Ytagdbadljcongaa.X
end

section
/- thread.Longest: its table, its variables. -/
set_option linter.unusedVariables false
set_option linter.unusedSimpArgs false
namespace Go.Proofs.Ytagdbadljcongaa.X
open Go Go.RowKit Go.Proofs.YtagdbadljcongaaW.PrintWords Go.Proofs.YtagdbadljcongaaW.PrintLast Go.Proofs.YtagdbadljcongaaW.PrintMore
/-- A region whose steps neither panic nor leave: only what stands behind it is asked. -/
def onlyN (N : Act → World → Prop) (e : Exit) (a : Act) (w : World) : Prop := match e with
  | .normal => N a w
  | _ => False
theorem only_n {N : Act → World → Prop} {a : Act} {w : World} (h : N a w) : onlyN N .normal a w := h
theorem wp_only {P : Program} {c : Code} {Q : Exit → Act → World → Prop} {a : Act} {w : World} (h : c.wp P (onlyN (Q .normal)) a w) : c.wp P Q a w := Code.wp_mono (fun e a w h => by
  cases e with
  | normal => exact h
  | _ => cases h) h
/-- The cells of a table of 61 times 61 numbers. -/
def lcells (f : Nat → Int) : Array Value := ((List.range 3721).map fun j => Value.int .i64 (f j)).toArray
theorem lcells_at (f : Nat → Int) (j : Nat) (h : j < 3721) : (lcells f)[j]? = some (.int .i64 (f j)) := by simp [lcells, h]
theorem lcells_size (f : Nat → Int) : (lcells f).size = 3721 := by simp [lcells]
theorem lcells_set (f : Nat → Int) (j : Nat) (v : Int) (h : j < 3721) : (lcells f).setIfInBounds j (.int .i64 v) = lcells (upd f j v) := by
  apply Array.ext_getElem?
  intro i
  rw [Array.getElem?_setIfInBounds, lcells_size]
  by_cases e : j = i
  · subst e
    rw [if_pos rfl, if_pos h, lcells_at _ j h]; simp [upd]
  · rw [if_neg e]
    by_cases hi : i < 3721
    · rw [lcells_at f i hi, lcells_at _ i hi]; simp [upd, show i ≠ j by omega]
    · simp [lcells, hi]
set_option maxRecDepth 1000000 in
theorem zeros3721 : Try.zeroCells95 = lcells (fun _ => 0) := by kernel_rfl
/-- What the table holds when row i is done behind place j. -/
structure FillOk (u w : List Nat) (i j : Int) (f : Nat → Int) : Prop where
  don : ∀ a b : Nat, a < 61 → b < 61 → (i < (a : Int) ∨ ((a : Int) = i ∧ j < (b : Int))) → f (a * 61 + b) = (lcA u w a b : Int)
  zer : ∀ a b : Nat, a < 61 → b < 61 → w.length ≤ b → f (a * 61 + b) = 0
theorem FillOk.start (u w : List Nat) : FillOk u w ((u.length : Int) - 1) ((w.length : Int) - 1) (fun _ => 0) :=
  ⟨fun a b ha hb h => by rw [lcA_out (by omega)]; rfl, fun _ _ _ _ _ => rfl⟩
theorem FillOk.up {u w : List Nat} {i : Nat} {f : Nat → Int} (h : FillOk u w (i : Int) (-1) f) : FillOk u w ((i : Int) - 1) ((w.length : Int) - 1) f :=
  ⟨fun a b ha hb h2 => by
    rcases h2 with h2 | ⟨h2, h3⟩
    · by_cases e : (i : Int) < (a : Int)
      · exact h.don a b ha hb (.inl e)
      · exact h.don a b ha hb (.inr ⟨by omega, by omega⟩)
    · rw [h.zer a b ha hb (by omega), lcA_out (.inr (by omega))]; rfl, h.zer⟩
theorem FillOk.put {u w : List Nat} {i j : Nat} {f : Nat → Int} {v : Int} (h : FillOk u w (i : Int) (j : Int) f) (hj : j < w.length) (hj61 : j < 61) (hv : v = (lcA u w i j : Int)) : FillOk u w (i : Int) ((j : Int) - 1) (upd f (i * 61 + j) v) := by
  refine ⟨fun a b ha hb h2 => ?_, fun a b ha hb h2 => ?_⟩
  · unfold upd
    by_cases e : a * 61 + b = i * 61 + j
    · have e1 : a = i := by omega
      have e2 : b = j := by omega
      subst e1 e2
      rw [if_pos rfl, hv]
    · rw [if_neg e]
      refine h.don a b ha hb ?_
      rcases h2 with h2 | ⟨h2, h3⟩
      · exact .inl h2
      · refine .inr ⟨h2, ?_⟩
        have : a = i := by omega
        subst this
        have : b ≠ j := fun e2 => e (by rw [e2])
        omega
  · unfold upd
    rw [if_neg (by omega)]
    exact h.zer a b ha hb h2
/-- Where the variables lie. -/
structure LgG where
  b1 : Nat
  gx : Nat
  b2 : Nat
  gy : Nat
  gm : Nat
  go : Nat
  gi : Nat
  gj : Nat
  top : Nat
def LgG.Ok (E : LgG) (lo : Nat) : Prop := lo ≤ E.b1 ∧ E.b1 < E.gx ∧ E.gx < E.b2 ∧ E.b2 < E.gy ∧ E.gy < E.gm ∧ E.gm < E.go ∧ E.go < E.gi ∧ E.gi < E.gj ∧ E.gj < E.top
/-- Ahead of the search. -/
structure LgPre (u s : ByteArray) (b1 gx b2 gy gm : Nat) (f : Nat → Int) (w W : World) : Prop where
  cx : W.heap[gx]? = some (.cells #[.pointer (some ⟨b1, 0, none⟩)] 70 (0, 0))
  cy : W.heap[gy]? = some (.cells #[.pointer (some ⟨b2, 0, none⟩)] 70 (0, 0))
  cm : W.heap[gm]? = some (.cells (lcells f) 95 (0, 0))
  wx : WordAt W b1 u
  wy : WordAt W b2 s
  bel : Below w.heap.size w W
theorem LgPre.below {u s : ByteArray} {b1 gx b2 gy gm : Nat} {f : Nat → Int} {w W W' : World} (h : LgPre u s b1 gx b2 gy gm f w W) (hb : Below W.heap.size W W') : LgPre u s b1 gx b2 gy gm f w W' :=
  ⟨blk_below h.cx hb, blk_below h.cy hb, blk_below h.cm hb, h.wx.below hb, h.wy.below hb, below_step h.bel hb⟩
theorem LgPre.set {u s : ByteArray} {b1 gx b2 gy gm : Nat} {f : Nat → Int} {w W : World} (h : LgPre u s b1 gx b2 gy gm f w W) (hlo : w.heap.size ≤ b1) (h1 : b1 < gx) (h2 : gx < b2) (h3 : b2 < gy) (h4 : gy < gm) (j : Nat) (hj : j < 3721) (v : Int) : LgPre u s b1 gx b2 gy gm (upd f j v) w (W.setCell ⟨gm, j, none⟩ (.int .i64 v)) := by
  obtain ⟨g1, e1, e2⟩ := h.wx.ex
  obtain ⟨g2, e3, e4⟩ := h.wy.ex
  exact ⟨blk_far h.cx (by show gx ≠ gm; omega) _, blk_far h.cy (by show gy ≠ gm; omega) _, by rw [← lcells_set f j v hj]; exact blk_set h.cm j _, ⟨g1, blk_far e1 (by show b1 ≠ gm; omega) _, e2⟩, ⟨g2, blk_far e3 (by show b2 ≠ gm; omega) _, e4⟩, h.bel.setCell (by show w.heap.size ≤ gm; omega) _⟩
theorem LgPre.at_ {u s : ByteArray} {b1 gx b2 gy gm : Nat} {f : Nat → Int} {w W : World} (h : LgPre u s b1 gx b2 gy gm f w W) (j : Nat) (hj : j < 3721) : W.cell? ⟨gm, j, none⟩ = some (.int .i64 (f j)) := (blk_cell h.cm j).trans (lcells_at f j hj)
/-- What the variables hold. -/
structure LgAt (u s : ByteArray) (E : LgG) (i j : Int) (o : ByteArray) (W : World) : Prop where
  cx : W.heap[E.gx]? = some (.cells #[.pointer (some ⟨E.b1, 0, none⟩)] 70 (0, 0))
  cy : W.heap[E.gy]? = some (.cells #[.pointer (some ⟨E.b2, 0, none⟩)] 70 (0, 0))
  cm : ∃ f : Nat → Int, W.heap[E.gm]? = some (.cells (lcells f) 95 (0, 0)) ∧ ∀ a b : Nat, a < 61 → b < 61 → f (a * 61 + b) = (lcA (bl u) (bl s) a b : Int)
  co : W.heap[E.go]? = some (.cells #[.string o] 9 (0, 0))
  ci : W.heap[E.gi]? = some (.cells #[.int .i64 i] 3 (0, 0))
  cj : W.heap[E.gj]? = some (.cells #[.int .i64 j] 3 (0, 0))
  wx : WordAt W E.b1 u
  wy : WordAt W E.b2 s
theorem LgAt.kept {u s : ByteArray} {E : LgG} {i j : Int} {o : ByteArray} {W W' : World} (h : LgAt u s E i j o W) (hk : ∀ (g : Nat) (cs : Array Value) (t : TypeId), W.heap[g]? = some (.cells cs t (0, 0)) → W'.heap[g]? = some (.cells cs t (0, 0))) : LgAt u s E i j o W' := by
  obtain ⟨f, h1, h2⟩ := h.wx.ex
  obtain ⟨f', h1', h2'⟩ := h.wy.ex
  obtain ⟨fl, h3, h4⟩ := h.cm
  exact ⟨hk _ _ _ h.cx, hk _ _ _ h.cy, ⟨fl, hk _ _ _ h3, h4⟩, hk _ _ _ h.co, hk _ _ _ h.ci, hk _ _ _ h.cj, ⟨f, hk _ _ _ h1, h2⟩, ⟨f', hk _ _ _ h1', h2'⟩⟩
theorem LgAt.below {u s : ByteArray} {E : LgG} {i j : Int} {o : ByteArray} {W W' : World} (h : LgAt u s E i j o W) (hb : Below W.heap.size W W') : LgAt u s E i j o W' := h.kept fun g cs t e => blk_below e hb
theorem LgAt.put {u s : ByteArray} {E : LgG} {i j : Int} {o : ByteArray} {W : World} (h : LgAt u s E i j o W) {l : Nat} {ob : Obj} (hl : W.heap[l]? = some ob) (hc : ob.isCells = false) (ob' : Obj) : LgAt u s E i j o (W.putObj l ob') :=
  h.kept fun g cs t e => by rw [World.putObj_heap_other (fun e2 => by subst e2; rw [hl] at e; injection e with e; subst e; cases hc)]; exact e
theorem LgAt.setO {u s : ByteArray} {E : LgG} {lo : Nat} {i j : Int} {o : ByteArray} {W : World} (h : LgAt u s E i j o W) (hE : E.Ok lo) (o' : ByteArray) : LgAt u s E i j o' (W.setCell ⟨E.go, 0, none⟩ (.string o')) := by
  obtain ⟨f, h1, h2⟩ := h.wx.ex
  obtain ⟨f', h1', h2'⟩ := h.wy.ex
  obtain ⟨fl, h3, h4⟩ := h.cm
  obtain ⟨e0, e1, e2, e3, e4, e5, e6, e7, e8⟩ := hE
  exact ⟨blk_far h.cx (by show E.gx ≠ E.go; omega) _, blk_far h.cy (by show E.gy ≠ E.go; omega) _, ⟨fl, blk_far h3 (by show E.gm ≠ E.go; omega) _, h4⟩, (blk_set h.co 0 _).trans rfl, blk_far h.ci (by show E.gi ≠ E.go; omega) _, blk_far h.cj (by show E.gj ≠ E.go; omega) _, ⟨f, blk_far h1 (by show E.b1 ≠ E.go; omega) _, h2⟩, ⟨f', blk_far h1' (by show E.b2 ≠ E.go; omega) _, h2'⟩⟩
theorem LgAt.setI {u s : ByteArray} {E : LgG} {lo : Nat} {i j : Int} {o : ByteArray} {W : World} (h : LgAt u s E i j o W) (hE : E.Ok lo) (i' : Int) : LgAt u s E i' j o (W.setCell ⟨E.gi, 0, none⟩ (.int .i64 i')) := by
  obtain ⟨f, h1, h2⟩ := h.wx.ex
  obtain ⟨f', h1', h2'⟩ := h.wy.ex
  obtain ⟨fl, h3, h4⟩ := h.cm
  obtain ⟨e0, e1, e2, e3, e4, e5, e6, e7, e8⟩ := hE
  exact ⟨blk_far h.cx (by show E.gx ≠ E.gi; omega) _, blk_far h.cy (by show E.gy ≠ E.gi; omega) _, ⟨fl, blk_far h3 (by show E.gm ≠ E.gi; omega) _, h4⟩, blk_far h.co (by show E.go ≠ E.gi; omega) _, (blk_set h.ci 0 _).trans rfl, blk_far h.cj (by show E.gj ≠ E.gi; omega) _, ⟨f, blk_far h1 (by show E.b1 ≠ E.gi; omega) _, h2⟩, ⟨f', blk_far h1' (by show E.b2 ≠ E.gi; omega) _, h2'⟩⟩
theorem LgAt.setJ {u s : ByteArray} {E : LgG} {lo : Nat} {i j : Int} {o : ByteArray} {W : World} (h : LgAt u s E i j o W) (hE : E.Ok lo) (j' : Int) : LgAt u s E i j' o (W.setCell ⟨E.gj, 0, none⟩ (.int .i64 j')) := by
  obtain ⟨f, h1, h2⟩ := h.wx.ex
  obtain ⟨f', h1', h2'⟩ := h.wy.ex
  obtain ⟨fl, h3, h4⟩ := h.cm
  obtain ⟨e0, e1, e2, e3, e4, e5, e6, e7, e8⟩ := hE
  exact ⟨blk_far h.cx (by show E.gx ≠ E.gj; omega) _, blk_far h.cy (by show E.gy ≠ E.gj; omega) _, ⟨fl, blk_far h3 (by show E.gm ≠ E.gj; omega) _, h4⟩, blk_far h.co (by show E.go ≠ E.gj; omega) _, blk_far h.ci (by show E.gi ≠ E.gj; omega) _, (blk_set h.cj 0 _).trans rfl, ⟨f, blk_far h1 (by show E.b1 ≠ E.gj; omega) _, h2⟩, ⟨f', blk_far h1' (by show E.b2 ≠ E.gj; omega) _, h2'⟩⟩
theorem LgAt.tab {u s : ByteArray} {E : LgG} {i j : Int} {o : ByteArray} {W : World} (h : LgAt u s E i j o W) (a b : Nat) (ha : a < 61) (hb : b < 61) : W.cell? ⟨E.gm, a * 61 + b, none⟩ = some (.int .i64 (lcA (bl u) (bl s) a b : Int)) := by
  obtain ⟨fl, h3, h4⟩ := h.cm
  rw [← h4 a b ha hb]
  exact (blk_cell h3 _).trans (lcells_at _ _ (by omega))
/-- The loop's state: n letters are still to come. -/
structure LgLoop (u s : ByteArray) (E : LgG) (w : World) (R : List Nat) (n i j : Nat) (o : ByteArray) (ds : List Deferred) (W : World) : Prop where
  at_ : LgAt u s E i j o W
  bel : Below w.heap.size w W
  mks : Marks w.heap.size W ds
  hi : i ≤ u.size
  hj : j ≤ s.size
  hn : lcA (bl u) (bl s) i j = n
  ho : o.size ≤ i
  eq : bl o ++ lgN (bl u) (bl s) n i j = R
/-- Where a range stands when c letters have been tried; what a pick leaves. -/
structure LgR (u s : ByteArray) (E : LgG) (w : World) (T i j : Nat) (o : ByteArray) (ds : List Deferred) (c : Nat) (W : World) : Prop where
  at_ : LgAt u s E i j o W
  no : ∀ d, d < c → gd (bl u) (bl s) i j d = false
  bel : Below w.heap.size w W
  mks : Marks w.heap.size W ds
  dl : ∀ D, ({ target := .collected D, args := #[] } : Deferred) ∈ ds → D < T
structure LgX (u s : ByteArray) (E : LgG) (w : World) (T i j : Nat) (o : ByteArray) (ds : List Deferred) (c : Nat) (W : World) : Prop where
  ex : ∃ p q : Nat, nx (bl u) i (97 + c) = p ∧ nx (bl s) j (97 + c) = q ∧ LgAt u s E ((p : Int) + 1) ((q : Int) + 1) (o ++ ltr c) W
  no : ∀ d, d < c → gd (bl u) (bl s) i j d = false
  yes : gd (bl u) (bl s) i j c = true
  bel : Below w.heap.size w W
  mks : Marks w.heap.size W ds
  dl : ∀ D, ({ target := .collected D, args := #[] } : Deferred) ∈ ds → D < T
theorem LgR.put {u s : ByteArray} {E : LgG} {w W : World} {T i j : Nat} {o : ByteArray} {ds : List Deferred} {c : Nat} (h : LgR u s E w T i j o ds c W) (hT : w.heap.size ≤ T) {l : Nat} {ob : Obj} (hl : T ≤ l) (ho : W.heap[l]? = some ob) (hc : ob.isCells = false) (ob' : Obj) : LgR u s E w T i j o ds c (W.putObj l ob') :=
  ⟨h.at_.put ho hc ob', h.no, below_put h.bel (by omega) _, h.mks.put (fun D hD e => by have := h.dl D hD; omega) _, h.dl⟩
theorem LgX.put {u s : ByteArray} {E : LgG} {w W : World} {T i j : Nat} {o : ByteArray} {ds : List Deferred} {c : Nat} (h : LgX u s E w T i j o ds c W) (hT : w.heap.size ≤ T) {l : Nat} {ob : Obj} (hl : T ≤ l) (ho : W.heap[l]? = some ob) (hc : ob.isCells = false) (ob' : Obj) : LgX u s E w T i j o ds c (W.putObj l ob') := by
  obtain ⟨p, q, h1, h2, h3⟩ := h.ex
  exact ⟨⟨p, q, h1, h2, h3.put ho hc ob'⟩, h.no, h.yes, below_put h.bel (by omega) _, h.mks.put (fun D hD e => by have := h.dl D hD; omega) _, h.dl⟩
theorem LgR.below {u s : ByteArray} {E : LgG} {w W W' : World} {T i j : Nat} {o : ByteArray} {ds : List Deferred} {c : Nat} (h : LgR u s E w T i j o ds c W) (hb : Below W.heap.size W W') : LgR u s E w T i j o ds c W' :=
  ⟨h.at_.below hb, h.no, below_step h.bel hb, h.mks.below hb, h.dl⟩
/-- A letter was picked: the loop goes on. -/
theorem LgX.next {u s : ByteArray} {E : LgG} {w W : World} {T n i j : Nat} {o : ByteArray} {ds : List Deferred} {c D : Nat} {R : List Nat} (h : LgX u s E w T i j o ds c W) (hc : c < 4) (hi : i ≤ u.size) (hj : j ≤ s.size) (hn : lcA (bl u) (bl s) i j = n + 1) (ho : o.size ≤ i) (heq : bl o ++ lgN (bl u) (bl s) (n + 1) i j = R)
    (hT : w.heap.size ≤ T) (hD : T ≤ D) (hDW : W.heap[D]? = some (.deferred (some []))) : ∃ p q : Nat, LgLoop u s E w R n (p + 1) (q + 1) (o ++ ltr c) ({ target := .collected D, args := #[] } :: ds) W := by
  obtain ⟨p, q, h1, h2, h3⟩ := h.ex
  obtain ⟨g1, g2, g3⟩ := (gd_iff _ _ _ _ _).1 h.yes
  have hp := nx_le (bl u) i (97 + c) (by rw [bl_length]; exact hi)
  rw [h1, bl_length] at g1
  rw [h2, bl_length] at g2
  rw [h1, h2] at g3
  rw [h1] at hp
  refine ⟨p, q, ⟨by simpa using h3, h.bel, ?_, by omega, by omega, by omega, by rw [size_ltr]; omega, ?_⟩⟩
  · exact h.mks.cons (by omega) hDW (fun D' hD' e => by have := h.dl D' hD'; omega)
  · rw [lgN_step hc h.yes h.no, h1, h2] at heq
    rw [bl_ltr o hc, ← heq]
    simp
end Go.Proofs.Ytagdbadljcongaa.X
end
