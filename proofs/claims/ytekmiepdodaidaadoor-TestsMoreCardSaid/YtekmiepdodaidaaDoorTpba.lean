/- Texts behind TestsMore, part 27: contracts of the program's functions and the plain words for them. -/
import Derived.BigQuiet
import Derived.Deep.QuietTactic
import Derived.Test.YtekmiepdodaidaaDoorTpas
import Derived.Test.YtekmiepdodaidaaDoorTpav
import Derived.Test.YtekmiepdodaidaaDoorTpax
import Derived.Test.YtekmiepdodaidaaDoorTpaz
section
/- Layer 7, plain: the ways through the plan of a choice; its mean and its worst. -/
set_option linter.unusedVariables false
namespace Go.Proofs.YtekmiepdodaidaaDoor.X
open Go.RowKit Go.Proofs.YtekmiepdodaidaaDoorW.PrintWords Go.Proofs.YtekmiepdodaidaaDoorW.PrintLast Go.Proofs.YtekmiepdodaidaaDoorW.PrintMore

/-- The tests on the way of a fault through the tree of a set. -/
def pathF (tf : Int → Int) (ones : List Int) : Nat → Int → Nat → List Int
 | 0, _, _ => []
 | d + 1, s, f => if pcount s = 1 then [] else tf s :: pathF tf ones d (if memB (rd ones (tf s)) f = true then bAnd s (rd ones (tf s)) else bSub s (rd ones (tf s))) f
def pathB (tf : Int → Int) (ones : List Int) (s : Int) (f : Nat) : List Int := pathF tf ones (s.toNat + 1) s f
/-- The part of a divided set in which a fault is. -/
def partB (tf : Int → Int) (ones : List Int) (s : Int) (f : Nat) : Int := if memB (rd ones (tf s)) f = true then bAnd s (rd ones (tf s)) else bSub s (rd ones (tf s))
def Sits (plan T : List S57) (p : Nat) : Prop := p + T.length ≤ plan.length ∧ ∀ i, i < T.length → plan[p + i]? = T[i]?
section
variable {n nt : Nat} {tf : Int → Int} {ones : List Int} {R : Int → Prop} (H : TreeOk n nt tf ones R)
include H
theorem part_ok (s : Int) (hR : R s) (h1 : pcount s ≠ 1) (f : Nat) : R (partB tf ones s f) ∧ (partB tf ones s f).toNat < s.toNat := by
 obtain ⟨t0, t1, t2, t4, t5, k1, k2⟩ := run_parts H s hR h1
 unfold partB
 split
 ·exact ⟨t5, k2⟩
 ·exact ⟨t4, k1⟩
theorem part_mem (s : Int) (hR : R s) (h1 : pcount s ≠ 1) (f : Nat) (hf : f < 64) (hm : memB s f = true) : memB (partB tf ones s f) f = true := by
 obtain ⟨t0, t1, t2, t4, t5, k1, k2⟩ := run_parts H s hR h1
 have hs := (H.runs.set s hR).1
 unfold partB
 by_cases h : memB (rd ones (tf s)) f = true
 ·rw [if_pos h, mem_and hs t2, hm, h]; rfl
 ·rw [if_neg h, mem_sub hs t2 f hf, hm]; simpa using h
theorem pathF_stable (f : Nat) : ∀ (d : Nat) (s : Int), R s → s.toNat < d → pathF tf ones d s f = pathF tf ones (d + 1) s f
 | 0, s, hR, h => absurd h (Nat.not_lt_zero _)
 | d + 1, s, hR, h => by
  unfold pathF
  by_cases h1 : pcount s = 1
  ·rw [if_pos h1, if_pos h1]
  ·rw [if_neg h1, if_neg h1]
   obtain ⟨q1, q2⟩ := part_ok H s hR h1 f
   have := pathF_stable f d _ q1 (Nat.lt_of_lt_of_le q2 (Nat.le_of_lt_succ h))
   unfold partB at this
   rw [this]
theorem pathF_more (f : Nat) (s : Int) (hR : R s) (d : Nat) (hd : s.toNat < d) : pathF tf ones d s f = pathB tf ones s f := by
 unfold pathB
 obtain ⟨e, rfl⟩ : ∃ e, d = s.toNat + 1 + e := ⟨d - (s.toNat + 1), by omega⟩
 clear hd
 induction e with
 | zero => rfl
 | succ e ih => rw [← ih]; exact (pathF_stable H f (s.toNat + 1 + e) s hR (by omega)).symm
omit H in
theorem path_one (s : Int) (f : Nat) (h1 : pcount s = 1) : pathB tf ones s f = [] := by unfold pathB pathF; rw [if_pos h1]
theorem path_two (s : Int) (f : Nat) (hR : R s) (h1 : pcount s ≠ 1) : pathB tf ones s f = tf s :: pathB tf ones (partB tf ones s f) f := by
 obtain ⟨q1, q2⟩ := part_ok H s hR h1 f
 show pathF tf ones (s.toNat + 1) s f = _
 unfold pathF
 rw [if_neg h1]
 show _ :: pathF tf ones s.toNat (partB tf ones s f) f = _
 rw [pathF_more H f _ q1 _ q2]
omit H in
theorem sits_node {plan Z O : List S57} {x0 : S57} {p : Nat} (h : Sits plan (x0 :: (Z ++ O)) p) : rd_T57 plan (p : Int) = x0 ∧ p < plan.length ∧ Sits plan Z (p + 1) ∧ Sits plan O (p + 1 + Z.length) := by
 obtain ⟨h1, h2⟩ := h
 rw [List.length_cons, List.length_append] at h1 h2
 refine ⟨?_, by omega, ⟨by omega, fun i hi => ?_⟩, ⟨by omega, fun i hi => ?_⟩⟩
 ·have := h2 0 (by omega)
  rw [Nat.add_zero, List.getElem?_cons_zero, List.getElem?_eq_getElem (by omega)] at this
  rw [rdT_at plan p (by omega)]
  exact Option.some.inj this
 ·have := h2 (i + 1) (by omega)
  rw [List.getElem?_cons_succ, List.getElem?_append_left hi, show p + (i + 1) = p + 1 + i by omega] at this
  exact this
 ·have := h2 (Z.length + i + 1) (by omega)
  rw [List.getElem?_cons_succ, List.getElem?_append_right (by omega), show p + (Z.length + i + 1) = p + 1 + Z.length + i by omega, show Z.length + i - Z.length = i by omega] at this
  exact this
/-- The way of a fault of the set ends at its leaf. -/
theorem way_tree {b : List (List Int)} (hrow : ∀ (t : Nat) (f : Nat), t < nt → f < n → (rd (rd_L1 b (t : Int)) (f : Int) = 1 ↔ memB (rd ones (t : Int)) f = true)) (plan : List S57) (f : Nat) (hf : f < n) (d : Nat) :
  ∀ (s : Int) (p D : Nat), R s → s.toNat ≤ d → Sits plan (treeB tf ones s p) p → memB s f = true → (treeB tf ones s p).length ≤ D → wayN b plan (f : Int) D (p : Int) = (pathB tf ones s f, (f : Int)) := by
 induction d with
 | zero => intro s p D hR h; have hs := (H.runs.set s hR).2; exfalso; omega
 | succ d ih =>
  intro s p D hR h hsit hm hD
  have hs := H.runs.set s hR
  have hn := H.n10
  by_cases h1 : pcount s = 1
  ·obtain ⟨g, e1, e2, e3, e4⟩ := one_is hs.1 h1 (H.lt s hR)
   rw [treeB_one s p h1, e1] at hsit hD
   rw [path_one s f h1]
   obtain ⟨q1, q2, _⟩ := sits_node (Z := []) (O := []) hsit
   have hg : g = f := by have := e4 f; rw [hm] at this; simpa using this.symm
   obtain ⟨D, rfl⟩ : ∃ D', D = D' + 1 := ⟨D - 1, by simp at hD; omega⟩
   unfold wayN
   rw [q1, hg]; rfl
  ·obtain ⟨t0, t1, t2, t4, t5, k1, k2⟩ := run_parts H s hR h1
   obtain ⟨q1, q2⟩ := part_ok H s hR h1 f
   have q3 := part_mem H s hR h1 f (by omega) hm
   have i1 := ih (bSub s (rd ones (tf s))) (p + 1)
   have i2 := ih (bAnd s (rd ones (tf s))) (p + 1 + (treeB tf ones (bSub s (rd ones (tf s))) (p + 1)).length)
   rw [path_two H s f hR h1]
   rw [treeB_two H.runs s p hR h1] at hsit hD
   rw [List.length_cons, List.length_append] at hD
   obtain ⟨w1_, w2, w3, w4⟩ := sits_node hsit
   obtain ⟨t, ht⟩ : ∃ t : Nat, tf s = (t : Int) := ⟨(tf s).toNat, by omega⟩
   have hb := hrow t f (by omega) hf
   rw [← ht] at hb
   generalize hZ : treeB tf ones (bSub s (rd ones (tf s))) (p + 1) = Z at *
   generalize hO : treeB tf ones (bAnd s (rd ones (tf s))) (p + 1 + Z.length) = O at *
   obtain ⟨D, rfl⟩ : ∃ D', D = D' + 1 := ⟨D - 1, by omega⟩
   unfold wayN
   rw [w1_]
   dsimp only
   rw [if_neg (show ¬ (tf s < 0) by omega)]
   by_cases hx : memB (rd ones (tf s)) f = true
   ·have hp : partB tf ones s f = bAnd s (rd ones (tf s)) := by unfold partB; rw [if_pos hx]
    rw [hp] at q3 ⊢
    rw [if_pos (hb.2 hx), i2 D t5 (Nat.le_of_lt_succ (Nat.lt_of_lt_of_le k2 h)) w4 q3 (by omega)]
   ·have hp : partB tf ones s f = bSub s (rd ones (tf s)) := by unfold partB; rw [if_neg hx]
    rw [hp] at q3 ⊢
    rw [if_neg (fun e => hx (hb.1 e)), i1 D t4 (Nat.le_of_lt_succ (Nat.lt_of_lt_of_le k1 h)) w3 q3 (by omega)]
end
theorem sumR_congr {g h : Nat → Int} : ∀ n, (∀ i, i < n → g i = h i) → sumR g n = sumR h n
 | 0, _ => rfl
 | n + 1, e => by simp only [sumR, sumR_congr n (fun i hi => e i (by omega)), e n (by omega)]
theorem sumR_add (g h : Nat → Int) : ∀ n, sumR (fun i => g i + h i) n = sumR g n + sumR h n
 | 0 => rfl
 | n + 1 => by simp only [sumR, sumR_add g h n]; omega
theorem sumR_mul (k : Int) (g : Nat → Int) : ∀ n, sumR (fun i => k * g i) n = k * sumR g n
 | 0 => by simp [sumR]
 | n + 1 => by simp only [sumR, sumR_mul k g n, Int.mul_add]
theorem sumR_zero {g : Nat → Int} : ∀ n, (∀ i, i < n → g i = 0) → sumR g n = 0
 | 0, _ => rfl
 | n + 1, e => by simp only [sumR, sumR_zero n (fun i hi => e i (by omega)), e n (by omega)]; rfl
theorem sumR_shift (g : Nat → Int) : ∀ n, sumR g (n + 1) = g 0 + sumR (fun i => g (i + 1)) n
 | 0 => by simp [sumR]
 | n + 1 => by
  show sumR g (n + 1) + g (n + 1) = _
  rw [sumR_shift g n]; simp only [sumR]; omega
theorem wOf_sum : ∀ (a : List Int) (s : Nat), wOf a s = sumR (fun f => if s.testBit f = true then rd a (f : Int) else 0) a.length
 | [], s => rfl
 | x :: xs, s => by
  rw [List.length_cons, sumR_shift, wOf, wOf_sum xs (s / 2)]
  congr 1
  ·have : s.testBit 0 = decide (s % 2 = 1) := Nat.testBit_zero s
   rw [this]
   by_cases h : s % 2 = 1 <;> simp [h, rd]
  ·refine sumR_congr _ (fun i hi => ?_)
   rw [Nat.testBit_succ, show rd (x :: xs) ((i + 1 : Nat) : Int) = rd xs (i : Int) from by simp only [rd, Int.toNat_natCast, List.getD_cons_succ]]
theorem le_mx (x y : Int) : x ≤ mx x y ∧ y ≤ mx x y := by unfold mx; split <;> omega
theorem mx_le {x y z : Int} (h1 : x ≤ z) (h2 : y ≤ z) : mx x y ≤ z := by unfold mx; split <;> omega
theorem maxR_congr {g h : Nat → Int} : ∀ n, (∀ i, i < n → g i = h i) → maxR g n = maxR h n
 | 0, _ => rfl
 | n + 1, e => by simp only [maxR, maxR_congr n (fun i hi => e i (by omega)), e n (by omega)]
theorem maxR_nonneg (g : Nat → Int) : ∀ n, 0 ≤ maxR g n
 | 0 => Int.le_refl _
 | n + 1 => Int.le_trans (maxR_nonneg g n) (le_mx _ _).1
theorem le_maxR (g : Nat → Int) : ∀ (n i : Nat), i < n → g i ≤ maxR g n
 | 0, i, h => absurd h (Nat.not_lt_zero _)
 | n + 1, i, h => by
  by_cases e : i = n
  ·subst e; exact (le_mx _ _).2
  ·exact Int.le_trans (le_maxR g n i (by omega)) (le_mx _ _).1
theorem maxR_le {g : Nat → Int} {M : Int} (h0 : 0 ≤ M) : ∀ n, (∀ i, i < n → g i ≤ M) → maxR g n ≤ M
 | 0, _ => h0
 | n + 1, h => mx_le (maxR_le h0 n (fun i hi => h i (by omega))) (h n (by omega))
theorem maxR_at (g : Nat → Int) : ∀ n, maxR g n = 0 ∨ ∃ i, i < n ∧ g i = maxR g n
 | 0 => .inl rfl
 | n + 1 => by
  simp only [maxR]
  by_cases h : maxR g n < g n
  ·exact .inr ⟨n, by omega, by unfold mx; rw [if_pos h]⟩
  ·have e : mx (maxR g n) (g n) = maxR g n := by unfold mx; rw [if_neg h]
   rw [e]
   rcases maxR_at g n with h1 | ⟨i, hi, h2⟩
   ·exact .inl h1
   ·exact .inr ⟨i, by omega, h2⟩
theorem costL_cons (c : List Int) (t : Int) (ts : List Int) : costL c (t :: ts) = rd c t + costL c ts := rfl
def pathC (c : List Int) (tf : Int → Int) (ones : List Int) (s : Int) (f : Nat) : Int := costL c (pathB tf ones s f)
def meanS (a c : List Int) (tf : Int → Int) (ones : List Int) (s : Int) : Int := sumR (fun f => if memB s f = true then rd a (f : Int) * pathC c tf ones s f else 0) a.length
def worstS (n : Nat) (c : List Int) (tf : Int → Int) (ones : List Int) (s : Int) : Int := maxR (fun f => if memB s f = true then pathC c tf ones s f else 0) n
theorem lt64 {f n : Nat} (hf : f < n) (hn : n ≤ 10) : f < 64 := by omega
theorem bit_lt {n : Nat} {u : Int} (hs : SetB u) (h1 : 1 ≤ u) (hlt : u < (2 ^ n : Nat)) : ∃ f, f < n ∧ memB u f = true := by
 unfold SetB at hs
 obtain ⟨f, hf10, hbit⟩ := some_bit u.toNat (by omega) (by omega)
 refine ⟨f, ?_, hbit⟩
 rcases Nat.lt_or_ge f n with h | h
 ·exact h
 ·have hp2 := Nat.pow_le_pow_right (show 0 < 2 by decide) h
  rw [Nat.testBit_lt_two_pow (show u.toNat < 2 ^ f by omega)] at hbit
  cases hbit
theorem ar_a {k p M : Int} (h : k + p ≤ M) (h0 : 0 ≤ p) : k + 0 ≤ M := by omega
theorem ar_b {k p q M : Int} (h1 : p ≤ q) (h2 : q ≤ M) : k + p ≤ k + M := by omega
theorem ar_c {k x y : Int} (hk : 1 ≤ k) (h0 : 0 ≤ x) : 0 ≤ k + mx x y := by unfold mx; split <;> omega
theorem ar_d {k x y S : Int} (h1 : k + x ≤ S) (h2 : k + y ≤ S) : k + mx x y ≤ S := by unfold mx; split <;> omega
section
variable {n nt : Nat} {tf : Int → Int} {ones : List Int} {R : Int → Prop} (H : TreeOk n nt tf ones R)
include H
theorem path_tests (f : Nat) (d : Nat) : ∀ s, R s → s.toNat ≤ d → ∀ t ∈ pathB tf ones s f, 0 ≤ t ∧ t < (nt : Int) := by
 induction d with
 | zero => intro s hR h; have hs := (H.runs.set s hR).2; exfalso; omega
 | succ d ih =>
  intro s hR h t ht
  by_cases h1 : pcount s = 1
  ·rw [path_one s f h1] at ht; cases ht
  ·rw [path_two H s f hR h1] at ht
   obtain ⟨q1, q2⟩ := part_ok H s hR h1 f
   rcases List.mem_cons.1 ht with rfl | ht
   ·obtain ⟨t0, t1, _⟩ := run_parts H s hR h1
    exact ⟨t0, t1⟩
   ·exact ih _ q1 (Nat.le_of_lt_succ (Nat.lt_of_lt_of_le q2 h)) t ht
theorem pathC_nonneg {c : List Int} (hc : ∀ t : Nat, t < nt → 1 ≤ rd c (t : Int) ∧ rd c (t : Int) ≤ 100) (s : Int) (hR : R s) (f : Nat) : 0 ≤ pathC c tf ones s f :=
 (costL_bounds hc _ (path_tests H f s.toNat s hR (Nat.le_refl _))).1
omit H in
theorem mean_one (a c : List Int) (s : Int) (h1 : pcount s = 1) : meanS a c tf ones s = 0 := by
 refine sumR_zero _ (fun f _ => ?_)
 unfold pathC
 rw [path_one s f h1]
 simp [costL]
omit H in
theorem worst_one (n : Nat) (c : List Int) (s : Int) (h1 : pcount s = 1) : worstS n c tf ones s = 0 := by
 refine Int.le_antisymm (maxR_le (Int.le_refl _) _ (fun f _ => ?_)) (maxR_nonneg _ _)
 unfold pathC
 rw [path_one s f h1]
 simp [costL]
theorem pathC_two (c : List Int) (s : Int) (f : Nat) (hR : R s) (h1 : pcount s ≠ 1) : pathC c tf ones s f = rd c (tf s) + pathC c tf ones (partB tf ones s f) f := by
 have e := path_two H s f hR h1
 unfold pathC
 rw [e, costL_cons]
theorem mean_two (a c : List Int) (ha : a.length ≤ 10) (s : Int) (hR : R s) (h1 : pcount s ≠ 1) :
  meanS a c tf ones s = rd c (tf s) * wOf a s.toNat + meanS a c tf ones (bSub s (rd ones (tf s))) + meanS a c tf ones (bAnd s (rd ones (tf s))) := by
 obtain ⟨t0, t1, t2, t4, t5, k1, k2⟩ := run_parts H s hR h1
 have hs := (H.runs.set s hR).1
 unfold meanS
 rw [wOf_sum, ← sumR_mul, ← sumR_add, ← sumR_add]
 refine sumR_congr _ (fun f hf => ?_)
 have m1 := mem_and hs t2 f
 have m2 := mem_sub hs t2 f (lt64 hf ha)
 have hp := pathC_two H c s f hR h1
 show _ = rd c (tf s) * (if memB s f = true then rd a (f : Int) else 0) + _ + _
 cases hm : memB s f
 ·rw [hm, Bool.false_and] at m1 m2
  rw [m1, m2]
  simp
 ·rw [hm, Bool.true_and] at m1 m2
  rw [m1, m2, hp]
  unfold partB
  cases memB (rd ones (tf s)) f
  ·simp only [if_true, Bool.not_false]
   rw [if_neg (by decide), if_neg (by decide), Int.mul_add, Int.add_zero, Int.mul_comm (rd a (f : Int)) (rd c (tf s))]
  ·simp only [if_true, Bool.not_true]
   rw [if_neg (by decide), Int.mul_add, Int.add_zero, Int.mul_comm (rd a (f : Int)) (rd c (tf s))]
theorem worst_two {c : List Int} (hc : ∀ t : Nat, t < nt → 1 ≤ rd c (t : Int) ∧ rd c (t : Int) ≤ 100) (s : Int) (hR : R s) (h1 : pcount s ≠ 1) :
  worstS n c tf ones s = rd c (tf s) + mx (worstS n c tf ones (bSub s (rd ones (tf s)))) (worstS n c tf ones (bAnd s (rd ones (tf s)))) := by
 obtain ⟨t0, t1, t2, t4, t5, k1, k2⟩ := run_parts H s hR h1
 have hs := (H.runs.set s hR).1
 have hn := H.n10
 have hct : 1 ≤ rd c (tf s) := by
  clear t2 t4 t5 k1 k2 hs
  have := (hc (tf s).toNat (by omega)).1
  rwa [show (((tf s).toNat : Nat) : Int) = tf s from by omega] at this
 have nS : 0 ≤ worstS n c tf ones (bSub s (rd ones (tf s))) := maxR_nonneg _ _
 have nA : 0 ≤ worstS n c tf ones (bAnd s (rd ones (tf s))) := maxR_nonneg _ _
 have key : ∀ f, f < n → memB s f = true → pathC c tf ones s f = rd c (tf s) + pathC c tf ones (partB tf ones s f) f := fun f _ _ => pathC_two H c s f hR h1
 -- a part's worst, with the test's cost, is at most the whole's
 have up : ∀ u, R u → (∀ f, f < n → memB u f = true → memB s f = true ∧ partB tf ones s f = u) → rd c (tf s) + worstS n c tf ones u ≤ worstS n c tf ones s := by
  intro u hu hpart
  have mem : ∀ f, f < n → memB u f = true → rd c (tf s) + pathC c tf ones u f ≤ worstS n c tf ones s := by
   intro f hf hm
   obtain ⟨p1, p2⟩ := hpart f hf hm
   have e := key f hf p1
   rw [p2] at e
   have := le_maxR (fun f => if memB s f = true then pathC c tf ones s f else 0) n f hf
   simp only [p1, if_true] at this
   rw [e] at this
   exact this
  have none_ : worstS n c tf ones u = 0 → rd c (tf s) + worstS n c tf ones u ≤ worstS n c tf ones s := by
   intro hw
   obtain ⟨f, hfn, hbit⟩ := bit_lt (H.runs.set u hu).1 (H.runs.set u hu).2 (H.lt u hu)
   rw [hw]
   exact ar_a (mem f hfn hbit) (pathC_nonneg H hc u hu f)
  rcases maxR_at (fun f => if memB u f = true then pathC c tf ones u f else 0) n with h0 | ⟨f, hf, h0⟩
  ·exact none_ h0
  ·by_cases hm : memB u f = true
   ·have hw : worstS n c tf ones u = pathC c tf ones u f := by
     simp only [hm, if_true] at h0
     exact h0.symm
    rw [hw]
    exact mem f hf hm
   ·refine none_ ?_
    rw [if_neg hm] at h0
    exact h0.symm
 have uS := up _ t4 (fun f hf hm => by
  rw [mem_sub hs t2 f (lt64 hf hn), Bool.and_eq_true] at hm
  refine ⟨hm.1, ?_⟩
  unfold partB
  rw [if_neg (by intro e; rw [e] at hm; exact absurd hm.2 (by decide))])
 have uA := up _ t5 (fun f hf hm => by
  rw [mem_and hs t2 f, Bool.and_eq_true] at hm
  refine ⟨hm.1, ?_⟩
  unfold partB
  rw [if_pos hm.2])
 refine Int.le_antisymm ?_ (ar_d uS uA)
 have b1 := le_mx (worstS n c tf ones (bSub s (rd ones (tf s)))) (worstS n c tf ones (bAnd s (rd ones (tf s))))
 refine maxR_le (ar_c hct nS) n (fun f hf => ?_)
 by_cases hm : memB s f = true
 ·rw [if_pos hm, key f hf hm]
  have hpm := part_mem H s hR h1 f (lt64 hf hn) hm
  have hle : pathC c tf ones (partB tf ones s f) f ≤ worstS n c tf ones (partB tf ones s f) := by
   have := le_maxR (fun f_ => if memB (partB tf ones s f) f_ = true then pathC c tf ones (partB tf ones s f) f_ else 0) n f hf
   simp only [hpm, if_true] at this
   exact this
  refine ar_b hle ?_
  by_cases hx : memB (rd ones (tf s)) f = true
  ·rw [show partB tf ones s f = bAnd s (rd ones (tf s)) from by unfold partB; rw [if_pos hx]]; exact b1.2
  ·rw [show partB tf ones s f = bSub s (rd ones (tf s)) from by unfold partB; rw [if_neg hx]]; exact b1.1
 ·rw [if_neg hm]; exact ar_c hct nS
end
end Go.Proofs.YtekmiepdodaidaaDoor.X
end

section
/- Layer 7, plain: a case in which all faults differ; what Best and Worst find is the plan's mean and worst. -/
set_option linter.unusedVariables false
namespace Go.Proofs.YtekmiepdodaidaaDoor.X
open Go.RowKit Go.Proofs.YtekmiepdodaidaaDoorW.PrintWords Go.Proofs.YtekmiepdodaidaaDoorW.PrintLast Go.Proofs.YtekmiepdodaidaaDoorW.PrintMore

theorem pickB_pair {c : Int → Int → Int} {s : Int} : ∀ (l : List Int) (k : Nat) (b : Int × Int), pickB c s k l b = b ∨ ∃ j x, l[j]? = some x ∧ splitB s x = true ∧ pickB c s k l b = (((k + j : Nat) : Int), c ((k + j : Nat) : Int) x)
 | [], k, b => .inl rfl
 | x :: xs, k, b => by
  have ih := fun b' => pickB_pair (c := c) (s := s) xs (k + 1) b'
  rw [pickB]
  rw [show ((k : Int) + 1) = ((k + 1 : Nat) : Int) from by omega]
  by_cases hx : splitB s x = true
  ·rw [if_pos hx]
   by_cases ht : b.1 < 0 ∨ c (k : Int) x < b.2
   ·rw [if_pos ht]
    rcases ih ((k : Int), c (k : Int) x) with h | ⟨j, y, h1, h2, h3⟩
    ·exact .inr ⟨0, x, rfl, hx, by rw [h, Nat.add_zero]⟩
    ·exact .inr ⟨j + 1, y, by simpa using h1, h2, by rw [h3, show k + 1 + j = k + (j + 1) by omega]⟩
   ·rw [if_neg ht]
    rcases ih b with h | ⟨j, y, h1, h2, h3⟩
    ·exact .inl h
    ·exact .inr ⟨j + 1, y, by simpa using h1, h2, by rw [h3, show k + 1 + j = k + (j + 1) by omega]⟩
  ·rw [if_neg hx]
   rcases ih b with h | ⟨j, y, h1, h2, h3⟩
   ·exact .inl h
   ·exact .inr ⟨j + 1, y, by simpa using h1, h2, by rw [h3, show k + 1 + j = k + (j + 1) by omega]⟩
/-- A case in which all faults differ. -/
structure Differ (a : List Int) (b : List (List Int)) (c : List Int) : Prop where
 is : CaseIs a b c
 al : alikeL (onesOf b) a.length = []
def SetN (n : Nat) (s : Int) : Prop := SetB s ∧ 1 ≤ s ∧ s < (2 ^ n : Nat)
section
variable {a : List Int} {b : List (List Int)} {c : List Int}
theorem Differ.set (D : Differ a b c) : ∀ x ∈ onesOf b, SetB x := onesOf_set D.is.a10 D.is.rows
/-- A choice of tests that divide is a plan's. -/
theorem tree_ok (D : Differ a b c) {tf : Int → Int} (h : ∀ s, SetN a.length s → pcount s ≠ 1 → 0 ≤ tf s ∧ tf s < (onesOf b).length ∧ rd (onesOf b) (tf s) ∈ onesOf b ∧ splitB s (rd (onesOf b) (tf s)) = true) : TreeOk a.length b.length tf (onesOf b) (SetN a.length) := by
 refine ⟨⟨fun s hs => ⟨hs.1, hs.2.1⟩, fun s hs hp => ?_⟩, fun s hs => hs.2.2, D.is.a10, onesOf_len⟩
 obtain ⟨t0, t1, t2, t3⟩ := h s hs hp
 obtain ⟨⟨p1, p2⟩, q1, q2⟩ := split_parts hs.1 (D.set _ t2) t3
 have hsb := hs.1
 have hlt := hs.2.2
 unfold SetB at hsb
 exact ⟨t0, t1, D.set _ t2, t3, ⟨by unfold SetB; omega, q1, by omega⟩, ⟨by unfold SetB; omega, p1, by omega⟩⟩
theorem chs_ok (D : Differ a b c) (mf : Int → Int → Int → Int → Int) : TreeOk a.length b.length (fun s => (chs mf (onesOf b) s).1) (onesOf b) (SetN a.length) :=
 tree_ok D (fun s hs hp => chs_test mf (onesOf b) D.set s hs.1 (some_split D.is.a10 D.set D.al s hs.1 hs.2.1 hs.2.2 hp))
theorem chs_val (D : Differ a b c) (mf : Int → Int → Int → Int → Int) (s : Int) (hs : SetN a.length s) (hp : pcount s ≠ 1) :
  (chs mf (onesOf b) s).2 = mf (chs mf (onesOf b) s).1 s (cstB (chs mf (onesOf b)) (bSub s (rd (onesOf b) (chs mf (onesOf b) s).1))) (cstB (chs mf (onesOf b)) (bAnd s (rd (onesOf b) (chs mf (onesOf b) s).1))) := by
 have h0 := (chs_test mf (onesOf b) D.set s hs.1 (some_split D.is.a10 D.set D.al s hs.1 hs.2.1 hs.2.2 hp)).1
 have e := chs_eq mf (onesOf b) D.set s hs.1
 unfold chsStep at e
 rcases pickB_pair (c := fun k x => mf k s (cstB (chs mf (onesOf b)) (bSub s x)) (cstB (chs mf (onesOf b)) (bAnd s x))) (s := s) (onesOf b) 0 (-1, 0) with h | ⟨j, x, h1, h2, h3⟩
 ·rw [show ((0 : Nat) : Int) = 0 from rfl] at h
  rw [e, h] at h0
  exact absurd h0 (by decide)
 ·rw [show ((0 : Nat) : Int) = 0 from rfl, ← e, Nat.zero_add] at h3
  have hx : rd (onesOf b) (chs mf (onesOf b) s).1 = x := by
   rw [h3]
   simp [rd, List.getD_eq_getElem?_getD, h1]
  rw [hx]
  rw [h3]
/-- What Best finds. -/
theorem cN_mean (D : Differ a b c) (d : Nat) : ∀ s, SetN a.length s → s.toNat ≤ d → cN (mfMean a b c) b s = meanS a c (fun s => (chs (mfMean a b c) (onesOf b) s).1) (onesOf b) s := by
 have H := chs_ok D (mfMean a b c)
 induction d with
 | zero => intro s hs h; have := hs.2.1; exfalso; omega
 | succ d ih =>
  intro s hs h
  by_cases hp : pcount s = 1
  ·rw [mean_one _ _ _ hp]; unfold cN cstB; rw [if_pos hp]
  ·obtain ⟨t0, t1, t2, t4, t5, k1, k2⟩ := run_parts H s hs hp
   have i1 := ih _ t4 (Nat.le_of_lt_succ (Nat.lt_of_lt_of_le k1 h))
   have i2 := ih _ t5 (Nat.le_of_lt_succ (Nat.lt_of_lt_of_le k2 h))
   have B1 : 0 ≤ cN (mfMean a b c) b _ ∧ cN (mfMean a b c) b _ ≤ 1024000000 := cst_box D.set (mean_ok D.is) _ t4.1 t4.2.1
   have B2 : 0 ≤ cN (mfMean a b c) b _ ∧ cN (mfMean a b c) b _ ≤ 1024000000 := cst_box D.set (mean_ok D.is) _ t5.1 t5.2.1
   have hv := chs_val D (mfMean a b c) s hs hp
   have e0 : cN (mfMean a b c) b s = (chs (mfMean a b c) (onesOf b) s).2 := by unfold cN cstB; rw [if_neg hp]
   rw [mean_two H a c D.is.a10 s hs hp, ← i1, ← i2, e0, hv]
   clear ih i1 i2 hv e0 t2 t4 t5 k1 k2 H
   have hsb := hs.1
   have hs1 := hs.2.1
   clear hs
   generalize (chs (mfMean a b c) (onesOf b) s).1 = t at *
   obtain ⟨t, rfl⟩ : ∃ t' : Nat, t = (t' : Int) := ⟨t.toNat, by omega⟩
   obtain ⟨s, rfl⟩ : ∃ s' : Nat, s = (s' : Int) := ⟨s.toNat, by omega⟩
   have hs2 : s < 1024 := by unfold SetB at hsb; omega
   rw [Int.toNat_natCast]
   exact mfMean_eq D.is t (by omega) s hs2 _ _ ⟨B1.1, Int.le_trans B1.2 (by decide)⟩ ⟨B2.1, Int.le_trans B2.2 (by decide)⟩
/-- What Worst finds. -/
theorem cN_worst (D : Differ a b c) (d : Nat) : ∀ s, SetN a.length s → s.toNat ≤ d → cN (mfWorst a b c) b s = worstS a.length c (fun s => (chs (mfWorst a b c) (onesOf b) s).1) (onesOf b) s := by
 have H := chs_ok D (mfWorst a b c)
 induction d with
 | zero => intro s hs h; have := hs.2.1; exfalso; omega
 | succ d ih =>
  intro s hs h
  by_cases hp : pcount s = 1
  ·rw [worst_one _ _ _ hp]; unfold cN cstB; rw [if_pos hp]
  ·obtain ⟨t0, t1, t2, t4, t5, k1, k2⟩ := run_parts H s hs hp
   have i1 := ih _ t4 (Nat.le_of_lt_succ (Nat.lt_of_lt_of_le k1 h))
   have i2 := ih _ t5 (Nat.le_of_lt_succ (Nat.lt_of_lt_of_le k2 h))
   have B1 : 0 ≤ cN (mfWorst a b c) b _ ∧ cN (mfWorst a b c) b _ ≤ 1024000000 := cst_box D.set (worst_ok D.is) _ t4.1 t4.2.1
   have B2 : 0 ≤ cN (mfWorst a b c) b _ ∧ cN (mfWorst a b c) b _ ≤ 1024000000 := cst_box D.set (worst_ok D.is) _ t5.1 t5.2.1
   have hv := chs_val D (mfWorst a b c) s hs hp
   have e0 : cN (mfWorst a b c) b s = (chs (mfWorst a b c) (onesOf b) s).2 := by unfold cN cstB; rw [if_neg hp]
   rw [worst_two H (fun t ht => cost_at D.is t ht) s hs hp, ← i1, ← i2, e0, hv]
   clear ih i1 i2 hv e0 t2 t4 t5 k1 k2 H
   generalize (chs (mfWorst a b c) (onesOf b) s).1 = t at *
   obtain ⟨t, rfl⟩ : ∃ t' : Nat, t = (t' : Int) := ⟨t.toNat, by omega⟩
   exact mfWorst_eq D.is t (by omega) s _ _ ⟨B1.1, Int.le_trans B1.2 (by decide)⟩ ⟨B2.1, Int.le_trans B2.2 (by decide)⟩
theorem all_in (D : Differ a b c) : SetN a.length (allOf a) := by
 obtain ⟨h1, h2⟩ := allOf_set D.is
 refine ⟨h1, h2, ?_⟩
 unfold allOf; omega
theorem all_mem (a : List Int) (f : Nat) : memB (allOf a) f = decide (f < a.length) := by
 unfold memB
 have : (allOf a).toNat = 2 ^ a.length - 1 := by unfold allOf; have := Nat.two_pow_pos a.length; omega
 rw [this, Nat.testBit_two_pow_sub_one]
theorem row_mem (h : CaseIs a b c) (t f : Nat) (ht : t < b.length) (hf : f < a.length) : (rd (rd_L1 b (t : Int)) (f : Int) = 1 ↔ memB (rd (onesOf b) (t : Int)) f = true) := by
 obtain ⟨r1, r2⟩ := row_at h t ht
 have e : rd (onesOf b) (t : Int) = (rowV b[t] : Int) := by
  simp [rd, onesOf, List.getD_eq_getElem?_getD, List.getElem?_map, List.getElem?_eq_getElem ht]
 rw [e, rd_L1_at b t ht]
 unfold memB
 rw [Int.toNat_natCast, rowV_bit _ r2, rd_at _ f (by omega)]
 simp [List.getD_eq_getElem?_getD, List.getElem?_eq_getElem (show f < b[t].length by omega)]
/-- The plan of a choice is correct. -/
theorem corr_tree (D : Differ a b c) {tf : Int → Int} (H : TreeOk a.length b.length tf (onesOf b) (SetN a.length)) :
  corrR a b c (treeB tf (onesOf b) (allOf a) 0) = (meanS a c tf (onesOf b) (allOf a), worstS a.length c tf (onesOf b) (allOf a), true) := by
 have hall := all_in D
 have hw : ∀ f, f < a.length → wayP b (treeB tf (onesOf b) (allOf a) 0) (f : Int) = (pathB tf (onesOf b) (allOf a) f, (f : Int)) := fun f hf =>
  way_tree H (row_mem D.is) (treeB tf (onesOf b) (allOf a) 0) f hf (allOf a).toNat (allOf a) 0 _ hall (Nat.le_refl _) ⟨by rw [Nat.zero_add]; exact Nat.le_refl _, fun i _ => by rw [Nat.zero_add]⟩ (by rw [all_mem]; exact decide_eq_true hf) (Nat.le_refl _)
 have hc : ∀ f, f < a.length → wayC b c (treeB tf (onesOf b) (allOf a) 0) f = pathC c tf (onesOf b) (allOf a) f := fun f hf => by
  unfold wayC pathC; rw [hw f hf]
 unfold corrR
 have hl : leafB b (treeB tf (onesOf b) (allOf a) 0) a.length = true := (allB_iff _ _ _).2 (fun f _ hf => by
  have hf' : f < a.length := by rwa [Nat.zero_add] at hf
  show ((wayP b (treeB tf (onesOf b) (allOf a) 0) (f : Int)).2 == (f : Int)) = true
  rw [hw f hf']; exact beq_self_eq_true _)
 have hp := tree_plan H (allOf a) hall
 rw [hp, hl, Bool.and_true, if_pos rfl]
 unfold meanS worstS
 rw [sumR_congr (g := fun f => rd a (f : Int) * wayC b c (treeB tf (onesOf b) (allOf a) 0) f) (h := fun f => if memB (allOf a) f = true then rd a (f : Int) * pathC c tf (onesOf b) (allOf a) f else 0) a.length (fun f hf => by
   show _ = if memB (allOf a) f = true then rd a (f : Int) * pathC c tf (onesOf b) (allOf a) f else 0
   rw [all_mem, if_pos (decide_eq_true hf), hc f hf]),
  maxR_congr (g := fun f => wayC b c (treeB tf (onesOf b) (allOf a) 0) f) (h := fun f => if memB (allOf a) f = true then pathC c tf (onesOf b) (allOf a) f else 0) a.length (fun f hf => by
   show _ = if memB (allOf a) f = true then pathC c tf (onesOf b) (allOf a) f else 0
   rw [all_mem, if_pos (decide_eq_true hf), hc f hf])]
end
end Go.Proofs.YtekmiepdodaidaaDoor.X
end

section
/- Layer 7, plain: Cover: the first smallest set of tests, as the program and as the reference find it. -/
set_option linter.unusedVariables false
namespace Go.Proofs.YtekmiepdodaidaaDoor.X
open Go.RowKit Go.Proofs.YtekmiepdodaidaaDoorW.PrintWords Go.Proofs.YtekmiepdodaidaaDoorW.PrintLast Go.Proofs.YtekmiepdodaidaaDoorW.PrintMore

def AscB : Int → Int → List Int → Prop
 | _, _, [] => True
 | lo, T, x :: xs => lo ≤ x ∧ x < T ∧ AscB (x + 1) T xs
theorem AscB.snoc {T : Int} : ∀ {l : List Int} {lo : Int}, AscB lo T l → lo ≤ T → AscB lo (T + 1) (l ++ [T])
 | [], lo, _, h => ⟨h, by omega, trivial⟩
 | x :: xs, lo, hl, h => ⟨hl.1, by have := hl.2.1; omega, AscB.snoc hl.2.2 (by have := hl.2.1; omega)⟩
theorem AscB.mem {T : Int} : ∀ {l : List Int} {lo : Int}, AscB lo T l → ∀ x ∈ l, lo ≤ x ∧ x < T
 | [], _, _, x, h => by cases h
 | y :: ys, lo, hl, x, h => by
  rcases List.mem_cons.1 h with rfl | h
  ·exact ⟨hl.1, hl.2.1⟩
  ·have := AscB.mem hl.2.2 x h
   have := hl.1
   omega
theorem AscB.split {T : Int} : ∀ {l : List Int} {lo : Int}, AscB lo (T + 1) l → AscB lo T l ∨ ∃ l', l = l' ++ [T] ∧ AscB lo T l'
 | [], _, _ => .inl trivial
 | x :: xs, lo, h => by
  obtain ⟨h1, h2, h3⟩ := h
  rcases AscB.split h3 with h4 | ⟨l', h4, h5⟩
  ·by_cases e : x = T
   ·subst e
    cases xs with
    | nil => exact .inr ⟨[], rfl, trivial⟩
    | cons y ys => have := h4.1; have := h4.2.1; omega
   ·exact .inl ⟨h1, by omega, h4⟩
  ·by_cases e : x = T
   ·subst e
    subst h4
    cases l' with
    | nil => have := h3.1; have := h3.2.1; omega
    | cons y ys => have := h5.1; have := h5.2.1; omega
   ·exact .inr ⟨x :: l', by rw [h4]; rfl, h1, by omega, h5⟩
theorem AscB.len {T : Int} : ∀ {l : List Int} {lo : Int}, AscB lo T l → lo ≤ T → (l.length : Int) ≤ T - lo
 | [], lo, _, h => by simp; omega
 | x :: xs, lo, hl, h => by
  have := AscB.len hl.2.2 (by have := hl.2.1; omega)
  have := hl.1
  simp only [List.length_cons]
  omega
theorem pairsIn_nil {ones : List Int} {a : Nat} : ∀ (m b : Nat), (∀ j, j < m → ∃ x ∈ ones, sameB (a : Int) ((b + j : Nat) : Int) x = false) → pairsIn ones a b m = []
 | 0, _, _ => rfl
 | m + 1, b, h => by
  unfold pairsIn
  obtain ⟨x, hx, hs⟩ := h 0 (by omega)
  rw [Nat.add_zero] at hs
  rw [if_neg (by intro hall; rw [List.all_eq_true.1 hall x hx] at hs; cases hs), List.nil_append]
  exact pairsIn_nil m (b + 1) (fun j hj => by have := h (j + 1) (by omega); rwa [show b + (j + 1) = b + 1 + j by omega] at this)
theorem pairsOut_nil {ones : List Int} {n : Nat} (h : ∀ j, j < n → ∀ i, i < j → ∃ x ∈ ones, sameB (i : Int) (j : Int) x = false) : ∀ (m a : Nat), a + m = n → pairsOut ones n a m = []
 | 0, _, _ => rfl
 | m + 1, a, ha => by
  unfold pairsOut
  rw [pairsIn_nil _ _ (fun j hj => h (a + 1 + j) (by omega) a (by omega)), List.nil_append]
  exact pairsOut_nil h m (a + 1) (by omega)
theorem alikeL_iff (ones : List Int) (n : Nat) : alikeL ones n = [] ↔ ∀ j, j < n → ∀ i, i < j → ∃ x ∈ ones, sameB (i : Int) (j : Int) x = false :=
 ⟨fun h j hj i hi => alikeL_none h hi hj, fun h => pairsOut_nil h n 0 (by omega)⟩
section
variable {a : List Int} {b : List (List Int)} {c : List Int}
end
end Go.Proofs.YtekmiepdodaidaaDoor.X
end

section
namespace Go.Proofs.YtekmiepdodaidaaDoor.X
open Go.RowKit Go.Proofs.YtekmiepdodaidaaDoorW.PrintWords Go.Proofs.YtekmiepdodaidaaDoorW.PrintLast Go.Proofs.YtekmiepdodaidaaDoorW.PrintMore
attribute [local go_sem] max2_int min2_int max_two min_two max_three min_three max_four min_four   -- for this text's walks alone
set_option linter.unusedVariables false
set_option linter.unusedSimpArgs false

def tickinglaw07_mod.f (a0 : Int) (a1 : Int) : Option (Int) := if (IntKind.u64.wrap (a1)) = 0 then (none) else (some (wrap64 (Int.tmod (IntKind.u64.wrap (a0)) (IntKind.u64.wrap (a1)))))
set_option maxHeartbeats 8000000 in
set_option maxRecDepth 100000 in
theorem tickinglaw07_mod.calls (a0 : Int) (a1 : Int) (r : Int) (w : World) (h : tickinglaw07_mod.f a0 a1 = some r) :
  Calls Tryd.prog 34 #[.int .i64 a0, .int .i64 a1] w fun e w' => e = .returned (.int .i64 r) ∧ Drawn0 w w' := by
 have H : (if (IntKind.u64.wrap (a1)) = 0 then (none) else (some (wrap64 (Int.tmod (IntKind.u64.wrap (a0)) (IntKind.u64.wrap (a1)))))) = some r := h
 clear h
 by_cases c3 : (IntKind.u64.wrap (a1)) = 0
 ·rw [if_pos c3] at H
  exact absurd H (by simp)
 ·rw [if_neg c3] at H
  have c3b0 : ((IntKind.u64.wrap (a1)) == 0) = false := beq_eq_false_iff_ne.mpr c3
  have c3b1 : ((IntKind.u64.wrap (a1)) != 0) = true := bne_iff_ne.mpr c3
  obtain rfl := Option.some.inj H
  go_enter Tryd.func34, Tryd.ntmps34
  go_wp2
  go_ret
  exact ⟨by first | rfl | (simp; done) | (simp [*]; done), by repeat (first | exact Drawn0.refl _ | apply Drawn0.step)⟩

end Go.Proofs.YtekmiepdodaidaaDoor.X
end

section
namespace Go.Proofs.YtekmiepdodaidaaDoor.X
open Go.RowKit Go.Proofs.YtekmiepdodaidaaDoorW.PrintWords Go.Proofs.YtekmiepdodaidaaDoorW.PrintLast Go.Proofs.YtekmiepdodaidaaDoorW.PrintMore
attribute [local go_sem] max2_int min2_int max_two min_two max_three min_three max_four min_four   -- for this text's walks alone
set_option linter.unusedVariables false
set_option linter.unusedSimpArgs false

def tickinglaw07_at.f (l0 : List Int) (a1 : Int) : Option (Int) := if a1 < (l0.length : Int) then (if 0 ≤ a1 then (some (rd l0 a1)) else (none)) else (some 0)
set_option maxHeartbeats 8000000 in
set_option maxRecDepth 100000 in
theorem tickinglaw07_at.calls (A0 : Option Addr) (c0 : Nat) (l0 : List Int) (a1 : Int) (r : Int) (w : World) (hr0 : Kd.C (Kd.int .i64) w A0 l0.length l0) (hc0 : l0.length ≤ c0) (h : tickinglaw07_at.f l0 a1 = some r) :
  Calls Tryd.prog 35 #[.slice A0 l0.length c0, .int .i64 a1] w fun e w' => e = .returned (.int .i64 r) ∧ Drawn0 w w' := by
 have HR0 := Aside0.mk hr0
 have HC0 := Aside0.mk hc0
 clear hr0 hc0
 have H : (if a1 < (l0.length : Int) then (if 0 ≤ a1 then (some (rd l0 a1)) else (none)) else (some 0)) = some r := h
 clear h
 by_cases c3 : a1 < (l0.length : Int)
 ·rw [if_pos c3] at H
  have c3b0 : decide (a1 < (l0.length : Int)) = true := decide_eq_true c3
  clear c3
  by_cases c4 : 0 ≤ a1
  ·rw [if_pos c4] at H
   have c4b0 : decide (0 ≤ a1) = true := decide_eq_true c4
   clear c4
   obtain rfl := Option.some.inj H
   have p558 : 0 ≤ (a1 : Int) := of_decide_eq_true az
   have q558 : a1 < (l0.length : Int) := of_decide_eq_true az
   obtain ⟨ad558, e558, hx558_0⟩ := Kd.at_int HR0.out a1 p558 q558
   cases e558
   replace p558 := eq_true p558
   replace q558 := eq_true q558
   go_enter Tryd.func35, Tryd.ntmps35
   go_wp2
   go_ret
   exact ⟨by first | rfl | (simp; done) | (simp [*]; done), by repeat (first | exact Drawn0.refl _ | apply Drawn0.step)⟩
  ·rw [if_neg c4] at H
   exact absurd H (by simp)
 ·rw [if_neg c3] at H
  have c3b0 : decide (a1 < (l0.length : Int)) = false := decide_eq_false c3
  clear c3
  obtain rfl := Option.some.inj H
  go_enter Tryd.func35, Tryd.ntmps35
  go_wp2
  go_ret
  exact ⟨by first | rfl | (simp; done) | (simp [*]; done), by repeat (first | exact Drawn0.refl _ | apply Drawn0.step)⟩

end Go.Proofs.YtekmiepdodaidaaDoor.X
end

section
/- Layer 7, plain: mod, at, and the case that tame makes. -/
set_option linter.unusedVariables false
namespace Go.Proofs.YtekmiepdodaidaaDoor.X
open Go.RowKit Go.Proofs.YtekmiepdodaidaaDoorW.PrintWords Go.Proofs.YtekmiepdodaidaaDoorW.PrintLast Go.Proofs.YtekmiepdodaidaaDoorW.PrintMore

def modN (x n : Int) : Int := (x % 18446744073709551616) % n
theorem modN_in (x n : Int) (h : 1 ≤ n) : 0 ≤ modN x n ∧ modN x n < n := ⟨Int.emod_nonneg _ (by omega), Int.emod_lt_of_pos _ (by omega)⟩
theorem mod_eq (x n : Int) (h : 1 ≤ n) (h2 : n ≤ 1000000) : tickinglaw07_mod.f x n = some (modN x n) := by
 have h3 := modN_in x n h
 unfold tickinglaw07_mod.f
 rw [IntKind.wrap_u64, IntKind.wrap_u64, show n % 18446744073709551616 = n by omega, if_neg (by omega), Int.tmod_eq_emod_of_nonneg (by omega)]
 unfold modN at *
 unfold wrap64
 exact congrArg some (by omega)
def atN (l : List Int) (i : Nat) : Int := l.getD i 0
theorem at_eq (l : List Int) (i : Nat) : tickinglaw07_at.f l (i : Int) = some (atN l i) := by
 unfold tickinglaw07_at.f atN
 by_cases h : i < l.length
 ·rw [if_pos (by omega), if_pos (by omega)]; simp [rd]
 ·rw [if_neg (by omega)]; simp [List.getD_eq_getElem?_getD, List.getElem?_eq_none (show l.length ≤ i by omega)]
def tameN (a : List Int) : Nat := (1 + modN ((a.length : Int) - 1) 10).toNat
def tameX (x : Int) : Int := if x < 1 ∨ x > 1000 then 1 + modN x 1000 else x
def tameW (a : List Int) : List Int := (List.range (tameN a)).map fun i => tameX (atN a i)
def tameRow (n : Nat) (l : List Int) : List Int := (List.range n).map fun i => modN (atN l i) 2
def tameBit (n bit : Nat) : List Int := (List.range n).map fun i => ((i / 2 ^ bit % 2 : Nat) : Int)
def tameK (b : List (List Int)) : Nat := min b.length 6
def tameB1 (n : Nat) (b : List (List Int)) (m : Nat) : List (List Int) := (List.range m).map fun t : Nat => tameRow n (rd_L1 b (t : Int))
def tameB2 (n m : Nat) : List (List Int) := (List.range m).map fun t => tameBit n t
def tameC1 (c : List Int) (m : Nat) : List Int := (List.range m).map fun t => 1 + modN (wrap64 (atN c t - 1)) 100
def tameC2 (c : List Int) (m : Nat) : List Int := (List.range m).map fun t => 1 + modN (atN c t) 100
def tameB (a : List Int) (b : List (List Int)) : List (List Int) := tameB1 (tameN a) b (tameK b) ++ tameB2 (tameN a) 4
def tameC (b : List (List Int)) (c : List Int) : List Int := tameC1 c (tameK b) ++ tameC2 c 4
theorem tameN_in (a : List Int) : 1 ≤ tameN a ∧ tameN a ≤ 10 := by
 have := modN_in ((a.length : Int) - 1) 10 (by omega)
 unfold tameN; omega
theorem tameX_in (x : Int) : 1 ≤ tameX x ∧ tameX x ≤ 1000 := by
 have := modN_in x 1000 (by omega)
 unfold tameX; split <;> omega
theorem tameRow_ok (n : Nat) (l : List Int) : rowOkB n (tameRow n l) = true := by
 unfold rowOkB tameRow
 rw [Bool.and_eq_true, beq_iff_eq, List.length_map, List.length_range]
 refine ⟨rfl, (all_inB _ _ _).2 fun x hx => ?_⟩
 obtain ⟨i, _, rfl⟩ := List.mem_map.1 hx
 have := modN_in (atN l i) 2 (by omega)
 omega
theorem tameBit_ok (n t : Nat) : rowOkB n (tameBit n t) = true := by
 unfold rowOkB tameBit
 rw [Bool.and_eq_true, beq_iff_eq, List.length_map, List.length_range]
 refine ⟨rfl, (all_inB _ _ _).2 fun x hx => ?_⟩
 obtain ⟨i, _, rfl⟩ := List.mem_map.1 hx
 have := Nat.mod_lt (i / 2 ^ t) (show 0 < 2 by omega)
 omega
theorem tameB_len (a : List Int) (b : List (List Int)) : (tameB a b).length = tameK b + 4 := by unfold tameB tameB1 tameB2; simp
theorem tameC_len (b : List (List Int)) (c : List Int) : (tameC b c).length = tameK b + 4 := by unfold tameC tameC1 tameC2; simp
theorem tameW_len (a : List Int) : (tameW a).length = tameN a := by unfold tameW; simp
theorem tameC_in (b : List (List Int)) (c : List Int) : ∀ x ∈ tameC b c, 1 ≤ x ∧ x ≤ 100 := by
 intro x hx
 unfold tameC tameC1 tameC2 at hx
 rcases List.mem_append.1 hx with h | h
 ·obtain ⟨i, _, rfl⟩ := List.mem_map.1 h
  have := modN_in (wrap64 (atN c i - 1)) 100 (by omega)
  omega
 ·obtain ⟨i, _, rfl⟩ := List.mem_map.1 h
  have := modN_in (atN c i) 100 (by omega)
  omega
theorem tame_case (a : List Int) (b : List (List Int)) (c : List Int) : CaseIs (tameW a) (tameB a b) (tameC b c) := by
 have hn := tameN_in a
 refine ⟨by rw [tameW_len]; exact hn.1, by rw [tameW_len]; exact hn.2, ?_, by rw [tameB_len, tameC_len], ?_, tameC_in b c, ?_⟩
 ·rw [tameB_len]; have : tameK b ≤ 6 := Nat.min_le_right _ _; omega
 ·intro x hx
  unfold tameW at hx
  obtain ⟨i, _, rfl⟩ := List.mem_map.1 hx
  exact tameX_in _
 ·rw [List.all_eq_true, tameW_len]
  intro r hr
  unfold tameB tameB1 tameB2 at hr
  rcases List.mem_append.1 hr with h | h
  ·obtain ⟨i, _, rfl⟩ := List.mem_map.1 h; exact tameRow_ok _ _
  ·obtain ⟨i, _, rfl⟩ := List.mem_map.1 h; exact tameBit_ok _ _
theorem caseB_of {a : List Int} {b : List (List Int)} {c : List Int} (h : CaseIs a b c) : caseB a b c = true := by
 unfold caseB
 simp only [Bool.and_eq_true, decide_eq_true_eq, beq_iff_eq]
 exact ⟨⟨⟨⟨⟨⟨h.a1, h.a10⟩, h.b12⟩, h.cb⟩, (all_inB _ _ _).2 h.wa⟩, (all_inB _ _ _).2 h.wc⟩, h.rows⟩
theorem bits_differ : ∀ j, j < 10 → ∀ i, i < j → ∃ t, t < 4 ∧ i / 2 ^ t % 2 ≠ j / 2 ^ t % 2 := by decide
/-- In a tame case every two faults differ. -/
theorem tame_differ (a : List Int) (b : List (List Int)) (c : List Int) : Differ (tameW a) (tameB a b) (tameC b c) := by
 have hc := tame_case a b c
 have hn := tameN_in a
 refine ⟨hc, (alikeL_iff _ _).2 fun j hj i hi => ?_⟩
 rw [tameW_len] at hj
 obtain ⟨t, ht, hne⟩ := bits_differ j (by omega) i hi
 have hl : tameK b + t < (tameB a b).length := by rw [tameB_len]; omega
 have hrow : (tameB a b)[tameK b + t] = tameBit (tameN a) t := by
  have h1 : (tameB1 (tameN a) b (tameK b)).length = tameK b := by unfold tameB1; simp
  have h2 : (tameB a b)[tameK b + t]? = some (tameBit (tameN a) t) := by
   unfold tameB
   rw [List.getElem?_append_right (by rw [h1]; omega), h1]
   simp [tameB2, ht]
  rw [List.getElem?_eq_getElem hl] at h2
  exact Option.some.inj h2
 refine ⟨_, List.mem_map.2 ⟨_, List.getElem_mem hl, rfl⟩, ?_⟩
 rw [same_row hc (tameK b + t) hl i j (by rw [tameW_len]; omega) (by rw [tameW_len]; omega), hrow]
 have e : ∀ q, q < tameN a → rd (tameBit (tameN a) t) (q : Int) = ((q / 2 ^ t % 2 : Nat) : Int) := by
  intro q hq
  unfold tameBit
  simp [rd, List.getD_eq_getElem?_getD, List.getElem?_map, List.getElem?_range hq]
 rw [e i (by omega), e j hj]
 rw [beq_eq_false_iff_ne]
 intro h
 exact hne (by exact_mod_cast h)
end Go.Proofs.YtekmiepdodaidaaDoor.X
end

section
/- tickinglaw07.with, by hand: a test more, appended to lists of the caller's own. -/
set_option linter.unusedVariables false
set_option linter.unusedSimpArgs false
namespace Go.Proofs.YtekmiepdodaidaaDoor.X
open Go.RowKit Go.Proofs.YtekmiepdodaidaaDoorW.PrintWords Go.Proofs.YtekmiepdodaidaaDoorW.PrintLast Go.Proofs.YtekmiepdodaidaaDoorW.PrintMore

theorem info22w : (Tryd.prog.info? 22).map (fun i => (i.zero, i.size, i.bytes)) = some (some (.slice none 0 0), 1, 24) := by kernel_rfl
theorem info3w : (Tryd.prog.info? 3).map (fun i => (i.zero, i.size, i.bytes)) = some (some (.int .i64 0), 1, 8) := by kernel_rfl
/-- What with does: the two new lists; nothing else that was there has changed. -/
structure WithPost {α : Type} (d : Kd α) (w : World) (base : Nat) (V0 V1 V2 : Value) (xs : List α) (p : α) (c : List Int) (cost : Int) (okA okB : Nat → Prop) (v1 v2 : Value) (w' : World) : Prop where
 r1 : d.R 22 w' base (fun k => okA k ∧ some k ≠ v2.ownBlock) v1 (xs ++ [p])
 r2 : Kd.R (Kd.int .i64) 3 w' base okB v2 (c ++ [cost])
 keep : ∀ k, k < w.heap.size → some k ≠ V1.ownBlock → some k ≠ V2.ownBlock → w'.heap[k]? = w.heap[k]?
 at1 : v1.ownBlock = V1.ownBlock ∨ ∃ b, v1.ownBlock = some b ∧ w.heap.size ≤ b
 at2 : v2.ownBlock = V2.ownBlock ∨ ∃ b, v2.ownBlock = some b ∧ w.heap.size ≤ b
 below : Below base w w'
set_option maxHeartbeats 8000000 in
set_option maxRecDepth 100000 in
theorem with_core {α : Type} (d : Kd α) (hsz : d.sz = 1) (hE : ∀ q, q ∈ 22 :: d.E → q ≠ 25) (w : World) (base : Nat) (A0 : Option Addr) (n0 c0 : Nat) (A1 : Option Addr) (c1 : Nat) (A2 : Option Addr) (c2 : Nat) (AR : Option Addr) (nR cR : Nat) (xs : List α) (p : α) (c : List Int) (cost : Int) (okA okB okp : Nat → Prop)
  (h1 : d.R 22 w base (fun k => okA k ∧ some k ≠ (Value.slice A2 c.length c2).ownBlock) (.slice A1 xs.length c1) xs)
  (hp : d.M w base okp p [.slice AR nR cR]) (hokp : ∀ k, okp k → (okA k ∧ some k ≠ (Value.slice A2 c.length c2).ownBlock) ∧ some k ≠ (Value.slice A1 xs.length c1).ownBlock)
  (h2 : Kd.R (Kd.int .i64) 3 w base okB (.slice A2 c.length c2) c)
  (hA : ∀ k, w.heap.size ≤ k → okA k) (hB : ∀ k, w.heap.size ≤ k → okB k) (hbase : base ≤ w.heap.size) (hl1 : xs.length ≤ 1000000) (hl2 : c.length ≤ 1000000) :
  Calls Tryd.prog 36 #[.agg #[.slice A0 n0 c0, .slice A1 xs.length c1, .slice A2 c.length c2], .slice AR nR cR, .int .i64 cost] w fun e w' => ∃ v1 v2, e = .returned (.agg #[.slice A0 n0 c0, v1, v2]) ∧ WithPost d w base (.slice A0 n0 c0) (.slice A1 xs.length c1) (.slice A2 c.length c2) xs p c cost okA okB v1 v2 w' := by
 have H1 := Aside0.mk h1
 have HP := Aside0.mk hp
 have HOKP := Aside0.mk hokp
 have H2 := Aside0.mk h2
 have HA := Aside0.mk hA
 have HBB := Aside0.mk hB
 have HBASE := Aside0.mk hbase
 have HSZ := Aside0.mk hsz
 have HE := Aside0.mk hE
 clear h1 hp hokp h2 hA hB hbase hE hsz
 go_enter Tryd.func36, Tryd.ntmps36
 go_upto_region 1 with (fail)
 go_quiet (fail)
 obtain ⟨w1, hw1⟩ : ∃ w1, w1 = (((w.alloc (.cells #[.slice A0 n0 c0, .slice A1 xs.length c1, .slice A2 c.length c2] 25)).alloc (.cells #[.slice none 0 0, .slice none 0 0, .slice none 0 0] 25)).drewN nq) := ⟨_, rfl⟩
 have HB1 := Aside0.mk (show Below w.heap.size w w1 by rw [hw1]; exact pw_below_drewN (below_alloc (below_alloc (Below.refl _ _) _) _) _)
 have HG3 := Aside0.mk (show w1.heap[w.heap.size]? = some (.cells #[.slice A0 n0 c0, .slice A1 xs.length c1, .slice A2 c.length c2] 25 (0, 0)) by rw [hw1]; exact blk_drewN (blk_alloc (blk_new w _) _) _)
 have HG6 := Aside0.mk (show w1.heap[w.heap.size + 1]? = some (.cells #[.slice none 0 0, .slice none 0 0, .slice none 0 0] 25 (0, 0)) by rw [hw1]; have := blk_new (w.alloc (.cells #[.slice A0 n0 c0, .slice A1 xs.length c1, .slice A2 c.length c2] 25)) (.cells #[.slice none 0 0, .slice none 0 0, .slice none 0 0] 25); rw [show (w.alloc (.cells #[.slice A0 n0 c0, .slice A1 xs.length c1, .slice A2 c.length c2] 25)).heap.size = w.heap.size + 1 from Array.size_push _] at this; exact blk_drewN this _)
 have HS1 := Aside0.mk (show w.heap.size + 2 ≤ w1.heap.size by have := blk_lt HG6.out; omega)
 rw [← hw1]
 clear hw1
 have hcz : w1.cell? ⟨w.heap.size, 1, none⟩ = some (.slice A1 xs.length c1) := (blk_cell HG3.out 1).trans rfl
 have H11 := Aside0.mk (Kd.R_below H1.out HB1.out)
 have H21 := Aside0.mk (Kd.R_below H2.out HB1.out)
 have HP1 := Aside0.mk (Kd.M_below HP.out HB1.out)
 have HL1 := Aside0.mk hl1
 have HL2 := Aside0.mk hl2
 clear hl1 hl2
 have key : ∀ (ops : Array Oper) (rest : List Oper) (o : Oper) (a : Act) (Q : Exit → Act → World → Prop) (hgd : o.guard = none) (ho : o.op = .call { callee := .builtin .append, args := #[.tmp 13, .tmp 15], argTypes := #[23, 23] }) (hs : a.eval (.tmp 13) = .slice A1 xs.length c1) (hx : a.eval (.tmp 15) = .slice (some ⟨w1.heap.size, 0, none⟩) 1 1)
   (h : ∀ v1 w2, d.R 22 w2 base (fun k => okA k ∧ some k ≠ (Value.slice A2 c.length c2).ownBlock) v1 (xs ++ [p]) → Below base w w2 → w1.grownBy w2 (Value.slice A1 xs.length c1).ownBlock → (v1.ownBlock = (Value.slice A1 xs.length c1).ownBlock ∨ ∃ b, v1.ownBlock = some b ∧ w1.heap.size ≤ b) → wpList Tryd.prog ops Q rest (a.put o.dst v1) w2), wpList Tryd.prog ops Q (o :: rest) a (w1.alloc (.cells #[.slice AR nR cR] 22)) := by
  intro ops rest o a Q hgd ho hs hx h
  exact Kd.R_append d (w0 := w) base hgd (.tmp 13) (.tmp 15) 23 22 (.slice none 0 0) 24 ho Tryd.underlying23 (by rw [HSZ.out]; exact info22w) (by rw [HSZ.out]; rfl) (by rw [HSZ.out]; exact Nat.one_pos) (by omega) (.slice A1 xs.length c1) xs p [.slice AR nR cR] (fun k => okA k ∧ some k ≠ (Value.slice A2 c.length c2).ownBlock) okp hs hx HP1.out HOKP.out (fun k hk => ⟨HA.out k (by have h1 := HS1.out; omega), fun e => by have h1 := HS1.out; have := Kd.R_lt H2.out k e.symm; omega⟩) H11.out (HB1.out.mono HBASE.out) (Nat.le_trans HBASE.out HB1.out.size) (by have := HL1.out; omega) h
 have KEY := Aside0.mk key
 clear key
 have HL3 := Aside0.mk (show (xs ++ [p]).length = xs.length + 1 by simp)
 go_upto_region 3 with (at_builtin; refine KEY.out _ _ _ _ _ rfl rfl rfl rfl ?_; intro v1 w2 ho hb hg hat; obtain ⟨A3, c3, rfl⟩ := Kd.R_slice ho; have HO := Aside0.mk ho; have HB2 := Aside0.mk hb; have HG2 := Aside0.mk hg; have HAT := Aside0.mk hat; have g3' := blk_grown HG3.out hg (Kd.R_ne H11.out HG3.out (by decide)); have HG32 := Aside0.mk g3'; rw [HL3.out]; clear hcz; have hcz1 : w2.cell? ⟨w.heap.size, 1, none⟩ = some (.slice A1 xs.length c1) := (blk_cell g3' 1).trans rfl; have hfz1 := blk_frozen g3' 1; clear ho hb hg hat g3')
 clear hcz1 hfz1
 have HO' := HO.out
 rw [HL3.out] at HO'
 have HG62 := Aside0.mk (blk_grown HG6.out HG2.out (Kd.R_ne H11.out HG6.out (by decide)))
 have H22 := Aside0.mk (Kd.R_over' H21.out (Kd.R_typed H11.out) (by decide) HG2.out)
 have HS2 := Aside0.mk (show w1.heap.size ≤ w2.heap.size from HG2.out.size)
 obtain ⟨w3, hw3⟩ : ∃ w3, w3 = w2.setCell ⟨w.heap.size, 1, none⟩ (.slice A3 (xs.length + 1) c3) := ⟨_, rfl⟩
 have HG33 := Aside0.mk (show w3.heap[w.heap.size]? = some (.cells #[.slice A0 n0 c0, .slice A3 (xs.length + 1) c3, .slice A2 c.length c2] 25 (0, 0)) by rw [hw3]; exact (blk_set HG32.out 1 _).trans rfl)
 have HG63 := Aside0.mk (show w3.heap[w.heap.size + 1]? = some (.cells #[.slice none 0 0, .slice none 0 0, .slice none 0 0] 25 (0, 0)) by rw [hw3]; exact blk_far HG62.out (by show w.heap.size + 1 ≠ w.heap.size; omega) _)
 have HO3 := Aside0.mk (show d.R 22 w3 base (fun k => okA k ∧ some k ≠ (Value.slice A2 c.length c2).ownBlock) (.slice A3 (xs.length + 1) c3) (xs ++ [p]) by rw [hw3]; exact Kd.R_set HO' HG32.out HE.out 1 _)
 have H23 := Aside0.mk (show Kd.R (Kd.int .i64) 3 w3 base okB (.slice A2 c.length c2) c by rw [hw3]; exact Kd.R_set H22.out HG32.out (by decide) 1 _)
 have HB3 := Aside0.mk (show Below base w w3 by rw [hw3]; exact HB2.out.setCell HBASE.out _)
 have HS3 := Aside0.mk (show w2.heap.size ≤ w3.heap.size by rw [hw3]; simp)
 have HK3 := Aside0.mk (show ∀ k, k < w.heap.size → some k ≠ (Value.slice A1 xs.length c1).ownBlock → w3.heap[k]? = w.heap[k]? by
  intro k hk h1
  rw [hw3, Below.heap_setCell w2 _ _ k (by show k ≠ w.heap.size; omega), HG2.out.block k (Nat.lt_of_lt_of_le hk (Nat.le_trans (Nat.le_add_right _ 2) HS1.out)) h1]
  exact HB1.out.block k hk)
 rw [← hw3]
 clear hw3 HO'
 have key2 : ∀ (ops : Array Oper) (rest : List Oper) (o : Oper) (a : Act) (Q : Exit → Act → World → Prop) (hgd : o.guard = none) (ho : o.op = .call { callee := .builtin .append, args := #[.tmp 18, .tmp 20], argTypes := #[22, 22] }) (hs : a.eval (.tmp 18) = .slice A2 c.length c2) (hx : a.eval (.tmp 20) = .slice (some ⟨w3.heap.size, 0, none⟩) 1 1)
   (h : ∀ v1 w4, Kd.R (Kd.int .i64) 3 w4 base okB v1 (c ++ [cost]) → Below base w w4 → w3.grownBy w4 (Value.slice A2 c.length c2).ownBlock → (v1.ownBlock = (Value.slice A2 c.length c2).ownBlock ∨ ∃ b, v1.ownBlock = some b ∧ w3.heap.size ≤ b) → wpList Tryd.prog ops Q rest (a.put o.dst v1) w4), wpList Tryd.prog ops Q (o :: rest) a (w3.alloc (.cells #[.int .i64 cost] 3)) := by
  intro ops rest o a Q hgd ho hs hx h
  exact Kd.R_append (Kd.int .i64) (w0 := w) base hgd (.tmp 18) (.tmp 20) 22 3 (.int .i64 0) 8 ho Tryd.underlying22 info3w rfl (by decide) (by omega) (.slice A2 c.length c2) c cost [.int .i64 cost] okB (fun _ => False) hs hx rfl (fun _ h => h.elim) (fun k hk => HBB.out k (by have h1 := HS1.out; have h2 := HS2.out; have h3 := HS3.out; omega)) H23.out HB3.out (Nat.le_trans HBASE.out HB3.out.size) (by have := HL2.out; omega) h
 have KEY2 := Aside0.mk key2
 clear key2
 have HL4 := Aside0.mk (show (c ++ [cost]).length = c.length + 1 by simp)
 go_upto_region 4 with (at_builtin; refine KEY2.out _ _ _ _ _ rfl rfl rfl rfl ?_; intro v1 w4 ho hb hg hat; obtain ⟨A4, c4, rfl⟩ := Kd.R_slice ho; have HO4 := Aside0.mk ho; have HB4 := Aside0.mk hb; have HG4 := Aside0.mk hg; have HAT4 := Aside0.mk hat; have g3' := blk_grown HG33.out hg (Kd.R_ne H23.out HG33.out (by decide)); have HG34 := Aside0.mk g3'; rw [HL4.out]; have hcz1 : w4.cell? ⟨w.heap.size, 2, none⟩ = some (.slice A2 c.length c2) := (blk_cell g3' 2).trans rfl; have hfz1 := blk_frozen g3' 2; clear ho hb hg hat g3')
 clear hcz1 hfz1
 have HO' := HO4.out
 rw [HL4.out] at HO'
 have HG64 := Aside0.mk (blk_grown HG63.out HG4.out (Kd.R_ne H23.out HG63.out (by decide)))
 have HO34 := Aside0.mk (Kd.R_after HO3.out HG4.out HAT4.out)
 obtain ⟨w5, hw5⟩ : ∃ w5, w5 = w4.setCell ⟨w.heap.size, 2, none⟩ (.slice A4 (c.length + 1) c4) := ⟨_, rfl⟩
 have HG35 := Aside0.mk (show w5.heap[w.heap.size]? = some (.cells #[.slice A0 n0 c0, .slice A3 (xs.length + 1) c3, .slice A4 (c.length + 1) c4] 25 (0, 0)) by rw [hw5]; exact (blk_set HG34.out 2 _).trans rfl)
 have HG65 := Aside0.mk (show w5.heap[w.heap.size + 1]? = some (.cells #[.slice none 0 0, .slice none 0 0, .slice none 0 0] 25 (0, 0)) by rw [hw5]; exact blk_far HG64.out (by show w.heap.size + 1 ≠ w.heap.size; omega) _)
 have HV1 := Aside0.mk (show d.R 22 w5 base (fun k => okA k ∧ some k ≠ (Value.slice A4 (c ++ [cost]).length c4).ownBlock) (.slice A3 (xs.length + 1) c3) (xs ++ [p]) by rw [hw5]; exact Kd.R_set HO34.out HG34.out HE.out 2 _)
 have HV2 := Aside0.mk (show Kd.R (Kd.int .i64) 3 w5 base okB (.slice A4 (c.length + 1) c4) (c ++ [cost]) by rw [hw5]; exact Kd.R_set HO' HG34.out (by decide) 2 _)
 have HB5 := Aside0.mk (show Below base w w5 by rw [hw5]; exact HB4.out.setCell HBASE.out _)
 have HK5 := Aside0.mk (show ∀ k, k < w.heap.size → some k ≠ (Value.slice A1 xs.length c1).ownBlock → some k ≠ (Value.slice A2 c.length c2).ownBlock → w5.heap[k]? = w.heap[k]? by
  intro k hk h1 h2
  rw [hw5, Below.heap_setCell w4 _ _ k (by show k ≠ w.heap.size; omega), HG4.out.block k (by have e1 := HS1.out; have e2 := HS2.out; have e3 := HS3.out; omega) h2]
  exact HK3.out k hk h1)
 rw [← hw5]
 clear hw5 HO'
 have hc0 : w5.cell? ⟨w.heap.size, 0, none⟩ = some (.slice A0 n0 c0) := (blk_cell HG35.out 0).trans rfl
 have hc1 : w5.cell? ⟨w.heap.size, 1, none⟩ = some (.slice A3 (xs.length + 1) c3) := (blk_cell HG35.out 1).trans rfl
 have hc2 : w5.cell? ⟨w.heap.size, 2, none⟩ = some (.slice A4 (c.length + 1) c4) := (blk_cell HG35.out 2).trans rfl
 have hd0 : w5.cell? ⟨w.heap.size + 1, 0, none⟩ = some (.slice none 0 0) := (blk_cell HG65.out 0).trans rfl
 have hd1 : w5.cell? ⟨w.heap.size + 1, 1, none⟩ = some (.slice none 0 0) := (blk_cell HG65.out 1).trans rfl
 have hd2 : w5.cell? ⟨w.heap.size + 1, 2, none⟩ = some (.slice none 0 0) := (blk_cell HG65.out 2).trans rfl
 have hf0 := blk_frozen HG65.out 0
 have hf1 := blk_frozen HG65.out 1
 have hf2 := blk_frozen HG65.out 2
 go_wp2
 refine bodyPost_ret (results_cell_row rfl _ _ (w.heap.size + 1) 25 #[.slice A0 n0 c0, .slice A3 (xs.length + 1) c3, .slice A4 (c.length + 1) c4] (0, 0) _ rfl ((blk_set ((blk_set ((blk_set HG65.out 0 (.slice A0 n0 c0)).trans rfl) 1 (.slice A3 (xs.length + 1) c3)).trans rfl) 2 (.slice A4 (c.length + 1) c4)).trans rfl) Tryd.underlying25 rfl (by kernel_rfl)) rfl ?_
 have e1 := HV1.out
 rw [HL4.out] at e1
 have e3 := HAT.out
 rw [HL3.out] at e3
 have e4 := HAT4.out
 rw [HL4.out] at e4
 have g0 := blk_set HG65.out 0 (.slice A0 n0 c0)
 have g1 := blk_set g0 1 (.slice A3 (xs.length + 1) c3)
 refine ⟨_, _, rfl, ⟨?_, ?_, ?_, ?_, ?_, ?_⟩⟩
 ·exact Kd.R_set (Kd.R_set (Kd.R_set e1 HG65.out HE.out 0 _) g0 HE.out 1 _) g1 HE.out 2 _
 ·exact Kd.R_set (Kd.R_set (Kd.R_set HV2.out HG65.out (by decide) 0 _) g0 (by decide) 1 _) g1 (by decide) 2 _
 ·intro k hk h1 h2
  have hne : k ≠ w.heap.size + 1 := by omega
  rw [Below.heap_setCell _ _ _ k hne, Below.heap_setCell _ _ _ k hne, Below.heap_setCell _ _ _ k hne]
  exact HK5.out k hk h1 h2
 ·rcases e3 with h | ⟨q, h1, h2⟩
  ·exact .inl h
  ·exact .inr ⟨q, h1, by have := HS1.out; omega⟩
 ·rcases e4 with h | ⟨q, h1, h2⟩
  ·exact .inl h
  ·exact .inr ⟨q, h1, by have := HS1.out; have := HS2.out; have := HS3.out; omega⟩
 ·exact ((HB5.out.setCell (Nat.le_trans HBASE.out (Nat.le_succ _)) _).setCell (Nat.le_trans HBASE.out (Nat.le_succ _)) _).setCell (Nat.le_trans HBASE.out (Nat.le_succ _)) _
end Go.Proofs.YtekmiepdodaidaaDoor.X
end
