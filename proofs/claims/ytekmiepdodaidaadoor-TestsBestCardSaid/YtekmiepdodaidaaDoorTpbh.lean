/- Texts behind TestsBest, part 34: contracts of the program's functions and the plain words for them. -/
import Derived.Test.YtekmiepdodaidaaDoorTpbf
import Derived.Test.YtekmiepdodaidaaDoorTpbg
section
/- Layer 7, plain: the plan of a choice of tests is a correct plan; its mean and its worst. -/
set_option linter.unusedVariables false
namespace Go.Proofs.YtekmiepdodaidaaDoor.X
open Go.RowKit Go.Proofs.YtekmiepdodaidaaDoorW.PrintWords Go.Proofs.YtekmiepdodaidaaDoorW.PrintLast Go.Proofs.YtekmiepdodaidaaDoorW.PrintMore

def memB (s : Int) (f : Nat) : Bool := s.toNat.testBit f
theorem mem_and {s x : Int} (hs : SetB s) (hx : SetB x) (f : Nat) : memB (bAnd s x) f = (memB s f && memB x f) := by
 unfold memB
 rw [bAnd_nat hs hx, Int.toNat_natCast, Nat.testBit_and]
theorem mem_sub {s x : Int} (hs : SetB s) (hx : SetB x) (f : Nat) (hf : f < 64) : memB (bSub s x) f = (memB s f && !memB x f) := by
 obtain ⟨v, rfl⟩ : ∃ v : Nat, s = v := ⟨s.toNat, by unfold SetB at hs; omega⟩
 obtain ⟨y, rfl⟩ : ∃ y : Nat, x = y := ⟨x.toNat, by unfold SetB at hx; omega⟩
 unfold SetB at hs hx
 unfold memB
 rw [bSub_nat (by omega) (by omega), Int.toNat_natCast, Int.toNat_natCast, Int.toNat_natCast, Nat.testBit_and, not_bit (by omega) hf]
theorem filter_two (p q : Nat → Bool) : ∀ l : List Nat, (l.filter p).length = (l.filter fun i => p i && q i).length + (l.filter fun i => p i && !q i).length
 | [] => rfl
 | x :: xs => by
  have ih := filter_two p q xs
  simp only [List.filter_cons]
  cases p x <;> cases q x <;> simp <;> omega
theorem cnt_add {s x : Int} (hs : SetB s) (hx : SetB x) : cntB (bAnd s x).toNat + cntB (bSub s x).toNat = cntB s.toNat := by
 have h := filter_two (fun i => memB s i) (fun i => memB x i) (List.range 10)
 unfold cntB
 have e1 : (List.range 10).filter (fun i => (bAnd s x).toNat.testBit i) = (List.range 10).filter (fun i => memB s i && memB x i) := List.filter_congr (fun i _ => mem_and hs hx i)
 have e2 : (List.range 10).filter (fun i => (bSub s x).toNat.testBit i) = (List.range 10).filter (fun i => memB s i && !memB x i) := List.filter_congr (fun i hi => mem_sub hs hx i (by have := List.mem_range.1 hi; omega))
 rw [e1, e2]
 exact h.symm
theorem pcount_set {s : Int} (hs : SetB s) : pcount s = (cntB s.toNat : Nat) := by
 unfold SetB at hs
 have := pcount_nat s.toNat (by omega)
 rwa [show ((s.toNat : Nat) : Int) = s from by omega] at this
theorem one_bit : ∀ v, v < 1024 → cntB v = 1 → Lib.ctz 64 v < 10 ∧ v = 2 ^ Lib.ctz 64 v := by decide +kernel
theorem cnt_pos : ∀ v, v < 1024 → v ≠ 0 → 1 ≤ cntB v ∧ cntB v ≤ 10 := by decide +kernel
theorem some_bit : ∀ v, v < 1024 → v ≠ 0 → ∃ i, i < 10 ∧ v.testBit i = true := by decide +kernel
/-- A set of one fault. -/
theorem one_is {n : Nat} {s : Int} (hs : SetB s) (hp : pcount s = 1) (hn : s < (2 ^ n : Nat)) : ∃ f : Nat, tzB s = (f : Int) ∧ f < n ∧ f < 10 ∧ ∀ g, memB s g = decide (f = g) := by
 rw [pcount_set hs] at hp
 unfold SetB at hs
 obtain ⟨h1, h2⟩ := one_bit s.toNat (by omega) (by omega)
 refine ⟨Lib.ctz 64 s.toNat, rfl, ?_, h1, fun g => ?_⟩
 ·rcases Nat.lt_or_ge (Lib.ctz 64 s.toNat) n with h | h
  ·exact h
  ·have := Nat.pow_le_pow_right (show 0 < 2 by decide) h
   omega
 ·unfold memB
  generalize Lib.ctz 64 s.toNat = i at *
  rw [h2, Nat.testBit_two_pow]
structure TreeOk (n nt : Nat) (tf : Int → Int) (ones : List Int) (R : Int → Prop) : Prop where
 runs : Runs tf ones R
 lt : ∀ s, R s → s < (2 ^ n : Nat)
 n10 : n ≤ 10
 len : ones.length = nt
section
variable {n nt : Nat} {tf : Int → Int} {ones : List Int} {R : Int → Prop} (H : TreeOk n nt tf ones R)
include H
theorem tree_len (d : Nat) : ∀ (s : Int) (p : Nat), R s → s.toNat ≤ d → 1 ≤ (treeB tf ones s p).length ∧ (treeB tf ones s p).length + 1 = 2 * cntB s.toNat := by
 induction d with
 | zero => intro s p hR h; have hs := (H.runs.set s hR).2; exfalso; omega
 | succ d ih =>
  intro s p hR h
  have hs := H.runs.set s hR
  by_cases h1 : pcount s = 1
  ·have e := pcount_set hs.1
   rw [treeB_one s p h1]; simp only [List.length_cons, List.length_nil]; omega
  ·obtain ⟨t0, t1, t2, t3, t4, t5⟩ := H.runs.test s hR h1
   obtain ⟨⟨a1, a2⟩, b1, b2⟩ := split_parts (H.runs.set s hR).1 t2 t3
   have hadd := cnt_add (H.runs.set s hR).1 t2
   have e1 := ih _ (p + 1) t4 (by omega)
   have e2 := ih _ (p + 1 + (treeB tf ones (bSub s (rd ones (tf s))) (p + 1)).length) t5 (by omega)
   rw [treeB_two H.runs s p hR h1, List.length_cons, List.length_append]
   generalize (treeB tf ones (bAnd s (rd ones (tf s))) (p + 1 + (treeB tf ones (bSub s (rd ones (tf s))) (p + 1)).length)).length = m2 at *
   generalize (treeB tf ones (bSub s (rd ones (tf s))) (p + 1)).length = m1 at *
   generalize cntB (bAnd s (rd ones (tf s))).toNat = u1 at *
   generalize cntB (bSub s (rd ones (tf s))).toNat = u2 at *
   generalize cntB s.toNat = u3 at *
   clear ih hs t2 t3 t4 t5 h1
   omega
theorem tree_pos (s : Int) (p : Nat) (hR : R s) : 1 ≤ (treeB tf ones s p).length ∧ (treeB tf ones s p).length ≤ 19 := by
 have h := tree_len H s.toNat s p hR (Nat.le_refl _)
 have hs := H.runs.set s hR
 have h2 := cnt_pos s.toNat (by have := hs.1; unfold SetB at this; omega) (by omega)
 omega
theorem run_parts (s : Int) (hR : R s) (h1 : pcount s ≠ 1) : 0 ≤ tf s ∧ tf s < (nt : Int) ∧ SetB (rd ones (tf s)) ∧ R (bSub s (rd ones (tf s))) ∧ R (bAnd s (rd ones (tf s))) ∧ (bSub s (rd ones (tf s))).toNat < s.toNat ∧ (bAnd s (rd ones (tf s))).toNat < s.toNat := by
 obtain ⟨t0, t1, t2, t3, t4, t5⟩ := H.runs.test s hR h1
 obtain ⟨⟨a1, a2⟩, b1, b2⟩ := split_parts (H.runs.set s hR).1 t2 t3
 have hl := H.len
 exact ⟨t0, by omega, t2, t4, t5, by omega, by omega⟩
omit H in
theorem leaf_node (len i f : Nat) (hf : f < n) : nodeB n nt len i ⟨-1, (f : Int), 0, 0⟩ = true := by
 unfold nodeB
 rw [if_pos rfl]
 simp; omega
omit H in
theorem inner_node (len i z o : Nat) (t : Int) (h0 : 0 ≤ t) (h1 : t < (nt : Int)) (hz : i < z ∧ z < len) (ho : i < o ∧ o < len) : nodeB n nt len i ⟨t, 0, (z : Int), (o : Int)⟩ = true := by
 unfold nodeB
 rw [if_neg (show ¬ (t = -1) by omega)]
 simp only [Bool.and_eq_true, decide_eq_true_eq]
 exact ⟨⟨⟨⟨⟨⟨h0, h1⟩, trivial⟩, by omega⟩, by omega⟩, by omega⟩, by omega⟩
omit H in
theorem node_join {P : Nat → S57 → Prop} {x0 : S57} {Z O : List S57} (h0 : P 0 x0) (hZ : ∀ i x, Z[i]? = some x → P (1 + i) x) (hO : ∀ i x, O[i]? = some x → P (1 + Z.length + i) x) : ∀ i x, (x0 :: (Z ++ O))[i]? = some x → P i x := by
 intro i x hx
 cases i with
 | zero =>
  obtain rfl : x0 = x := by simpa using hx
  exact h0
 | succ i =>
  rw [List.getElem?_cons_succ] at hx
  rcases Nat.lt_or_ge i Z.length with hi | hi
  ·rw [List.getElem?_append_left hi] at hx
   have := hZ i x hx
   rwa [Nat.add_comm 1 i] at this
  ·rw [List.getElem?_append_right hi] at hx
   have := hO (i - Z.length) x hx
   rwa [show 1 + Z.length + (i - Z.length) = i + 1 by omega] at this
omit H in
theorem node_fit (p m1 m2 len : Nat) (h1 : 1 ≤ m1) (h2 : 1 ≤ m2) (h : p + (m1 + m2 + 1) ≤ len) : (p + 1 + m1 ≤ len ∧ p + 1 + m1 + m2 ≤ len) ∧ (p + 0 < p + 1 ∧ p + 1 < len) ∧ (p + 0 < p + 1 + m1 ∧ p + 1 + m1 < len) := by omega
theorem tree_node (len : Nat) (d : Nat) : ∀ (s : Int) (p : Nat), R s → s.toNat ≤ d → p + (treeB tf ones s p).length ≤ len → ∀ (i : Nat) (x : S57), (treeB tf ones s p)[i]? = some x → nodeB n nt len (p + i) x = true := by
 induction d with
 | zero => intro s p hR h; have hs := (H.runs.set s hR).2; exfalso; omega
 | succ d ih =>
  intro s p hR h
  have hs := H.runs.set s hR
  by_cases h1 : pcount s = 1
  ·obtain ⟨f, e1, e2, _⟩ := one_is hs.1 h1 (H.lt s hR)
   rw [treeB_one s p h1, e1]
   intro _ i x hx
   cases i with
   | zero =>
    obtain rfl : (⟨-1, (f : Int), 0, 0⟩ : S57) = x := by simpa using hx
    exact leaf_node len _ f e2
   | succ i => simp at hx
  ·obtain ⟨t0, t1, t2, t4, t5, k1, k2⟩ := run_parts H s hR h1
   have e1 := tree_pos H _ (p + 1) t4
   have e2 := tree_pos H _ (p + 1 + (treeB tf ones (bSub s (rd ones (tf s))) (p + 1)).length) t5
   have i1 := ih _ (p + 1) t4 (Nat.le_of_lt_succ (Nat.lt_of_lt_of_le k1 h))
   have i2 := ih _ (p + 1 + (treeB tf ones (bSub s (rd ones (tf s))) (p + 1)).length) t5 (Nat.le_of_lt_succ (Nat.lt_of_lt_of_le k2 h))
   rw [treeB_two H.runs s p hR h1, List.length_cons, List.length_append]
   clear hs ih h h1 k1 k2 t4 t5 t2 H hR
   generalize hZ : treeB tf ones (bSub s (rd ones (tf s))) (p + 1) = Z at *
   generalize hO : treeB tf ones (bAnd s (rd ones (tf s))) (p + 1 + Z.length) = O at *
   clear hZ hO
   intro hlen
   obtain ⟨⟨q1, q2⟩, q3, q4⟩ := node_fit p Z.length O.length len e1.1 e2.1 hlen
   refine node_join (inner_node len (p + 0) (p + 1) (p + 1 + Z.length) (tf s) t0 t1 q3 q4) (fun i x hx => ?_) (fun i x hx => ?_)
   ·have := i1 q1 i x hx
    rwa [Nat.add_assoc] at this
   ·have := i2 q2 i x hx
    rwa [show p + 1 + Z.length + i = p + (1 + Z.length + i) by omega] at this
omit H in
theorem kid_sum (p m1 m2 j : Nat) (h1 : 1 ≤ m1) (h2 : 1 ≤ m2) : ((if ((p + 1 : Nat) : Int) = (j : Int) then 1 else 0) + (if ((p + 1 + m1 : Nat) : Int) = (j : Int) then (1 : Int) else 0)) + ((if p + 1 < j ∧ j < p + 1 + m1 then 1 else 0) + (if p + 1 + m1 < j ∧ j < p + 1 + m1 + m2 then 1 else 0)) = if p < j ∧ j < p + (m1 + m2 + 1) then 1 else 0 := by
 have q1 : (((p + 1 : Nat) : Int) = (j : Int)) ↔ p + 1 = j := by omega
 have q2 : (((p + 1 + m1 : Nat) : Int) = (j : Int)) ↔ p + 1 + m1 = j := by omega
 simp only [q1, q2]
 clear q1 q2
 repeat' split
 all_goals omega
omit H in
theorem cntK_append (l m : List S57) (j : Nat) : cntK (l ++ m) j = cntK l j + cntK m j := by
 induction l with
 | nil => simp [cntK]
 | cons x xs ih => simp only [List.cons_append, cntK, ih]; omega
omit H in
theorem cntK_node (x : S57) (Z O : List S57) (j : Nat) : cntK (x :: (Z ++ O)) j = kidK x j + (cntK Z j + cntK O j) := by
 rw [← cntK_append]; rfl
omit H in
theorem kidK_node (t z o : Int) (j : Nat) (h : t ≠ -1) : kidK ⟨t, 0, z, o⟩ j = (if z = (j : Int) then 1 else 0) + (if o = (j : Int) then 1 else 0) := if_neg h
theorem tree_kids (d : Nat) : ∀ (s : Int) (p : Nat), R s → s.toNat ≤ d → ∀ j, cntK (treeB tf ones s p) j = if p < j ∧ j < p + (treeB tf ones s p).length then 1 else 0 := by
 induction d with
 | zero => intro s p hR h; have hs := (H.runs.set s hR).2; exfalso; omega
 | succ d ih =>
  intro s p hR h j
  have hs := H.runs.set s hR
  by_cases h1 : pcount s = 1
  ·rw [treeB_one s p h1]
   simp only [cntK, kidK, List.length_cons, List.length_nil, if_true]
   rw [if_neg (by omega)]; rfl
  ·obtain ⟨t0, t1, t2, t4, t5, k1, k2⟩ := run_parts H s hR h1
   have e1 := tree_pos H _ (p + 1) t4
   have e2 := tree_pos H _ (p + 1 + (treeB tf ones (bSub s (rd ones (tf s))) (p + 1)).length) t5
   have i1 := ih _ (p + 1) t4 (Nat.le_of_lt_succ (Nat.lt_of_lt_of_le k1 h)) j
   have i2 := ih _ (p + 1 + (treeB tf ones (bSub s (rd ones (tf s))) (p + 1)).length) t5 (Nat.le_of_lt_succ (Nat.lt_of_lt_of_le k2 h)) j
   have hne : tf s ≠ -1 := fun e => by rw [e] at t0; exact absurd t0 (by decide)
   clear hs ih h
   rw [treeB_two H.runs s p hR h1, cntK_node, i1, i2, kidK_node _ _ _ _ hne, List.length_cons, List.length_append]
   generalize (treeB tf ones (bAnd s (rd ones (tf s))) (p + 1 + (treeB tf ones (bSub s (rd ones (tf s))) (p + 1)).length)).length = m2 at *
   generalize (treeB tf ones (bSub s (rd ones (tf s))) (p + 1)).length = m1 at *
   exact kid_sum p m1 m2 j e1.1 e2.1
theorem tree_plan (s : Int) (hR : R s) : planB n nt (treeB tf ones s 0) = true := by
 have hp := tree_pos H s 0 hR
 have hk := tree_kids H s.toNat s 0 hR (Nat.le_refl _)
 have hn := tree_node H (treeB tf ones s 0).length s.toNat s 0 hR (Nat.le_refl _) (by omega)
 unfold planB
 simp only [Bool.and_eq_true, decide_eq_true_eq]
 refine ⟨⟨⟨hp.1, by omega⟩, (allB_iff _ _ _).2 (fun i _ hi => ?_)⟩, (allB_iff _ _ _).2 (fun j h1 h2 => ?_)⟩
 ·have hi' : i < (treeB tf ones s 0).length := by omega
  have := hn i _ (List.getElem?_eq_getElem hi')
  rw [rdT_at _ i hi']
  rwa [Nat.zero_add] at this
 ·rw [hk j, if_pos (by omega)]; rfl
end
end Go.Proofs.YtekmiepdodaidaaDoor.X
end

section
/- Layer 7, plain: the ways through the plan of a choice; its mean and its worst. -/
set_option linter.unusedVariables false
namespace Go.Proofs.YtekmiepdodaidaaDoor.X
open Go.RowKit Go.Proofs.YtekmiepdodaidaaDoorW.PrintWords Go.Proofs.YtekmiepdodaidaaDoorW.PrintLast Go.Proofs.YtekmiepdodaidaaDoorW.PrintMore

/-- The tests on the way of a fault through the tree of a set. -/
def pathF (tf : Int → Int) (ones : List Int) : Nat → Int → Nat → List Int
 | 0, _, _ => []
 | d + 1, s, f => if pcount s = 1 then [] else tf s :: pathF tf ones d (if memB (rd ones (tf s)) f = true then bAnd s (rd ones (tf s)) else bSub s (rd ones (tf s))) f
def pathB (tf : Int → Int) (ones : List Int) (s : Int) (f : Nat) : List Int := pathF tf ones (s.toNat + 1) s f
/-- The part of a divided set in which a fault is. -/
def partB (tf : Int → Int) (ones : List Int) (s : Int) (f : Nat) : Int := if memB (rd ones (tf s)) f = true then bAnd s (rd ones (tf s)) else bSub s (rd ones (tf s))
def Sits (plan T : List S57) (p : Nat) : Prop := p + T.length ≤ plan.length ∧ ∀ i, i < T.length → plan[p + i]? = T[i]?
section
variable {n nt : Nat} {tf : Int → Int} {ones : List Int} {R : Int → Prop} (H : TreeOk n nt tf ones R)
include H
theorem part_ok (s : Int) (hR : R s) (h1 : pcount s ≠ 1) (f : Nat) : R (partB tf ones s f) ∧ (partB tf ones s f).toNat < s.toNat := by
 obtain ⟨t0, t1, t2, t4, t5, k1, k2⟩ := run_parts H s hR h1
 unfold partB
 split
 ·exact ⟨t5, k2⟩
 ·exact ⟨t4, k1⟩
theorem part_mem (s : Int) (hR : R s) (h1 : pcount s ≠ 1) (f : Nat) (hf : f < 64) (hm : memB s f = true) : memB (partB tf ones s f) f = true := by
 obtain ⟨t0, t1, t2, t4, t5, k1, k2⟩ := run_parts H s hR h1
 have hs := (H.runs.set s hR).1
 unfold partB
 by_cases h : memB (rd ones (tf s)) f = true
 ·rw [if_pos h, mem_and hs t2, hm, h]; rfl
 ·rw [if_neg h, mem_sub hs t2 f hf, hm]; simpa using h
theorem pathF_stable (f : Nat) : ∀ (d : Nat) (s : Int), R s → s.toNat < d → pathF tf ones d s f = pathF tf ones (d + 1) s f
 | 0, s, hR, h => absurd h (Nat.not_lt_zero _)
 | d + 1, s, hR, h => by
  unfold pathF
  by_cases h1 : pcount s = 1
  ·rw [if_pos h1, if_pos h1]
  ·rw [if_neg h1, if_neg h1]
   obtain ⟨q1, q2⟩ := part_ok H s hR h1 f
   have := pathF_stable f d _ q1 (Nat.lt_of_lt_of_le q2 (Nat.le_of_lt_succ h))
   unfold partB at this
   rw [this]
theorem pathF_more (f : Nat) (s : Int) (hR : R s) (d : Nat) (hd : s.toNat < d) : pathF tf ones d s f = pathB tf ones s f := by
 unfold pathB
 obtain ⟨e, rfl⟩ : ∃ e, d = s.toNat + 1 + e := ⟨d - (s.toNat + 1), by omega⟩
 clear hd
 induction e with
 | zero => rfl
 | succ e ih => rw [← ih]; exact (pathF_stable H f (s.toNat + 1 + e) s hR (by omega)).symm
omit H in
theorem path_one (s : Int) (f : Nat) (h1 : pcount s = 1) : pathB tf ones s f = [] := by unfold pathB pathF; rw [if_pos h1]
theorem path_two (s : Int) (f : Nat) (hR : R s) (h1 : pcount s ≠ 1) : pathB tf ones s f = tf s :: pathB tf ones (partB tf ones s f) f := by
 obtain ⟨q1, q2⟩ := part_ok H s hR h1 f
 show pathF tf ones (s.toNat + 1) s f = _
 unfold pathF
 rw [if_neg h1]
 show _ :: pathF tf ones s.toNat (partB tf ones s f) f = _
 rw [pathF_more H f _ q1 _ q2]
omit H in
theorem sits_node {plan Z O : List S57} {x0 : S57} {p : Nat} (h : Sits plan (x0 :: (Z ++ O)) p) : rd_T57 plan (p : Int) = x0 ∧ p < plan.length ∧ Sits plan Z (p + 1) ∧ Sits plan O (p + 1 + Z.length) := by
 obtain ⟨h1, h2⟩ := h
 rw [List.length_cons, List.length_append] at h1 h2
 refine ⟨?_, by omega, ⟨by omega, fun i hi => ?_⟩, ⟨by omega, fun i hi => ?_⟩⟩
 ·have := h2 0 (by omega)
  rw [Nat.add_zero, List.getElem?_cons_zero, List.getElem?_eq_getElem (by omega)] at this
  rw [rdT_at plan p (by omega)]
  exact Option.some.inj this
 ·have := h2 (i + 1) (by omega)
  rw [List.getElem?_cons_succ, List.getElem?_append_left hi, show p + (i + 1) = p + 1 + i by omega] at this
  exact this
 ·have := h2 (Z.length + i + 1) (by omega)
  rw [List.getElem?_cons_succ, List.getElem?_append_right (by omega), show p + (Z.length + i + 1) = p + 1 + Z.length + i by omega, show Z.length + i - Z.length = i by omega] at this
  exact this
/-- The way of a fault of the set ends at its leaf. -/
theorem way_tree {b : List (List Int)} (hrow : ∀ (t : Nat) (f : Nat), t < nt → f < n → (rd (rd_L1 b (t : Int)) (f : Int) = 1 ↔ memB (rd ones (t : Int)) f = true)) (plan : List S57) (f : Nat) (hf : f < n) (d : Nat) :
  ∀ (s : Int) (p D : Nat), R s → s.toNat ≤ d → Sits plan (treeB tf ones s p) p → memB s f = true → (treeB tf ones s p).length ≤ D → wayN b plan (f : Int) D (p : Int) = (pathB tf ones s f, (f : Int)) := by
 induction d with
 | zero => intro s p D hR h; have hs := (H.runs.set s hR).2; exfalso; omega
 | succ d ih =>
  intro s p D hR h hsit hm hD
  have hs := H.runs.set s hR
  have hn := H.n10
  by_cases h1 : pcount s = 1
  ·obtain ⟨g, e1, e2, e3, e4⟩ := one_is hs.1 h1 (H.lt s hR)
   rw [treeB_one s p h1, e1] at hsit hD
   rw [path_one s f h1]
   obtain ⟨q1, q2, _⟩ := sits_node (Z := []) (O := []) hsit
   have hg : g = f := by have := e4 f; rw [hm] at this; simpa using this.symm
   obtain ⟨D, rfl⟩ : ∃ D', D = D' + 1 := ⟨D - 1, by simp at hD; omega⟩
   unfold wayN
   rw [q1, hg]; rfl
  ·obtain ⟨t0, t1, t2, t4, t5, k1, k2⟩ := run_parts H s hR h1
   obtain ⟨q1, q2⟩ := part_ok H s hR h1 f
   have q3 := part_mem H s hR h1 f (by omega) hm
   have i1 := ih (bSub s (rd ones (tf s))) (p + 1)
   have i2 := ih (bAnd s (rd ones (tf s))) (p + 1 + (treeB tf ones (bSub s (rd ones (tf s))) (p + 1)).length)
   rw [path_two H s f hR h1]
   rw [treeB_two H.runs s p hR h1] at hsit hD
   rw [List.length_cons, List.length_append] at hD
   obtain ⟨w1_, w2, w3, w4⟩ := sits_node hsit
   obtain ⟨t, ht⟩ : ∃ t : Nat, tf s = (t : Int) := ⟨(tf s).toNat, by omega⟩
   have hb := hrow t f (by omega) hf
   rw [← ht] at hb
   generalize hZ : treeB tf ones (bSub s (rd ones (tf s))) (p + 1) = Z at *
   generalize hO : treeB tf ones (bAnd s (rd ones (tf s))) (p + 1 + Z.length) = O at *
   obtain ⟨D, rfl⟩ : ∃ D', D = D' + 1 := ⟨D - 1, by omega⟩
   unfold wayN
   rw [w1_]
   dsimp only
   rw [if_neg (show ¬ (tf s < 0) by omega)]
   by_cases hx : memB (rd ones (tf s)) f = true
   ·have hp : partB tf ones s f = bAnd s (rd ones (tf s)) := by unfold partB; rw [if_pos hx]
    rw [hp] at q3 ⊢
    rw [if_pos (hb.2 hx), i2 D t5 (Nat.le_of_lt_succ (Nat.lt_of_lt_of_le k2 h)) w4 q3 (by omega)]
   ·have hp : partB tf ones s f = bSub s (rd ones (tf s)) := by unfold partB; rw [if_neg hx]
    rw [hp] at q3 ⊢
    rw [if_neg (fun e => hx (hb.1 e)), i1 D t4 (Nat.le_of_lt_succ (Nat.lt_of_lt_of_le k1 h)) w3 q3 (by omega)]
end
theorem sumR_congr {g h : Nat → Int} : ∀ n, (∀ i, i < n → g i = h i) → sumR g n = sumR h n
 | 0, _ => rfl
 | n + 1, e => by simp only [sumR, sumR_congr n (fun i hi => e i (by omega)), e n (by omega)]
theorem sumR_add (g h : Nat → Int) : ∀ n, sumR (fun i => g i + h i) n = sumR g n + sumR h n
 | 0 => rfl
 | n + 1 => by simp only [sumR, sumR_add g h n]; omega
theorem sumR_mul (k : Int) (g : Nat → Int) : ∀ n, sumR (fun i => k * g i) n = k * sumR g n
 | 0 => by simp [sumR]
 | n + 1 => by simp only [sumR, sumR_mul k g n, Int.mul_add]
theorem sumR_zero {g : Nat → Int} : ∀ n, (∀ i, i < n → g i = 0) → sumR g n = 0
 | 0, _ => rfl
 | n + 1, e => by simp only [sumR, sumR_zero n (fun i hi => e i (by omega)), e n (by omega)]; rfl
theorem sumR_shift (g : Nat → Int) : ∀ n, sumR g (n + 1) = g 0 + sumR (fun i => g (i + 1)) n
 | 0 => by simp [sumR]
 | n + 1 => by
  show sumR g (n + 1) + g (n + 1) = _
  rw [sumR_shift g n]; simp only [sumR]; omega
theorem wOf_sum : ∀ (a : List Int) (s : Nat), wOf a s = sumR (fun f => if s.testBit f = true then rd a (f : Int) else 0) a.length
 | [], s => rfl
 | x :: xs, s => by
  rw [List.length_cons, sumR_shift, wOf, wOf_sum xs (s / 2)]
  congr 1
  ·have : s.testBit 0 = decide (s % 2 = 1) := Nat.testBit_zero s
   rw [this]
   by_cases h : s % 2 = 1 <;> simp [h, rd]
  ·refine sumR_congr _ (fun i hi => ?_)
   rw [Nat.testBit_succ, show rd (x :: xs) ((i + 1 : Nat) : Int) = rd xs (i : Int) from by simp only [rd, Int.toNat_natCast, List.getD_cons_succ]]
theorem le_mx (x y : Int) : x ≤ mx x y ∧ y ≤ mx x y := by unfold mx; split <;> omega
theorem mx_le {x y z : Int} (h1 : x ≤ z) (h2 : y ≤ z) : mx x y ≤ z := by unfold mx; split <;> omega
theorem maxR_congr {g h : Nat → Int} : ∀ n, (∀ i, i < n → g i = h i) → maxR g n = maxR h n
 | 0, _ => rfl
 | n + 1, e => by simp only [maxR, maxR_congr n (fun i hi => e i (by omega)), e n (by omega)]
theorem maxR_nonneg (g : Nat → Int) : ∀ n, 0 ≤ maxR g n
 | 0 => Int.le_refl _
 | n + 1 => Int.le_trans (maxR_nonneg g n) (le_mx _ _).1
theorem le_maxR (g : Nat → Int) : ∀ (n i : Nat), i < n → g i ≤ maxR g n
 | 0, i, h => absurd h (Nat.not_lt_zero _)
 | n + 1, i, h => by
  by_cases e : i = n
  ·subst e; exact (le_mx _ _).2
  ·exact Int.le_trans (le_maxR g n i (by omega)) (le_mx _ _).1
theorem maxR_le {g : Nat → Int} {M : Int} (h0 : 0 ≤ M) : ∀ n, (∀ i, i < n → g i ≤ M) → maxR g n ≤ M
 | 0, _ => h0
 | n + 1, h => mx_le (maxR_le h0 n (fun i hi => h i (by omega))) (h n (by omega))
theorem maxR_at (g : Nat → Int) : ∀ n, maxR g n = 0 ∨ ∃ i, i < n ∧ g i = maxR g n
 | 0 => .inl rfl
 | n + 1 => by
  simp only [maxR]
  by_cases h : maxR g n < g n
  ·exact .inr ⟨n, by omega, by unfold mx; rw [if_pos h]⟩
  ·have e : mx (maxR g n) (g n) = maxR g n := by unfold mx; rw [if_neg h]
   rw [e]
   rcases maxR_at g n with h1 | ⟨i, hi, h2⟩
   ·exact .inl h1
   ·exact .inr ⟨i, by omega, h2⟩
theorem costL_cons (c : List Int) (t : Int) (ts : List Int) : costL c (t :: ts) = rd c t + costL c ts := rfl
def pathC (c : List Int) (tf : Int → Int) (ones : List Int) (s : Int) (f : Nat) : Int := costL c (pathB tf ones s f)
def meanS (a c : List Int) (tf : Int → Int) (ones : List Int) (s : Int) : Int := sumR (fun f => if memB s f = true then rd a (f : Int) * pathC c tf ones s f else 0) a.length
def worstS (n : Nat) (c : List Int) (tf : Int → Int) (ones : List Int) (s : Int) : Int := maxR (fun f => if memB s f = true then pathC c tf ones s f else 0) n
theorem lt64 {f n : Nat} (hf : f < n) (hn : n ≤ 10) : f < 64 := by omega
theorem bit_lt {n : Nat} {u : Int} (hs : SetB u) (h1 : 1 ≤ u) (hlt : u < (2 ^ n : Nat)) : ∃ f, f < n ∧ memB u f = true := by
 unfold SetB at hs
 obtain ⟨f, hf10, hbit⟩ := some_bit u.toNat (by omega) (by omega)
 refine ⟨f, ?_, hbit⟩
 rcases Nat.lt_or_ge f n with h | h
 ·exact h
 ·have hp2 := Nat.pow_le_pow_right (show 0 < 2 by decide) h
  rw [Nat.testBit_lt_two_pow (show u.toNat < 2 ^ f by omega)] at hbit
  cases hbit
theorem ar_a {k p M : Int} (h : k + p ≤ M) (h0 : 0 ≤ p) : k + 0 ≤ M := by omega
theorem ar_b {k p q M : Int} (h1 : p ≤ q) (h2 : q ≤ M) : k + p ≤ k + M := by omega
theorem ar_c {k x y : Int} (hk : 1 ≤ k) (h0 : 0 ≤ x) : 0 ≤ k + mx x y := by unfold mx; split <;> omega
theorem ar_d {k x y S : Int} (h1 : k + x ≤ S) (h2 : k + y ≤ S) : k + mx x y ≤ S := by unfold mx; split <;> omega
section
variable {n nt : Nat} {tf : Int → Int} {ones : List Int} {R : Int → Prop} (H : TreeOk n nt tf ones R)
include H
theorem path_tests (f : Nat) (d : Nat) : ∀ s, R s → s.toNat ≤ d → ∀ t ∈ pathB tf ones s f, 0 ≤ t ∧ t < (nt : Int) := by
 induction d with
 | zero => intro s hR h; have hs := (H.runs.set s hR).2; exfalso; omega
 | succ d ih =>
  intro s hR h t ht
  by_cases h1 : pcount s = 1
  ·rw [path_one s f h1] at ht; cases ht
  ·rw [path_two H s f hR h1] at ht
   obtain ⟨q1, q2⟩ := part_ok H s hR h1 f
   rcases List.mem_cons.1 ht with rfl | ht
   ·obtain ⟨t0, t1, _⟩ := run_parts H s hR h1
    exact ⟨t0, t1⟩
   ·exact ih _ q1 (Nat.le_of_lt_succ (Nat.lt_of_lt_of_le q2 h)) t ht
theorem pathC_nonneg {c : List Int} (hc : ∀ t : Nat, t < nt → 1 ≤ rd c (t : Int) ∧ rd c (t : Int) ≤ 100) (s : Int) (hR : R s) (f : Nat) : 0 ≤ pathC c tf ones s f :=
 (costL_bounds hc _ (path_tests H f s.toNat s hR (Nat.le_refl _))).1
omit H in
theorem mean_one (a c : List Int) (s : Int) (h1 : pcount s = 1) : meanS a c tf ones s = 0 := by
 refine sumR_zero _ (fun f _ => ?_)
 unfold pathC
 rw [path_one s f h1]
 simp [costL]
omit H in
theorem worst_one (n : Nat) (c : List Int) (s : Int) (h1 : pcount s = 1) : worstS n c tf ones s = 0 := by
 refine Int.le_antisymm (maxR_le (Int.le_refl _) _ (fun f _ => ?_)) (maxR_nonneg _ _)
 unfold pathC
 rw [path_one s f h1]
 simp [costL]
theorem pathC_two (c : List Int) (s : Int) (f : Nat) (hR : R s) (h1 : pcount s ≠ 1) : pathC c tf ones s f = rd c (tf s) + pathC c tf ones (partB tf ones s f) f := by
 have e := path_two H s f hR h1
 unfold pathC
 rw [e, costL_cons]
theorem mean_two (a c : List Int) (ha : a.length ≤ 10) (s : Int) (hR : R s) (h1 : pcount s ≠ 1) :
  meanS a c tf ones s = rd c (tf s) * wOf a s.toNat + meanS a c tf ones (bSub s (rd ones (tf s))) + meanS a c tf ones (bAnd s (rd ones (tf s))) := by
 obtain ⟨t0, t1, t2, t4, t5, k1, k2⟩ := run_parts H s hR h1
 have hs := (H.runs.set s hR).1
 unfold meanS
 rw [wOf_sum, ← sumR_mul, ← sumR_add, ← sumR_add]
 refine sumR_congr _ (fun f hf => ?_)
 have m1 := mem_and hs t2 f
 have m2 := mem_sub hs t2 f (lt64 hf ha)
 have hp := pathC_two H c s f hR h1
 show _ = rd c (tf s) * (if memB s f = true then rd a (f : Int) else 0) + _ + _
 cases hm : memB s f
 ·rw [hm, Bool.false_and] at m1 m2
  rw [m1, m2]
  simp
 ·rw [hm, Bool.true_and] at m1 m2
  rw [m1, m2, hp]
  unfold partB
  cases memB (rd ones (tf s)) f
  ·simp only [if_true, Bool.not_false]
   rw [if_neg (by decide), if_neg (by decide), Int.mul_add, Int.add_zero, Int.mul_comm (rd a (f : Int)) (rd c (tf s))]
  ·simp only [if_true, Bool.not_true]
   rw [if_neg (by decide), Int.mul_add, Int.add_zero, Int.mul_comm (rd a (f : Int)) (rd c (tf s))]
theorem worst_two {c : List Int} (hc : ∀ t : Nat, t < nt → 1 ≤ rd c (t : Int) ∧ rd c (t : Int) ≤ 100) (s : Int) (hR : R s) (h1 : pcount s ≠ 1) :
  worstS n c tf ones s = rd c (tf s) + mx (worstS n c tf ones (bSub s (rd ones (tf s)))) (worstS n c tf ones (bAnd s (rd ones (tf s)))) := by
 obtain ⟨t0, t1, t2, t4, t5, k1, k2⟩ := run_parts H s hR h1
 have hs := (H.runs.set s hR).1
 have hn := H.n10
 have hct : 1 ≤ rd c (tf s) := by
  clear t2 t4 t5 k1 k2 hs
  have := (hc (tf s).toNat (by omega)).1
  rwa [show (((tf s).toNat : Nat) : Int) = tf s from by omega] at this
 have nS : 0 ≤ worstS n c tf ones (bSub s (rd ones (tf s))) := maxR_nonneg _ _
 have nA : 0 ≤ worstS n c tf ones (bAnd s (rd ones (tf s))) := maxR_nonneg _ _
 have key : ∀ f, f < n → memB s f = true → pathC c tf ones s f = rd c (tf s) + pathC c tf ones (partB tf ones s f) f := fun f _ _ => pathC_two H c s f hR h1
 -- a part's worst, with the test's cost, is at most the whole's
 have up : ∀ u, R u → (∀ f, f < n → memB u f = true → memB s f = true ∧ partB tf ones s f = u) → rd c (tf s) + worstS n c tf ones u ≤ worstS n c tf ones s := by
  intro u hu hpart
  have mem : ∀ f, f < n → memB u f = true → rd c (tf s) + pathC c tf ones u f ≤ worstS n c tf ones s := by
   intro f hf hm
   obtain ⟨p1, p2⟩ := hpart f hf hm
   have e := key f hf p1
   rw [p2] at e
   have := le_maxR (fun f => if memB s f = true then pathC c tf ones s f else 0) n f hf
   simp only [p1, if_true] at this
   rw [e] at this
   exact this
  have none_ : worstS n c tf ones u = 0 → rd c (tf s) + worstS n c tf ones u ≤ worstS n c tf ones s := by
   intro hw
   obtain ⟨f, hfn, hbit⟩ := bit_lt (H.runs.set u hu).1 (H.runs.set u hu).2 (H.lt u hu)
   rw [hw]
   exact ar_a (mem f hfn hbit) (pathC_nonneg H hc u hu f)
  rcases maxR_at (fun f => if memB u f = true then pathC c tf ones u f else 0) n with h0 | ⟨f, hf, h0⟩
  ·exact none_ h0
  ·by_cases hm : memB u f = true
   ·have hw : worstS n c tf ones u = pathC c tf ones u f := by
     simp only [hm, if_true] at h0
     exact h0.symm
    rw [hw]
    exact mem f hf hm
   ·refine none_ ?_
    rw [if_neg hm] at h0
    exact h0.symm
 have uS := up _ t4 (fun f hf hm => by
  rw [mem_sub hs t2 f (lt64 hf hn), Bool.and_eq_true] at hm
  refine ⟨hm.1, ?_⟩
  unfold partB
  rw [if_neg (by intro e; rw [e] at hm; exact absurd hm.2 (by decide))])
 have uA := up _ t5 (fun f hf hm => by
  rw [mem_and hs t2 f, Bool.and_eq_true] at hm
  refine ⟨hm.1, ?_⟩
  unfold partB
  rw [if_pos hm.2])
 refine Int.le_antisymm ?_ (ar_d uS uA)
 have b1 := le_mx (worstS n c tf ones (bSub s (rd ones (tf s)))) (worstS n c tf ones (bAnd s (rd ones (tf s))))
 refine maxR_le (ar_c hct nS) n (fun f hf => ?_)
 by_cases hm : memB s f = true
 ·rw [if_pos hm, key f hf hm]
  have hpm := part_mem H s hR h1 f (lt64 hf hn) hm
  have hle : pathC c tf ones (partB tf ones s f) f ≤ worstS n c tf ones (partB tf ones s f) := by
   have := le_maxR (fun f_ => if memB (partB tf ones s f) f_ = true then pathC c tf ones (partB tf ones s f) f_ else 0) n f hf
   simp only [hpm, if_true] at this
   exact this
  refine ar_b hle ?_
  by_cases hx : memB (rd ones (tf s)) f = true
  ·rw [show partB tf ones s f = bAnd s (rd ones (tf s)) from by unfold partB; rw [if_pos hx]]; exact b1.2
  ·rw [show partB tf ones s f = bSub s (rd ones (tf s)) from by unfold partB; rw [if_neg hx]]; exact b1.1
 ·rw [if_neg hm]; exact ar_c hct nS
end
end Go.Proofs.YtekmiepdodaidaaDoor.X
end

section
/- Layer 7, plain: a case in which all faults differ; what Best and Worst find is the plan's mean and worst. -/
set_option linter.unusedVariables false
namespace Go.Proofs.YtekmiepdodaidaaDoor.X
open Go.RowKit Go.Proofs.YtekmiepdodaidaaDoorW.PrintWords Go.Proofs.YtekmiepdodaidaaDoorW.PrintLast Go.Proofs.YtekmiepdodaidaaDoorW.PrintMore

theorem pickB_pair {c : Int → Int → Int} {s : Int} : ∀ (l : List Int) (k : Nat) (b : Int × Int), pickB c s k l b = b ∨ ∃ j x, l[j]? = some x ∧ splitB s x = true ∧ pickB c s k l b = (((k + j : Nat) : Int), c ((k + j : Nat) : Int) x)
 | [], k, b => .inl rfl
 | x :: xs, k, b => by
  have ih := fun b' => pickB_pair (c := c) (s := s) xs (k + 1) b'
  rw [pickB]
  rw [show ((k : Int) + 1) = ((k + 1 : Nat) : Int) from by omega]
  by_cases hx : splitB s x = true
  ·rw [if_pos hx]
   by_cases ht : b.1 < 0 ∨ c (k : Int) x < b.2
   ·rw [if_pos ht]
    rcases ih ((k : Int), c (k : Int) x) with h | ⟨j, y, h1, h2, h3⟩
    ·exact .inr ⟨0, x, rfl, hx, by rw [h, Nat.add_zero]⟩
    ·exact .inr ⟨j + 1, y, by simpa using h1, h2, by rw [h3, show k + 1 + j = k + (j + 1) by omega]⟩
   ·rw [if_neg ht]
    rcases ih b with h | ⟨j, y, h1, h2, h3⟩
    ·exact .inl h
    ·exact .inr ⟨j + 1, y, by simpa using h1, h2, by rw [h3, show k + 1 + j = k + (j + 1) by omega]⟩
  ·rw [if_neg hx]
   rcases ih b with h | ⟨j, y, h1, h2, h3⟩
   ·exact .inl h
   ·exact .inr ⟨j + 1, y, by simpa using h1, h2, by rw [h3, show k + 1 + j = k + (j + 1) by omega]⟩
/-- A case in which all faults differ. -/
structure Differ (a : List Int) (b : List (List Int)) (c : List Int) : Prop where
 is : CaseIs a b c
 al : alikeL (onesOf b) a.length = []
def SetN (n : Nat) (s : Int) : Prop := SetB s ∧ 1 ≤ s ∧ s < (2 ^ n : Nat)
section
variable {a : List Int} {b : List (List Int)} {c : List Int}
theorem Differ.set (D : Differ a b c) : ∀ x ∈ onesOf b, SetB x := onesOf_set D.is.a10 D.is.rows
/-- A choice of tests that divide is a plan's. -/
theorem tree_ok (D : Differ a b c) {tf : Int → Int} (h : ∀ s, SetN a.length s → pcount s ≠ 1 → 0 ≤ tf s ∧ tf s < (onesOf b).length ∧ rd (onesOf b) (tf s) ∈ onesOf b ∧ splitB s (rd (onesOf b) (tf s)) = true) : TreeOk a.length b.length tf (onesOf b) (SetN a.length) := by
 refine ⟨⟨fun s hs => ⟨hs.1, hs.2.1⟩, fun s hs hp => ?_⟩, fun s hs => hs.2.2, D.is.a10, onesOf_len⟩
 obtain ⟨t0, t1, t2, t3⟩ := h s hs hp
 obtain ⟨⟨p1, p2⟩, q1, q2⟩ := split_parts hs.1 (D.set _ t2) t3
 have hsb := hs.1
 have hlt := hs.2.2
 unfold SetB at hsb
 exact ⟨t0, t1, D.set _ t2, t3, ⟨by unfold SetB; omega, q1, by omega⟩, ⟨by unfold SetB; omega, p1, by omega⟩⟩
theorem chs_ok (D : Differ a b c) (mf : Int → Int → Int → Int → Int) : TreeOk a.length b.length (fun s => (chs mf (onesOf b) s).1) (onesOf b) (SetN a.length) :=
 tree_ok D (fun s hs hp => chs_test mf (onesOf b) D.set s hs.1 (some_split D.is.a10 D.set D.al s hs.1 hs.2.1 hs.2.2 hp))
theorem chs_val (D : Differ a b c) (mf : Int → Int → Int → Int → Int) (s : Int) (hs : SetN a.length s) (hp : pcount s ≠ 1) :
  (chs mf (onesOf b) s).2 = mf (chs mf (onesOf b) s).1 s (cstB (chs mf (onesOf b)) (bSub s (rd (onesOf b) (chs mf (onesOf b) s).1))) (cstB (chs mf (onesOf b)) (bAnd s (rd (onesOf b) (chs mf (onesOf b) s).1))) := by
 have h0 := (chs_test mf (onesOf b) D.set s hs.1 (some_split D.is.a10 D.set D.al s hs.1 hs.2.1 hs.2.2 hp)).1
 have e := chs_eq mf (onesOf b) D.set s hs.1
 unfold chsStep at e
 rcases pickB_pair (c := fun k x => mf k s (cstB (chs mf (onesOf b)) (bSub s x)) (cstB (chs mf (onesOf b)) (bAnd s x))) (s := s) (onesOf b) 0 (-1, 0) with h | ⟨j, x, h1, h2, h3⟩
 ·rw [show ((0 : Nat) : Int) = 0 from rfl] at h
  rw [e, h] at h0
  exact absurd h0 (by decide)
 ·rw [show ((0 : Nat) : Int) = 0 from rfl, ← e, Nat.zero_add] at h3
  have hx : rd (onesOf b) (chs mf (onesOf b) s).1 = x := by
   rw [h3]
   simp [rd, List.getD_eq_getElem?_getD, h1]
  rw [hx]
  rw [h3]
/-- What Best finds. -/
theorem cN_mean (D : Differ a b c) (d : Nat) : ∀ s, SetN a.length s → s.toNat ≤ d → cN (mfMean a b c) b s = meanS a c (fun s => (chs (mfMean a b c) (onesOf b) s).1) (onesOf b) s := by
 have H := chs_ok D (mfMean a b c)
 induction d with
 | zero => intro s hs h; have := hs.2.1; exfalso; omega
 | succ d ih =>
  intro s hs h
  by_cases hp : pcount s = 1
  ·rw [mean_one _ _ _ hp]; unfold cN cstB; rw [if_pos hp]
  ·obtain ⟨t0, t1, t2, t4, t5, k1, k2⟩ := run_parts H s hs hp
   have i1 := ih _ t4 (Nat.le_of_lt_succ (Nat.lt_of_lt_of_le k1 h))
   have i2 := ih _ t5 (Nat.le_of_lt_succ (Nat.lt_of_lt_of_le k2 h))
   have B1 : 0 ≤ cN (mfMean a b c) b _ ∧ cN (mfMean a b c) b _ ≤ 1024000000 := cst_box D.set (mean_ok D.is) _ t4.1 t4.2.1
   have B2 : 0 ≤ cN (mfMean a b c) b _ ∧ cN (mfMean a b c) b _ ≤ 1024000000 := cst_box D.set (mean_ok D.is) _ t5.1 t5.2.1
   have hv := chs_val D (mfMean a b c) s hs hp
   have e0 : cN (mfMean a b c) b s = (chs (mfMean a b c) (onesOf b) s).2 := by unfold cN cstB; rw [if_neg hp]
   rw [mean_two H a c D.is.a10 s hs hp, ← i1, ← i2, e0, hv]
   clear ih i1 i2 hv e0 t2 t4 t5 k1 k2 H
   have hsb := hs.1
   have hs1 := hs.2.1
   clear hs
   generalize (chs (mfMean a b c) (onesOf b) s).1 = t at *
   obtain ⟨t, rfl⟩ : ∃ t' : Nat, t = (t' : Int) := ⟨t.toNat, by omega⟩
   obtain ⟨s, rfl⟩ : ∃ s' : Nat, s = (s' : Int) := ⟨s.toNat, by omega⟩
   have hs2 : s < 1024 := by unfold SetB at hsb; omega
   rw [Int.toNat_natCast]
   exact mfMean_eq D.is t (by omega) s hs2 _ _ ⟨B1.1, Int.le_trans B1.2 (by decide)⟩ ⟨B2.1, Int.le_trans B2.2 (by decide)⟩
/-- What Worst finds. -/
theorem cN_worst (D : Differ a b c) (d : Nat) : ∀ s, SetN a.length s → s.toNat ≤ d → cN (mfWorst a b c) b s = worstS a.length c (fun s => (chs (mfWorst a b c) (onesOf b) s).1) (onesOf b) s := by
 have H := chs_ok D (mfWorst a b c)
 induction d with
 | zero => intro s hs h; have := hs.2.1; exfalso; omega
 | succ d ih =>
  intro s hs h
  by_cases hp : pcount s = 1
  ·rw [worst_one _ _ _ hp]; unfold cN cstB; rw [if_pos hp]
  ·obtain ⟨t0, t1, t2, t4, t5, k1, k2⟩ := run_parts H s hs hp
   have i1 := ih _ t4 (Nat.le_of_lt_succ (Nat.lt_of_lt_of_le k1 h))
   have i2 := ih _ t5 (Nat.le_of_lt_succ (Nat.lt_of_lt_of_le k2 h))
   have B1 : 0 ≤ cN (mfWorst a b c) b _ ∧ cN (mfWorst a b c) b _ ≤ 1024000000 := cst_box D.set (worst_ok D.is) _ t4.1 t4.2.1
   have B2 : 0 ≤ cN (mfWorst a b c) b _ ∧ cN (mfWorst a b c) b _ ≤ 1024000000 := cst_box D.set (worst_ok D.is) _ t5.1 t5.2.1
   have hv := chs_val D (mfWorst a b c) s hs hp
   have e0 : cN (mfWorst a b c) b s = (chs (mfWorst a b c) (onesOf b) s).2 := by unfold cN cstB; rw [if_neg hp]
   rw [worst_two H (fun t ht => cost_at D.is t ht) s hs hp, ← i1, ← i2, e0, hv]
   clear ih i1 i2 hv e0 t2 t4 t5 k1 k2 H
   generalize (chs (mfWorst a b c) (onesOf b) s).1 = t at *
   obtain ⟨t, rfl⟩ : ∃ t' : Nat, t = (t' : Int) := ⟨t.toNat, by omega⟩
   exact mfWorst_eq D.is t (by omega) s _ _ ⟨B1.1, Int.le_trans B1.2 (by decide)⟩ ⟨B2.1, Int.le_trans B2.2 (by decide)⟩
theorem all_in (D : Differ a b c) : SetN a.length (allOf a) := by
 obtain ⟨h1, h2⟩ := allOf_set D.is
 refine ⟨h1, h2, ?_⟩
 unfold allOf; omega
theorem all_mem (a : List Int) (f : Nat) : memB (allOf a) f = decide (f < a.length) := by
 unfold memB
 have : (allOf a).toNat = 2 ^ a.length - 1 := by unfold allOf; have := Nat.two_pow_pos a.length; omega
 rw [this, Nat.testBit_two_pow_sub_one]
theorem row_mem (h : CaseIs a b c) (t f : Nat) (ht : t < b.length) (hf : f < a.length) : (rd (rd_L1 b (t : Int)) (f : Int) = 1 ↔ memB (rd (onesOf b) (t : Int)) f = true) := by
 obtain ⟨r1, r2⟩ := row_at h t ht
 have e : rd (onesOf b) (t : Int) = (rowV b[t] : Int) := by
  simp [rd, onesOf, List.getD_eq_getElem?_getD, List.getElem?_map, List.getElem?_eq_getElem ht]
 rw [e, rd_L1_at b t ht]
 unfold memB
 rw [Int.toNat_natCast, rowV_bit _ r2, rd_at _ f (by omega)]
 simp [List.getD_eq_getElem?_getD, List.getElem?_eq_getElem (show f < b[t].length by omega)]
/-- The plan of a choice is correct. -/
theorem corr_tree (D : Differ a b c) {tf : Int → Int} (H : TreeOk a.length b.length tf (onesOf b) (SetN a.length)) :
  corrR a b c (treeB tf (onesOf b) (allOf a) 0) = (meanS a c tf (onesOf b) (allOf a), worstS a.length c tf (onesOf b) (allOf a), true) := by
 have hall := all_in D
 have hw : ∀ f, f < a.length → wayP b (treeB tf (onesOf b) (allOf a) 0) (f : Int) = (pathB tf (onesOf b) (allOf a) f, (f : Int)) := fun f hf =>
  way_tree H (row_mem D.is) (treeB tf (onesOf b) (allOf a) 0) f hf (allOf a).toNat (allOf a) 0 _ hall (Nat.le_refl _) ⟨by rw [Nat.zero_add]; exact Nat.le_refl _, fun i _ => by rw [Nat.zero_add]⟩ (by rw [all_mem]; exact decide_eq_true hf) (Nat.le_refl _)
 have hc : ∀ f, f < a.length → wayC b c (treeB tf (onesOf b) (allOf a) 0) f = pathC c tf (onesOf b) (allOf a) f := fun f hf => by
  unfold wayC pathC; rw [hw f hf]
 unfold corrR
 have hl : leafB b (treeB tf (onesOf b) (allOf a) 0) a.length = true := (allB_iff _ _ _).2 (fun f _ hf => by
  have hf' : f < a.length := by rwa [Nat.zero_add] at hf
  show ((wayP b (treeB tf (onesOf b) (allOf a) 0) (f : Int)).2 == (f : Int)) = true
  rw [hw f hf']; exact beq_self_eq_true _)
 have hp := tree_plan H (allOf a) hall
 rw [hp, hl, Bool.and_true, if_pos rfl]
 unfold meanS worstS
 rw [sumR_congr (g := fun f => rd a (f : Int) * wayC b c (treeB tf (onesOf b) (allOf a) 0) f) (h := fun f => if memB (allOf a) f = true then rd a (f : Int) * pathC c tf (onesOf b) (allOf a) f else 0) a.length (fun f hf => by
   show _ = if memB (allOf a) f = true then rd a (f : Int) * pathC c tf (onesOf b) (allOf a) f else 0
   rw [all_mem, if_pos (decide_eq_true hf), hc f hf]),
  maxR_congr (g := fun f => wayC b c (treeB tf (onesOf b) (allOf a) 0) f) (h := fun f => if memB (allOf a) f = true then pathC c tf (onesOf b) (allOf a) f else 0) a.length (fun f hf => by
   show _ = if memB (allOf a) f = true then pathC c tf (onesOf b) (allOf a) f else 0
   rw [all_mem, if_pos (decide_eq_true hf), hc f hf])]
end
end Go.Proofs.YtekmiepdodaidaaDoor.X
end

section
/- Layer 7, plain: own copies, and the reference's Case. -/
set_option linter.unusedVariables false
namespace Go.Proofs.YtekmiepdodaidaaDoor.X
open Go.RowKit Go.Proofs.YtekmiepdodaidaaDoorW.PrintWords Go.Proofs.YtekmiepdodaidaaDoorW.PrintLast Go.Proofs.YtekmiepdodaidaaDoorW.PrintMore

def cut14 (l : List Int) : List Int := l.take 14
def cutB (b : List (List Int)) : List (List Int) := (b.take 14).map cut14
theorem cut14_len (l : List Int) : (cut14 l).length ≤ 14 := by unfold cut14; rw [List.length_take]; omega
theorem cutB_len (b : List (List Int)) : (cutB b).length ≤ 14 := by unfold cutB; rw [List.length_map, List.length_take]; omega
theorem list_f (l : List Int) : tickinglaw07_list.f l = some (cut14 l) := by
 have hm : mn (l.length : Int) 14 = ((min l.length 14 : Nat) : Int) := by unfold mn; split <;> omega
 have e : l.take (min l.length 14) = l.take 14 := by
  by_cases h : l.length ≤ 14
  ·rw [List.take_of_length_le (show l.length ≤ min l.length 14 by omega), List.take_of_length_le h]
  ·rw [show min l.length 14 = 14 by omega]
 unfold tickinglaw07_list.f cut14
 rw [hm, if_pos (by omega), if_pos (by omega), Int.toNat_natCast, e, if_pos (by rw [List.length_take]; simp; omega), List.nil_append]
theorem own_l0 (a : List Int) (b : List (List Int)) (c : List Int) (x y : List Int) (m : Nat) : ∀ (i : Nat) (acc : List (List Int)), i + m = min b.length 14 → acc.length = i →
  Ev (fun k => tickinglaw07_own.l0 k (i : Int) a b c x acc y) (x, acc ++ ((b.take 14).drop i).map cut14, y) := by
 induction m with
 | zero =>
  intro i acc hi ha
  refine Ev.step (f := fun _ => some _) (fun k => ?_) (Ev.now _)
  simp only [tickinglaw07_own.l0]
  have hd : (b.take 14).drop i = [] := List.drop_eq_nil_of_le (by rw [List.length_take]; omega)
  rw [hd]
  by_cases h : (i : Int) < (b.length : Int)
  ·rw [if_pos h, if_neg (by omega)]; simp
  ·rw [if_neg h]; simp
 | succ m ih =>
  intro i acc hi ha
  have hib : i < b.length := by omega
  have hlt : i < (b.take 14).length := by rw [List.length_take]; omega
  have hd : (b.take 14).drop i = (b.take 14)[i] :: (b.take 14).drop (i + 1) := List.drop_eq_getElem_cons hlt
  have hg : (b.take 14)[i] = b[i] := List.getElem_take
  have h2 := ih (i + 1) (acc ++ [cut14 b[i]]) (by omega) (by simp [ha])
  have e : (acc ++ [cut14 b[i]]) ++ ((b.take 14).drop (i + 1)).map cut14 = acc ++ ((b.take 14).drop i).map cut14 := by rw [hd, hg, List.map_cons, List.append_assoc]; rfl
  rw [e] at h2
  refine Ev.step (fun k => ?_) h2
  show tickinglaw07_own.l0 (k + 1) (i : Int) a b c x acc y = _
  simp only [tickinglaw07_own.l0]
  rw [if_pos (by omega), if_pos (by omega), if_pos (by omega), rd_L1_at b i hib, list_f]
  simp only [Option.bind_some]
  rw [if_pos (by omega), w1 i (by omega)]
theorem own_ev (a : List Int) (b : List (List Int)) (c : List Int) : Ev (fun k => tickinglaw07_own.f k a b c) (cut14 a, cutB b, cut14 c) := by
 unfold tickinglaw07_own.f
 rw [list_f, list_f]
 simp only [Option.bind_some]
 have := own_l0 a b c (cut14 a) (cut14 c) (min b.length 14) 0 [] (by omega) rfl
 simpa [cutB] using this
section
variable (a : List Int) (b : List (List Int)) (c : List Int)
theorem case_l2 (n i : Nat) (hi : i < b.length) (hb : b.length ≤ 14) (hn : b[i].length = n) (hn2 : n ≤ 14) (R : Bool) (hk : Ev (fun k => tickingref07_Case.l1 k (n : Int) ((i + 1 : Nat) : Int) a b c) R) (m : Nat) : ∀ j, j + m = n →
  Ev (fun k => tickingref07_Case.l2 k (n : Int) (i : Int) (j : Int) a b c) ((b[i].drop j).all (inB 0 1) && R) := by
 induction m with
 | zero =>
  intro j hj
  obtain rfl : j = n := by omega
  have hd : b[i].drop j = [] := List.drop_eq_nil_of_le (by omega)
  rw [hd]
  refine Ev.step (fun k => ?_) hk
  show tickingref07_Case.l2 (k + 1) (j : Int) (i : Int) (j : Int) a b c = _
  simp only [tickingref07_Case.l2]
  rw [if_neg (by omega), w1 i (by omega)]
 | succ m ih =>
  intro j hj
  have hjl : j < b[i].length := by omega
  have hd : b[i].drop j = b[i][j] :: b[i].drop (j + 1) := List.drop_eq_getElem_cons hjl
  rw [hd, List.all_cons]
  by_cases h : inB 0 1 b[i][j] = true
  ·rw [h, Bool.true_and]
   have h' : 0 ≤ b[i][j] ∧ b[i][j] ≤ 1 := by unfold inB at h; simpa using h
   refine Ev.step (fun k => ?_) (ih (j + 1) (by omega))
   show tickingref07_Case.l2 (k + 1) (n : Int) (i : Int) (j : Int) a b c = _
   simp only [tickingref07_Case.l2]
   rw [if_pos (by omega), if_pos (by omega), if_pos (by omega), if_pos (by omega), rd_L1_at b i hi, if_pos (by omega), rd_at _ j hjl, if_neg (by omega), if_neg (by omega), w1 j (by omega)]
  ·have hf : inB 0 1 b[i][j] = false := by simpa using h
   rw [hf, Bool.false_and, Bool.false_and]
   have h' : ¬ (0 ≤ b[i][j] ∧ b[i][j] ≤ 1) := by unfold inB at hf; intro hh; simp [hh] at hf
   refine Ev.step (f := fun _ => some _) (fun k => ?_) (Ev.now _)
   simp only [tickingref07_Case.l2]
   rw [if_pos (by omega), if_pos (by omega), if_pos (by omega), if_pos (by omega), rd_L1_at b i hi, if_pos (by omega), rd_at _ j hjl]
   by_cases h0 : b[i][j] < 0
   ·rw [if_pos h0]
   ·rw [if_neg h0, if_pos (by omega)]
theorem case_l1 (n : Nat) (hn : n ≤ 14) (hb : b.length ≤ 14) (hc : c.length = b.length) (m : Nat) : ∀ i, i + m = b.length → Ev (fun k => tickingref07_Case.l1 k (n : Int) (i : Int) a b c) ((b.drop i).all (rowOkB n) && (c.drop i).all (inB 1 100)) := by
 induction m with
 | zero =>
  intro i hi
  obtain rfl : i = b.length := by omega
  refine Ev.step (f := fun _ => some _) (fun k => ?_) (Ev.now _)
  simp only [tickingref07_Case.l1]
  rw [if_neg (by omega), List.drop_length, ← hc, List.drop_length]; rfl
 | succ m ih =>
  intro i hi
  have hib : i < b.length := by omega
  have hic : i < c.length := by omega
  have db : b.drop i = b[i] :: b.drop (i + 1) := List.drop_eq_getElem_cons hib
  have dc : c.drop i = c[i] :: c.drop (i + 1) := List.drop_eq_getElem_cons hic
  rw [db, dc, List.all_cons, List.all_cons]
  have bad : Ev (fun k => tickingref07_Case.j3 k (n : Int) (i : Int) true a b c) false := by
   refine Ev.step (f := fun _ => some _) (fun k => ?_) (Ev.now _)
   simp only [tickingref07_Case.j3, if_true]
  by_cases hlen : b[i].length = n
  ·by_cases hci : inB 1 100 c[i] = true
   ·have hci' : 1 ≤ c[i] ∧ c[i] ≤ 100 := by unfold inB at hci; simpa using hci
    have h2 := case_l2 a b c n i hib hb hlen hn _ (ih (i + 1) (by omega)) n 0 (by omega)
    rw [List.drop_zero] at h2
    have hr : (rowOkB n b[i] && (b.drop (i + 1)).all (rowOkB n) && (inB 1 100 c[i] && (c.drop (i + 1)).all (inB 1 100))) = (b[i].all (inB 0 1) && ((b.drop (i + 1)).all (rowOkB n) && (c.drop (i + 1)).all (inB 1 100))) := by
     rw [hci]; unfold rowOkB; rw [hlen]; simp [Bool.and_assoc]
    rw [hr]
    have h3 : Ev (fun k => tickingref07_Case.j3 k (n : Int) (i : Int) false a b c) (b[i].all (inB 0 1) && ((b.drop (i + 1)).all (rowOkB n) && (c.drop (i + 1)).all (inB 1 100))) := by
     refine Ev.step (fun k => ?_) h2
     show tickingref07_Case.j3 (k + 1) (n : Int) (i : Int) false a b c = _
     simp only [tickingref07_Case.j3]; rw [if_neg (by decide)]; rfl
    refine Ev.step (fun k => ?_) h3
    show tickingref07_Case.l1 (k + 1) (n : Int) (i : Int) a b c = _
    simp only [tickingref07_Case.l1]
    rw [if_pos (by omega), if_pos (by omega), rd_L1_at b i hib, if_pos (by omega), if_pos (by omega), rd_at c i hic, if_neg (by omega), decide_eq_false (by omega)]
   ·have hcf : inB 1 100 c[i] = false := by simpa using hci
    rw [hcf, Bool.false_and, Bool.and_false]
    have hci' : ¬ (1 ≤ c[i] ∧ c[i] ≤ 100) := by unfold inB at hcf; intro hh; simp [hh] at hcf
    refine Ev.step (fun k => ?_) bad
    show tickingref07_Case.l1 (k + 1) (n : Int) (i : Int) a b c = _
    simp only [tickingref07_Case.l1]
    rw [if_pos (by omega), if_pos (by omega), rd_L1_at b i hib, if_pos (by omega), if_pos (by omega), rd_at c i hic]
    by_cases h0 : c[i] < 1
    ·rw [if_pos h0]
    ·rw [if_neg h0, decide_eq_true (by omega)]
  ·have hr : rowOkB n b[i] = false := by unfold rowOkB; simp [hlen]
   rw [hr, Bool.false_and, Bool.false_and]
   refine Ev.step (fun k => ?_) bad
   show tickingref07_Case.l1 (k + 1) (n : Int) (i : Int) a b c = _
   simp only [tickingref07_Case.l1]
   rw [if_pos (by omega), if_pos (by omega), rd_L1_at b i hib, if_neg (by omega)]
theorem case_l0 (ha : a.length ≤ 14) (R : Bool) (hk : Ev (fun k => tickingref07_Case.l1 k (a.length : Int) 0 a b c) R) (m : Nat) : ∀ i, i + m = a.length → Ev (fun k => tickingref07_Case.l0 k (a.length : Int) (i : Int) a b c) ((a.drop i).all (inB 1 1000) && R) := by
 induction m with
 | zero =>
  intro i hi
  obtain rfl : i = a.length := by omega
  rw [List.drop_length]
  refine Ev.step (fun k => ?_) hk
  show tickingref07_Case.l0 (k + 1) (a.length : Int) (a.length : Int) a b c = _
  simp only [tickingref07_Case.l0]
  rw [if_neg (by omega)]
 | succ m ih =>
  intro i hi
  have hia : i < a.length := by omega
  have da : a.drop i = a[i] :: a.drop (i + 1) := List.drop_eq_getElem_cons hia
  rw [da, List.all_cons]
  by_cases h : inB 1 1000 a[i] = true
  ·have h' : 1 ≤ a[i] ∧ a[i] ≤ 1000 := by unfold inB at h; simpa using h
   rw [h, Bool.true_and]
   refine Ev.step (fun k => ?_) (ih (i + 1) (by omega))
   show tickingref07_Case.l0 (k + 1) (a.length : Int) (i : Int) a b c = _
   simp only [tickingref07_Case.l0]
   rw [if_pos (by omega), if_pos (by omega), if_pos (by omega), rd_at a i hia, if_neg (by omega), if_neg (by omega), w1 i (by omega)]
  ·have hf : inB 1 1000 a[i] = false := by simpa using h
   have h' : ¬ (1 ≤ a[i] ∧ a[i] ≤ 1000) := by unfold inB at hf; intro hh; simp [hh] at hf
   rw [hf, Bool.false_and, Bool.false_and]
   refine Ev.step (f := fun _ => some _) (fun k => ?_) (Ev.now _)
   simp only [tickingref07_Case.l0]
   rw [if_pos (by omega), if_pos (by omega), if_pos (by omega), rd_at a i hia]
   by_cases h0 : a[i] < 1
   ·rw [if_pos h0]
   ·rw [if_neg h0, if_pos (by omega)]
theorem case_ev (ha : a.length ≤ 14) (hb : b.length ≤ 14) (hc : c.length ≤ 14) : Ev (fun k => tickingref07_Case.f k a b c) (caseB a b c) := by
 have bad : Ev (fun k => tickingref07_Case.j0 k (a.length : Int) true a b c) false := by
  refine Ev.step (f := fun _ => some _) (fun k => ?_) (Ev.now _)
  simp only [tickingref07_Case.j0, if_true]
 unfold tickingref07_Case.f
 by_cases h1 : 1 ≤ a.length
 ·refine Ev.congr (fun k => if_neg (by omega)) ?_
  by_cases h2 : a.length ≤ 10
  ·refine Ev.congr (fun k => if_neg (by omega)) ?_
   by_cases h3 : b.length ≤ 12
   ·refine Ev.congr (fun k => if_neg (by omega)) ?_
    by_cases h4 : c.length = b.length
    ·have e : ((c.length : Int) != (b.length : Int)) = false := by simp [h4]
     rw [e]
     have hl := case_l0 a b c ha _ (case_l1 a b c a.length ha hb h4 b.length 0 (by omega)) a.length 0 (by omega)
     simp only [List.drop_zero] at hl
     have hr : caseB a b c = (a.all (inB 1 1000) && (b.all (rowOkB a.length) && c.all (inB 1 100))) := by
      unfold caseB
      simp only [h1, h2, h3, h4, decide_true, Bool.true_and, beq_self_eq_true]
      cases a.all (inB 1 1000) <;> cases b.all (rowOkB a.length) <;> cases c.all (inB 1 100) <;> rfl
     rw [hr]
     refine Ev.step (fun k => ?_) hl
     show tickingref07_Case.j0 (k + 1) (a.length : Int) false a b c = _
     simp only [tickingref07_Case.j0]; rw [if_neg (by decide)]; rfl
    ·have e : ((c.length : Int) != (b.length : Int)) = true := by simp; omega
     have hcf : caseB a b c = false := by unfold caseB; simp [h4]
     rw [e, hcf]; exact bad
   ·refine Ev.congr (fun k => if_pos (by omega)) ?_
    have hcf : caseB a b c = false := by unfold caseB; simp [h3]
    rw [hcf]; exact bad
  ·refine Ev.congr (fun k => if_pos (by omega)) ?_
   have hcf : caseB a b c = false := by unfold caseB; simp [h2]
   rw [hcf]; exact bad
 ·refine Ev.congr (fun k => if_pos (by omega)) ?_
  have hcf : caseB a b c = false := by unfold caseB; simp [h1]
  rw [hcf]; exact bad
end
end Go.Proofs.YtekmiepdodaidaaDoor.X
end

section
/- Layer 7, plain: TestsBest. -/
set_option linter.unusedVariables false
namespace Go.Proofs.YtekmiepdodaidaaDoor.X
open Go.RowKit Go.Proofs.YtekmiepdodaidaaDoorW.PrintWords Go.Proofs.YtekmiepdodaidaaDoorW.PrintLast Go.Proofs.YtekmiepdodaidaaDoorW.PrintMore

theorem best_good {a : List Int} {b : List (List Int)} {c : List Int} (hc : caseB a b c = true) (hal : alikeL (onesOf b) a.length = []) (mf : Int → Int → Int → Int → Int) : optRes mf a b c = (treeB (fun s => (chs mf (onesOf b) s).1) (onesOf b) (allOf a) 0, cN mf b (allOf a), 0) := by
 unfold optRes cN
 rw [if_pos hc, if_pos hal]
theorem tree_short {a : List Int} {b : List (List Int)} {c : List Int} (D : Differ a b c) {tf : Int → Int} (H : TreeOk a.length b.length tf (onesOf b) (SetN a.length)) : (treeB tf (onesOf b) (allOf a) 0).length ≤ 19 := (tree_pos H (allOf a) 0 (all_in D)).2
theorem not_big {m : Nat} (h : m ≤ 19) : ¬ ((m : Int) > 1000) := by omega
theorem best_core (a : List Int) (b : List (List Int)) (c : List Int) (ha : a.length ≤ 14) (hb : b.length ≤ 14) (hcl : c.length ≤ 14) (F : Nat → List Int → List (List Int) → List Int → Option Bool)
  (hF : ∀ k, F k a b c = (tests_Best.f a b c).bind fun x => (tests_Worst.f a b c).bind fun y => (tickingref07_Case.f k a b c).bind fun t296 => (if t296 = true then ((tickingref07_Alike.f k a b c).bind fun t298 => (if (t298.length : Int) > 0 then (if (x.1.length : Int) = 0 then (if x.2.1 = 0 then (if x.2.2 = 6 then (if (y.1.length : Int) = 0 then (if y.2.1 = 0 then (if y.2.2 = 6 then ((tickinglaw07_awake.f k).bind fun t301 => (some t301)) else (some false)) else (some false)) else (some false)) else (some false)) else (some false)) else (some false)) else ((tickingref07_Best.f k a b c).bind fun z => (if x.2.2 = 0 then (if y.2.2 = 0 then (if x.2.1 = z.1 then (if y.2.1 = z.2 then (if (x.1.length : Int) > 1000 then (tickinglaw07_TestsBest.j0 k x.1 y.1 z.1 z.2 true a b c) else (tickinglaw07_TestsBest.j0 k x.1 y.1 z.1 z.2 (decide ((y.1.length : Int) > 1000)) a b c)) else (tickinglaw07_TestsBest.j0 k x.1 y.1 z.1 z.2 true a b c)) else (tickinglaw07_TestsBest.j0 k x.1 y.1 z.1 z.2 true a b c)) else (tickinglaw07_TestsBest.j0 k x.1 y.1 z.1 z.2 true a b c)) else (tickinglaw07_TestsBest.j0 k x.1 y.1 z.1 z.2 true a b c))))) else (if (x.1.length : Int) = 0 then (if x.2.1 = 0 then (if x.2.2 = 2 then (if (y.1.length : Int) = 0 then (if y.2.1 = 0 then (if y.2.2 = 2 then ((tickinglaw07_awake.f k).bind fun t297 => (some t297)) else (some false)) else (some false)) else (some false)) else (some false)) else (some false)) else (some false)))) :
  Ev (fun k => F k a b c) true := by
 have awake : Ev (fun k => (tickinglaw07_awake.f k).bind fun t => some t) true := Ev.bind awake_ev (Ev.now _)
 refine Ev.congr hF ?_
 unfold tests_Best.f tests_Worst.f
 simp only [Option.bind_some]
 refine Ev.bind (case_ev a b c ha hb hcl) ?_
 by_cases hc : caseB a b c = true
 ·refine Ev.congr (fun k => if_pos hc) ?_
  have hci := case_is hc
  refine Ev.bind (ralike_ev hci) ?_
  by_cases hal : alikeL (onesOf b) a.length = []
  ·have D : Differ a b c := ⟨hci, hal⟩
   have H1 := chs_ok D (mfMean a b c)
   have H2 := chs_ok D (mfWorst a b c)
   have l1 := tree_short D H1
   have l2 := tree_short D H2
   refine Ev.congr (fun k => if_neg (by rw [hal]; decide)) ?_
   refine Ev.bind (rbest_ev hci hal) ?_
   rw [best_good hc hal, best_good hc hal]
   refine Ev.congr (fun k => if_pos rfl) ?_
   refine Ev.congr (fun k => if_pos rfl) ?_
   refine Ev.congr (fun k => if_pos rfl) ?_
   refine Ev.congr (fun k => if_pos rfl) ?_
   refine Ev.congr (fun k => if_neg (not_big l1)) ?_
   have hd : decide (((treeB (fun s => (chs (mfWorst a b c) (onesOf b) s).1) (onesOf b) (allOf a) 0).length : Int) > 1000) = false := decide_eq_false (not_big l2)
   simp only [hd]
   refine Ev.step (f := fun k => (tickingref07_Correct.f k a b c (treeB (fun s => (chs (mfMean a b c) (onesOf b) s).1) (onesOf b) (allOf a) 0)).bind _) (fun k => by simp only [tickinglaw07_TestsBest.j0]; rw [if_neg Bool.false_ne_true]) ?_
   refine Ev.bind (rcorr_ev hci _) ?_
   refine Ev.bind (rcorr_ev hci _) ?_
   rw [corr_tree D H1, corr_tree D H2]
   refine Ev.congr (fun k => if_pos rfl) ?_
   refine Ev.congr (fun k => if_pos rfl) ?_
   refine Ev.congr (fun k => if_pos (cN_mean D _ (allOf a) (all_in D) (Nat.le_refl _)).symm) ?_
   refine Ev.congr (fun k => if_pos (cN_worst D _ (allOf a) (all_in D) (Nat.le_refl _)).symm) ?_
   exact awake
  ·have hne : ((alikeL (onesOf b) a.length).length : Int) > 0 := by
    have := List.length_pos_iff.2 hal; omega
   refine Ev.congr (fun k => if_pos hne) ?_
   unfold optRes
   simp only [if_pos hc, if_neg hal, List.length_nil]
   exact awake
 ·refine Ev.congr (fun k => if_neg hc) ?_
  unfold optRes
  simp only [if_neg hc, List.length_nil]
  exact awake
theorem TestsBest_ev (a : List Int) (b : List (List Int)) (c : List Int) : Ev (fun k => tickinglaw07_TestsBest.f k a b c) true := by
 unfold tickinglaw07_TestsBest.f
 refine Ev.bind (own_ev a b c) ?_
 exact best_core (cut14 a) (cutB b) (cut14 c) (cut14_len _) (cutB_len _) (cut14_len _) (fun k a b c => _) (fun k => rfl)
end Go.Proofs.YtekmiepdodaidaaDoor.X
end
